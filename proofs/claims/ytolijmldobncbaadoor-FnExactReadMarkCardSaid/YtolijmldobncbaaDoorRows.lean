/-
  NARROWER THAN 'FOR EVERY INPUT', by the rows' own cells (each row's printed sentence says how): FnExactStandardMark: laid · FnExactValidMark: laid · FnExactKindsLike: laid · FnExactLettersLike: laid · FnExactMarkText: laid · FnExactSpellText: laid · FnExactSendText: laid · FnExactReadSignal: laid · FnExactReadMark: laid.
  DERIVED. THE GIVEN ROWS OF THIS SEAT. 9 by the template 'for every input the law returns true; each argument reads behind the call as it read before'; 0 by the template 'total and deterministic' (their statements: YtolijmldobncbaaDoorTotals.lean).
  GIVEN WITH THE SEED: the statements are not yours to turn. If you find one false, say at which input.
  Laid BY PROGRAM, IN A SANDBOX (cutbox-rows.mjs): the forced cells as the released guide's own fill.sh prints them over the translation 0f46fbb4a65c7358… (all of the seat's roots in one cut). By AI agents, Wed Nov 11 2026. No macro, syntax, notation, axiom, sorry.
-/
import Derived.Test.YtolijmldobncbaaDoorChecked
import GoSem.PinnedTables
import GoSem.Claim
import GoSem.ClaimJoined
import GoSem.ClaimMapViews
import Derived.JoinedTies
import Derived.KernelRfl
namespace Go.Proofs.YtolijmldobncbaaDoor
/- THE CELL 'sum', in the pinned program and in every row, IS THE sha256 OF THE DUMP (.gsa) THAT YtolijmldobncbaaDoorProg.lean LOADS. Nothing in Lean hashes anything: it is a label: what it is worth is what the hold of that sum in a sandbox is worth. -/
noncomputable def Tryd.pinned : Pinned := { name := "ytolijmldobncbaadoor", sum := "0f46fbb4a65c7358b88589a879f833c2037167883a8834c90147f64e2dec9710", checked := Tryd.checked }
namespace Rows
def none {H : Type} : Left H := { results := [], args := [] }

/- WHAT THE LISTED PACKAGE-LEVEL VARIABLES READ AS WHEN THE CALL BEGINS. Each datum BY PROGRAM (the guide's laid-datum.mjs) off the statement by which the dump's own 'gosem.cut.vars' lays the variable. In a bare row this is a premise. The card (YtolijmldobncbaaDoorCards.lean) ties it to the program's text. -/
def laid_unicode_White_Space {H : Type} : DataW H := .ptr (.agg [.slice [.agg [.lit (.int .u16 9), .lit (.int .u16 13), .lit (.int .u16 1)], .agg [.lit (.int .u16 32), .lit (.int .u16 133), .lit (.int .u16 101)], .agg [.lit (.int .u16 160), .lit (.int .u16 5760), .lit (.int .u16 5600)], .agg [.lit (.int .u16 8192), .lit (.int .u16 8202), .lit (.int .u16 1)], .agg [.lit (.int .u16 8232), .lit (.int .u16 8233), .lit (.int .u16 1)], .agg [.lit (.int .u16 8239), .lit (.int .u16 8287), .lit (.int .u16 48)], .agg [.lit (.int .u16 12288), .lit (.int .u16 12288), .lit (.int .u16 1)]] [], .nil, .lit (.int .i64 2)])
def laid_strings_asciiSpace {H : Type} : DataW H := .agg [.lit (.int .u8 0), .lit (.int .u8 0), .lit (.int .u8 0), .lit (.int .u8 0), .lit (.int .u8 0), .lit (.int .u8 0), .lit (.int .u8 0), .lit (.int .u8 0), .lit (.int .u8 0), .lit (.int .u8 1), .lit (.int .u8 1), .lit (.int .u8 1), .lit (.int .u8 1), .lit (.int .u8 1), .lit (.int .u8 0), .lit (.int .u8 0), .lit (.int .u8 0), .lit (.int .u8 0), .lit (.int .u8 0), .lit (.int .u8 0), .lit (.int .u8 0), .lit (.int .u8 0), .lit (.int .u8 0), .lit (.int .u8 0), .lit (.int .u8 0), .lit (.int .u8 0), .lit (.int .u8 0), .lit (.int .u8 0), .lit (.int .u8 0), .lit (.int .u8 0), .lit (.int .u8 0), .lit (.int .u8 0), .lit (.int .u8 1), .lit (.int .u8 0), .lit (.int .u8 0), .lit (.int .u8 0), .lit (.int .u8 0), .lit (.int .u8 0), .lit (.int .u8 0), .lit (.int .u8 0), .lit (.int .u8 0), .lit (.int .u8 0), .lit (.int .u8 0), .lit (.int .u8 0), .lit (.int .u8 0), .lit (.int .u8 0), .lit (.int .u8 0), .lit (.int .u8 0), .lit (.int .u8 0), .lit (.int .u8 0), .lit (.int .u8 0), .lit (.int .u8 0), .lit (.int .u8 0), .lit (.int .u8 0), .lit (.int .u8 0), .lit (.int .u8 0), .lit (.int .u8 0), .lit (.int .u8 0), .lit (.int .u8 0), .lit (.int .u8 0), .lit (.int .u8 0), .lit (.int .u8 0), .lit (.int .u8 0), .lit (.int .u8 0), .lit (.int .u8 0), .lit (.int .u8 0), .lit (.int .u8 0), .lit (.int .u8 0), .lit (.int .u8 0), .lit (.int .u8 0), .lit (.int .u8 0), .lit (.int .u8 0), .lit (.int .u8 0), .lit (.int .u8 0), .lit (.int .u8 0), .lit (.int .u8 0), .lit (.int .u8 0), .lit (.int .u8 0), .lit (.int .u8 0), .lit (.int .u8 0), .lit (.int .u8 0), .lit (.int .u8 0), .lit (.int .u8 0), .lit (.int .u8 0), .lit (.int .u8 0), .lit (.int .u8 0), .lit (.int .u8 0), .lit (.int .u8 0), .lit (.int .u8 0), .lit (.int .u8 0), .lit (.int .u8 0), .lit (.int .u8 0), .lit (.int .u8 0), .lit (.int .u8 0), .lit (.int .u8 0), .lit (.int .u8 0), .lit (.int .u8 0), .lit (.int .u8 0), .lit (.int .u8 0), .lit (.int .u8 0), .lit (.int .u8 0), .lit (.int .u8 0), .lit (.int .u8 0), .lit (.int .u8 0), .lit (.int .u8 0), .lit (.int .u8 0), .lit (.int .u8 0), .lit (.int .u8 0), .lit (.int .u8 0), .lit (.int .u8 0), .lit (.int .u8 0), .lit (.int .u8 0), .lit (.int .u8 0), .lit (.int .u8 0), .lit (.int .u8 0), .lit (.int .u8 0), .lit (.int .u8 0), .lit (.int .u8 0), .lit (.int .u8 0), .lit (.int .u8 0), .lit (.int .u8 0), .lit (.int .u8 0), .lit (.int .u8 0), .lit (.int .u8 0), .lit (.int .u8 0), .lit (.int .u8 0), .lit (.int .u8 0), .lit (.int .u8 0), .lit (.int .u8 0), .lit (.int .u8 0), .lit (.int .u8 0), .lit (.int .u8 0), .lit (.int .u8 0), .lit (.int .u8 0), .lit (.int .u8 0), .lit (.int .u8 0), .lit (.int .u8 0), .lit (.int .u8 0), .lit (.int .u8 0), .lit (.int .u8 0), .lit (.int .u8 0), .lit (.int .u8 0), .lit (.int .u8 0), .lit (.int .u8 0), .lit (.int .u8 0), .lit (.int .u8 0), .lit (.int .u8 0), .lit (.int .u8 0), .lit (.int .u8 0), .lit (.int .u8 0), .lit (.int .u8 0), .lit (.int .u8 0), .lit (.int .u8 0), .lit (.int .u8 0), .lit (.int .u8 0), .lit (.int .u8 0), .lit (.int .u8 0), .lit (.int .u8 0), .lit (.int .u8 0), .lit (.int .u8 0), .lit (.int .u8 0), .lit (.int .u8 0), .lit (.int .u8 0), .lit (.int .u8 0), .lit (.int .u8 0), .lit (.int .u8 0), .lit (.int .u8 0), .lit (.int .u8 0), .lit (.int .u8 0), .lit (.int .u8 0), .lit (.int .u8 0), .lit (.int .u8 0), .lit (.int .u8 0), .lit (.int .u8 0), .lit (.int .u8 0), .lit (.int .u8 0), .lit (.int .u8 0), .lit (.int .u8 0), .lit (.int .u8 0), .lit (.int .u8 0), .lit (.int .u8 0), .lit (.int .u8 0), .lit (.int .u8 0), .lit (.int .u8 0), .lit (.int .u8 0), .lit (.int .u8 0), .lit (.int .u8 0), .lit (.int .u8 0), .lit (.int .u8 0), .lit (.int .u8 0), .lit (.int .u8 0), .lit (.int .u8 0), .lit (.int .u8 0), .lit (.int .u8 0), .lit (.int .u8 0), .lit (.int .u8 0), .lit (.int .u8 0), .lit (.int .u8 0), .lit (.int .u8 0), .lit (.int .u8 0), .lit (.int .u8 0), .lit (.int .u8 0), .lit (.int .u8 0), .lit (.int .u8 0), .lit (.int .u8 0), .lit (.int .u8 0), .lit (.int .u8 0), .lit (.int .u8 0), .lit (.int .u8 0), .lit (.int .u8 0), .lit (.int .u8 0), .lit (.int .u8 0), .lit (.int .u8 0), .lit (.int .u8 0), .lit (.int .u8 0), .lit (.int .u8 0), .lit (.int .u8 0), .lit (.int .u8 0), .lit (.int .u8 0), .lit (.int .u8 0), .lit (.int .u8 0), .lit (.int .u8 0), .lit (.int .u8 0), .lit (.int .u8 0), .lit (.int .u8 0), .lit (.int .u8 0), .lit (.int .u8 0), .lit (.int .u8 0), .lit (.int .u8 0), .lit (.int .u8 0), .lit (.int .u8 0), .lit (.int .u8 0), .lit (.int .u8 0), .lit (.int .u8 0), .lit (.int .u8 0), .lit (.int .u8 0), .lit (.int .u8 0), .lit (.int .u8 0), .lit (.int .u8 0), .lit (.int .u8 0), .lit (.int .u8 0), .lit (.int .u8 0), .lit (.int .u8 0), .lit (.int .u8 0), .lit (.int .u8 0), .lit (.int .u8 0), .lit (.int .u8 0), .lit (.int .u8 0), .lit (.int .u8 0), .lit (.int .u8 0), .lit (.int .u8 0), .lit (.int .u8 0), .lit (.int .u8 0), .lit (.int .u8 0), .lit (.int .u8 0), .lit (.int .u8 0)]
def laid_unicode_utf8_acceptRanges {H : Type} : DataW H := .agg [.agg [.lit (.int .u8 128), .lit (.int .u8 191)], .agg [.lit (.int .u8 160), .lit (.int .u8 191)], .agg [.lit (.int .u8 128), .lit (.int .u8 159)], .agg [.lit (.int .u8 144), .lit (.int .u8 191)], .agg [.lit (.int .u8 128), .lit (.int .u8 143)], .agg [.lit (.int .u8 0), .lit (.int .u8 0)], .agg [.lit (.int .u8 0), .lit (.int .u8 0)], .agg [.lit (.int .u8 0), .lit (.int .u8 0)], .agg [.lit (.int .u8 0), .lit (.int .u8 0)], .agg [.lit (.int .u8 0), .lit (.int .u8 0)], .agg [.lit (.int .u8 0), .lit (.int .u8 0)], .agg [.lit (.int .u8 0), .lit (.int .u8 0)], .agg [.lit (.int .u8 0), .lit (.int .u8 0)], .agg [.lit (.int .u8 0), .lit (.int .u8 0)], .agg [.lit (.int .u8 0), .lit (.int .u8 0)], .agg [.lit (.int .u8 0), .lit (.int .u8 0)]]
/-- One of Go's own tables, pinned by name: the form's constant. -/
def laid_unicode_utf8_first : DataW Unit := Go.Pinned.utf8First

/-- 'laws.FnExactStandardMark': WHATEVER THE INPUT: true; the input reads as it did. -/
def fnExactStandardMarkSpec : ChangeSpec := { name := "fnExactStandardMark", fn := fun _ => fun
  | [d] => { results := [.lit (.bool true)], args := [d] }
  | _ => none }
def fnExactStandardMarkRow : OpenClaim := { program := "ytolijmldobncbaadoor", sum := "0f46fbb4a65c7358b88589a879f833c2037167883a8834c90147f64e2dec9710", func := "loop.example/g00953/laws.FnExactStandardMark", spec := "fnExactStandardMark", unfollowed := true, recurses := true, named := ["strings.asciiSpace", "unicode.White_Space"], apart := false, laid := [("unicode.White_Space", laid_unicode_White_Space), ("strings.asciiSpace", laid_strings_asciiSpace)] }
def FnExactStandardMarkSaid : Prop := fnExactStandardMarkRow.holds Tryd.pinned (OpenSpec.ofChange fnExactStandardMarkSpec)

/-- ITS FALSE NEIGHBOUR: 'it returns false'. Refute it at one input. -/
def fnExactStandardMarkWrong : ChangeSpec := { name := "fnExactStandardMark", fn := fun _ => fun
  | [d] => { results := [.lit (.bool false)], args := [d] }
  | _ => none }
def FnExactStandardMarkWrongFalsely : Prop := fnExactStandardMarkRow.holds Tryd.pinned (OpenSpec.ofChange fnExactStandardMarkWrong)

/-- 'laws.FnExactValidMark': WHATEVER THE INPUT: true; the input reads as it did. -/
def fnExactValidMarkSpec : ChangeSpec := { name := "fnExactValidMark", fn := fun _ => fun
  | [d] => { results := [.lit (.bool true)], args := [d] }
  | _ => none }
def fnExactValidMarkRow : OpenClaim := { program := "ytolijmldobncbaadoor", sum := "0f46fbb4a65c7358b88589a879f833c2037167883a8834c90147f64e2dec9710", func := "loop.example/g00953/laws.FnExactValidMark", spec := "fnExactValidMark", unfollowed := true, recurses := true, named := ["strings.asciiSpace", "unicode.White_Space"], apart := false, laid := [("unicode.White_Space", laid_unicode_White_Space), ("strings.asciiSpace", laid_strings_asciiSpace)] }
def FnExactValidMarkSaid : Prop := fnExactValidMarkRow.holds Tryd.pinned (OpenSpec.ofChange fnExactValidMarkSpec)

/-- ITS FALSE NEIGHBOUR: 'it returns false'. Refute it at one input. -/
def fnExactValidMarkWrong : ChangeSpec := { name := "fnExactValidMark", fn := fun _ => fun
  | [d] => { results := [.lit (.bool false)], args := [d] }
  | _ => none }
def FnExactValidMarkWrongFalsely : Prop := fnExactValidMarkRow.holds Tryd.pinned (OpenSpec.ofChange fnExactValidMarkWrong)

/-- 'laws.FnExactKindsLike': WHATEVER THE INPUT: true; the input reads as it did. -/
def fnExactKindsLikeSpec : ChangeSpec := { name := "fnExactKindsLike", fn := fun _ => fun
  | [d1, d2, d3] => { results := [.lit (.bool true)], args := [d1, d2, d3] }
  | _ => none }
def fnExactKindsLikeRow : OpenClaim := { program := "ytolijmldobncbaadoor", sum := "0f46fbb4a65c7358b88589a879f833c2037167883a8834c90147f64e2dec9710", func := "loop.example/g00953/laws.FnExactKindsLike", spec := "fnExactKindsLike", unfollowed := true, recurses := true, named := ["strings.asciiSpace", "unicode.White_Space"], apart := false, laid := [("unicode.White_Space", laid_unicode_White_Space), ("strings.asciiSpace", laid_strings_asciiSpace)] }
def FnExactKindsLikeSaid : Prop := fnExactKindsLikeRow.holds Tryd.pinned (OpenSpec.ofChange fnExactKindsLikeSpec)

/-- ITS FALSE NEIGHBOUR: 'it returns false'. Refute it at one input. -/
def fnExactKindsLikeWrong : ChangeSpec := { name := "fnExactKindsLike", fn := fun _ => fun
  | [d1, d2, d3] => { results := [.lit (.bool false)], args := [d1, d2, d3] }
  | _ => none }
def FnExactKindsLikeWrongFalsely : Prop := fnExactKindsLikeRow.holds Tryd.pinned (OpenSpec.ofChange fnExactKindsLikeWrong)

/-- 'laws.FnExactLettersLike': WHATEVER THE INPUT: true; the input reads as it did. -/
def fnExactLettersLikeSpec : ChangeSpec := { name := "fnExactLettersLike", fn := fun _ => fun
  | [d] => { results := [.lit (.bool true)], args := [d] }
  | _ => none }
def fnExactLettersLikeRow : OpenClaim := { program := "ytolijmldobncbaadoor", sum := "0f46fbb4a65c7358b88589a879f833c2037167883a8834c90147f64e2dec9710", func := "loop.example/g00953/laws.FnExactLettersLike", spec := "fnExactLettersLike", inPlace := ["internal/bytealg.IndexByteString", "internal/bytealg.IndexString"], named := ["unicode/utf8.first", "unicode/utf8.acceptRanges", "internal/bytealg.MaxLen"], apart := false, laid := [("unicode/utf8.acceptRanges", laid_unicode_utf8_acceptRanges), ("unicode/utf8.first", laid_unicode_utf8_first)] }
def FnExactLettersLikeSaid : Prop := fnExactLettersLikeRow.holds Tryd.pinned (OpenSpec.ofChange fnExactLettersLikeSpec)

/-- ITS FALSE NEIGHBOUR: 'it returns false'. Refute it at one input. -/
def fnExactLettersLikeWrong : ChangeSpec := { name := "fnExactLettersLike", fn := fun _ => fun
  | [d] => { results := [.lit (.bool false)], args := [d] }
  | _ => none }
def FnExactLettersLikeWrongFalsely : Prop := fnExactLettersLikeRow.holds Tryd.pinned (OpenSpec.ofChange fnExactLettersLikeWrong)

/-- 'laws.FnExactMarkText': WHATEVER THE INPUT: true; the input reads as it did. -/
def fnExactMarkTextSpec : ChangeSpec := { name := "fnExactMarkText", fn := fun _ => fun
  | [d] => { results := [.lit (.bool true)], args := [d] }
  | _ => none }
def fnExactMarkTextRow : OpenClaim := { program := "ytolijmldobncbaadoor", sum := "0f46fbb4a65c7358b88589a879f833c2037167883a8834c90147f64e2dec9710", func := "loop.example/g00953/laws.FnExactMarkText", spec := "fnExactMarkText", inPlace := ["internal/abi.NoEscape", "internal/bytealg.MakeNoZero"], unfollowed := true, recurses := true, named := ["strings.asciiSpace", "unicode.White_Space"], apart := false, laid := [("unicode.White_Space", laid_unicode_White_Space), ("strings.asciiSpace", laid_strings_asciiSpace)] }
def FnExactMarkTextSaid : Prop := fnExactMarkTextRow.holds Tryd.pinned (OpenSpec.ofChange fnExactMarkTextSpec)

/-- ITS FALSE NEIGHBOUR: 'it returns false'. Refute it at one input. -/
def fnExactMarkTextWrong : ChangeSpec := { name := "fnExactMarkText", fn := fun _ => fun
  | [d] => { results := [.lit (.bool false)], args := [d] }
  | _ => none }
def FnExactMarkTextWrongFalsely : Prop := fnExactMarkTextRow.holds Tryd.pinned (OpenSpec.ofChange fnExactMarkTextWrong)

/-- 'laws.FnExactSpellText': WHATEVER THE INPUT: true; the input reads as it did. -/
def fnExactSpellTextSpec : ChangeSpec := { name := "fnExactSpellText", fn := fun _ => fun
  | [d] => { results := [.lit (.bool true)], args := [d] }
  | _ => none }
def fnExactSpellTextRow : OpenClaim := { program := "ytolijmldobncbaadoor", sum := "0f46fbb4a65c7358b88589a879f833c2037167883a8834c90147f64e2dec9710", func := "loop.example/g00953/laws.FnExactSpellText", spec := "fnExactSpellText", inPlace := ["internal/bytealg.CountString", "internal/bytealg.IndexByteString", "internal/bytealg.IndexString", "internal/abi.NoEscape", "internal/bytealg.MakeNoZero"], named := ["unicode/utf8.first", "unicode/utf8.acceptRanges", "internal/bytealg.MaxLen"], apart := false, laid := [("unicode/utf8.acceptRanges", laid_unicode_utf8_acceptRanges), ("unicode/utf8.first", laid_unicode_utf8_first)] }
def FnExactSpellTextSaid : Prop := fnExactSpellTextRow.holds Tryd.pinned (OpenSpec.ofChange fnExactSpellTextSpec)

/-- ITS FALSE NEIGHBOUR: 'it returns false'. Refute it at one input. -/
def fnExactSpellTextWrong : ChangeSpec := { name := "fnExactSpellText", fn := fun _ => fun
  | [d] => { results := [.lit (.bool false)], args := [d] }
  | _ => none }
def FnExactSpellTextWrongFalsely : Prop := fnExactSpellTextRow.holds Tryd.pinned (OpenSpec.ofChange fnExactSpellTextWrong)

/-- 'laws.FnExactSendText': WHATEVER THE INPUT: true; the input reads as it did. -/
def fnExactSendTextSpec : ChangeSpec := { name := "fnExactSendText", fn := fun _ => fun
  | [d1, d2, d3] => { results := [.lit (.bool true)], args := [d1, d2, d3] }
  | _ => none }
def fnExactSendTextRow : OpenClaim := { program := "ytolijmldobncbaadoor", sum := "0f46fbb4a65c7358b88589a879f833c2037167883a8834c90147f64e2dec9710", func := "loop.example/g00953/laws.FnExactSendText", spec := "fnExactSendText", inPlace := ["internal/bytealg.CountString", "internal/bytealg.IndexByteString", "internal/bytealg.IndexString"], named := ["unicode/utf8.first", "unicode/utf8.acceptRanges", "internal/bytealg.MaxLen"], apart := false, laid := [("unicode/utf8.acceptRanges", laid_unicode_utf8_acceptRanges), ("unicode/utf8.first", laid_unicode_utf8_first)] }
def FnExactSendTextSaid : Prop := fnExactSendTextRow.holds Tryd.pinned (OpenSpec.ofChange fnExactSendTextSpec)

/-- ITS FALSE NEIGHBOUR: 'it returns false'. Refute it at one input. -/
def fnExactSendTextWrong : ChangeSpec := { name := "fnExactSendText", fn := fun _ => fun
  | [d1, d2, d3] => { results := [.lit (.bool false)], args := [d1, d2, d3] }
  | _ => none }
def FnExactSendTextWrongFalsely : Prop := fnExactSendTextRow.holds Tryd.pinned (OpenSpec.ofChange fnExactSendTextWrong)

/-- 'laws.FnExactReadSignal': WHATEVER THE INPUT: true; the input reads as it did. -/
def fnExactReadSignalSpec : ChangeSpec := { name := "fnExactReadSignal", fn := fun _ => fun
  | [d1, d2] => { results := [.lit (.bool true)], args := [d1, d2] }
  | _ => none }
def fnExactReadSignalRow : OpenClaim := { program := "ytolijmldobncbaadoor", sum := "0f46fbb4a65c7358b88589a879f833c2037167883a8834c90147f64e2dec9710", func := "loop.example/g00953/laws.FnExactReadSignal", spec := "fnExactReadSignal", inPlace := ["internal/bytealg.IndexByteString", "internal/bytealg.IndexString", "internal/bytealg.CountString"], named := ["internal/bytealg.MaxLen", "unicode/utf8.first", "unicode/utf8.acceptRanges"], apart := false, laid := [("unicode/utf8.acceptRanges", laid_unicode_utf8_acceptRanges), ("unicode/utf8.first", laid_unicode_utf8_first)] }
def FnExactReadSignalSaid : Prop := fnExactReadSignalRow.holds Tryd.pinned (OpenSpec.ofChange fnExactReadSignalSpec)

/-- ITS FALSE NEIGHBOUR: 'it returns false'. Refute it at one input. -/
def fnExactReadSignalWrong : ChangeSpec := { name := "fnExactReadSignal", fn := fun _ => fun
  | [d1, d2] => { results := [.lit (.bool false)], args := [d1, d2] }
  | _ => none }
def FnExactReadSignalWrongFalsely : Prop := fnExactReadSignalRow.holds Tryd.pinned (OpenSpec.ofChange fnExactReadSignalWrong)

/-- 'laws.FnExactReadMark': WHATEVER THE INPUT: true; the input reads as it did. -/
def fnExactReadMarkSpec : ChangeSpec := { name := "fnExactReadMark", fn := fun _ => fun
  | [d] => { results := [.lit (.bool true)], args := [d] }
  | _ => none }
def fnExactReadMarkRow : OpenClaim := { program := "ytolijmldobncbaadoor", sum := "0f46fbb4a65c7358b88589a879f833c2037167883a8834c90147f64e2dec9710", func := "loop.example/g00953/laws.FnExactReadMark", spec := "fnExactReadMark", inPlace := ["internal/bytealg.CountString", "internal/bytealg.IndexByteString", "internal/bytealg.IndexString", "internal/abi.NoEscape", "internal/bytealg.MakeNoZero"], unfollowed := true, recurses := true, named := ["unicode/utf8.first", "unicode/utf8.acceptRanges", "internal/bytealg.MaxLen", "strings.asciiSpace", "unicode.White_Space"], apart := false, laid := [("unicode/utf8.acceptRanges", laid_unicode_utf8_acceptRanges), ("unicode.White_Space", laid_unicode_White_Space), ("strings.asciiSpace", laid_strings_asciiSpace), ("unicode/utf8.first", laid_unicode_utf8_first)] }
def FnExactReadMarkSaid : Prop := fnExactReadMarkRow.holds Tryd.pinned (OpenSpec.ofChange fnExactReadMarkSpec)

/-- ITS FALSE NEIGHBOUR: 'it returns false'. Refute it at one input. -/
def fnExactReadMarkWrong : ChangeSpec := { name := "fnExactReadMark", fn := fun _ => fun
  | [d] => { results := [.lit (.bool false)], args := [d] }
  | _ => none }
def FnExactReadMarkWrongFalsely : Prop := fnExactReadMarkRow.holds Tryd.pinned (OpenSpec.ofChange fnExactReadMarkWrong)

/- THE SECOND FORM. 'bulk': how many values and letters a reading holds, each counted each time it is reached (what is shared counts as often as it is met; a slice's spare places count too). A statement '..UptoSaid' is the law's where the arguments, and the package variables that the reading takes, are together of bulk at most 1048576: NARROWER than '..Said'. Prove '..Said' where nothing that the law and all that it calls make is longer than what came in: it says more and counts as full. Else prove '..UptoSaid'. A law counts once. -/
mutual
def uptoBulk {H : Type} : DataW H → Nat
  | .lit (.string bytes) => bytes.length + 1
  | .lit _ => 1
  | .nil => 1
  | .ptr d => uptoBulk d + 1
  | .slice elems spare => uptoBulkAll elems + uptoBulkAll spare + 1
  | .agg parts => uptoBulkAll parts + 1
  | .iface _ d => uptoBulk d + 1
  | .map entries => uptoBulkEntries entries + 1
  | .held _ => 1
def uptoBulkAll {H : Type} : List (DataW H) → Nat
  | [] => 0
  | d :: r => uptoBulk d + uptoBulkAll r
def uptoBulkEntries {H : Type} : List (Lit × DataW H) → Nat
  | [] => 0
  | x :: r => uptoBulkEntry x + uptoBulkEntries r
def uptoBulkEntry {H : Type} : Lit × DataW H → Nat
  | (.string bytes, d) => bytes.length + uptoBulk d + 1
  | (_, d) => uptoBulk d + 1
 end
def uptoSmall : (H : Type) → List (DataW H) → Bool := fun _ ds => decide (uptoBulkAll ds ≤ 1048576)
def OpenSpec.upto (s : _root_.Go.ChangeSpec) : _root_.Go.OpenSpec := { _root_.Go.OpenSpec.ofChange s with cond := some uptoSmall }

/-- 'laws.FnExactStandardMark', WHERE WHAT IT READS IS OF BULK AT MOST 1048576: true; the input reads as it did. -/
def fnExactStandardMarkUptoRow : OpenClaim := { program := "ytolijmldobncbaadoor", sum := "0f46fbb4a65c7358b88589a879f833c2037167883a8834c90147f64e2dec9710", func := "loop.example/g00953/laws.FnExactStandardMark", spec := "fnExactStandardMark", unfollowed := true, recurses := true, named := ["strings.asciiSpace", "unicode.White_Space"], apart := false, laid := [("unicode.White_Space", laid_unicode_White_Space), ("strings.asciiSpace", laid_strings_asciiSpace)], narrowed := true }
def FnExactStandardMarkUptoSaid : Prop := fnExactStandardMarkUptoRow.holds Tryd.pinned (OpenSpec.upto fnExactStandardMarkSpec)

/-- 'laws.FnExactValidMark', WHERE WHAT IT READS IS OF BULK AT MOST 1048576: true; the input reads as it did. -/
def fnExactValidMarkUptoRow : OpenClaim := { program := "ytolijmldobncbaadoor", sum := "0f46fbb4a65c7358b88589a879f833c2037167883a8834c90147f64e2dec9710", func := "loop.example/g00953/laws.FnExactValidMark", spec := "fnExactValidMark", unfollowed := true, recurses := true, named := ["strings.asciiSpace", "unicode.White_Space"], apart := false, laid := [("unicode.White_Space", laid_unicode_White_Space), ("strings.asciiSpace", laid_strings_asciiSpace)], narrowed := true }
def FnExactValidMarkUptoSaid : Prop := fnExactValidMarkUptoRow.holds Tryd.pinned (OpenSpec.upto fnExactValidMarkSpec)

/-- 'laws.FnExactKindsLike', WHERE WHAT IT READS IS OF BULK AT MOST 1048576: true; the input reads as it did. -/
def fnExactKindsLikeUptoRow : OpenClaim := { program := "ytolijmldobncbaadoor", sum := "0f46fbb4a65c7358b88589a879f833c2037167883a8834c90147f64e2dec9710", func := "loop.example/g00953/laws.FnExactKindsLike", spec := "fnExactKindsLike", unfollowed := true, recurses := true, named := ["strings.asciiSpace", "unicode.White_Space"], apart := false, laid := [("unicode.White_Space", laid_unicode_White_Space), ("strings.asciiSpace", laid_strings_asciiSpace)], narrowed := true }
def FnExactKindsLikeUptoSaid : Prop := fnExactKindsLikeUptoRow.holds Tryd.pinned (OpenSpec.upto fnExactKindsLikeSpec)

/-- 'laws.FnExactLettersLike', WHERE WHAT IT READS IS OF BULK AT MOST 1048576: true; the input reads as it did. -/
def fnExactLettersLikeUptoRow : OpenClaim := { program := "ytolijmldobncbaadoor", sum := "0f46fbb4a65c7358b88589a879f833c2037167883a8834c90147f64e2dec9710", func := "loop.example/g00953/laws.FnExactLettersLike", spec := "fnExactLettersLike", inPlace := ["internal/bytealg.IndexByteString", "internal/bytealg.IndexString"], named := ["unicode/utf8.first", "unicode/utf8.acceptRanges", "internal/bytealg.MaxLen"], apart := false, laid := [("unicode/utf8.acceptRanges", laid_unicode_utf8_acceptRanges), ("unicode/utf8.first", laid_unicode_utf8_first)], narrowed := true }
def FnExactLettersLikeUptoSaid : Prop := fnExactLettersLikeUptoRow.holds Tryd.pinned (OpenSpec.upto fnExactLettersLikeSpec)

/-- 'laws.FnExactMarkText', WHERE WHAT IT READS IS OF BULK AT MOST 1048576: true; the input reads as it did. -/
def fnExactMarkTextUptoRow : OpenClaim := { program := "ytolijmldobncbaadoor", sum := "0f46fbb4a65c7358b88589a879f833c2037167883a8834c90147f64e2dec9710", func := "loop.example/g00953/laws.FnExactMarkText", spec := "fnExactMarkText", inPlace := ["internal/abi.NoEscape", "internal/bytealg.MakeNoZero"], unfollowed := true, recurses := true, named := ["strings.asciiSpace", "unicode.White_Space"], apart := false, laid := [("unicode.White_Space", laid_unicode_White_Space), ("strings.asciiSpace", laid_strings_asciiSpace)], narrowed := true }
def FnExactMarkTextUptoSaid : Prop := fnExactMarkTextUptoRow.holds Tryd.pinned (OpenSpec.upto fnExactMarkTextSpec)

/-- 'laws.FnExactSpellText', WHERE WHAT IT READS IS OF BULK AT MOST 1048576: true; the input reads as it did. -/
def fnExactSpellTextUptoRow : OpenClaim := { program := "ytolijmldobncbaadoor", sum := "0f46fbb4a65c7358b88589a879f833c2037167883a8834c90147f64e2dec9710", func := "loop.example/g00953/laws.FnExactSpellText", spec := "fnExactSpellText", inPlace := ["internal/bytealg.CountString", "internal/bytealg.IndexByteString", "internal/bytealg.IndexString", "internal/abi.NoEscape", "internal/bytealg.MakeNoZero"], named := ["unicode/utf8.first", "unicode/utf8.acceptRanges", "internal/bytealg.MaxLen"], apart := false, laid := [("unicode/utf8.acceptRanges", laid_unicode_utf8_acceptRanges), ("unicode/utf8.first", laid_unicode_utf8_first)], narrowed := true }
def FnExactSpellTextUptoSaid : Prop := fnExactSpellTextUptoRow.holds Tryd.pinned (OpenSpec.upto fnExactSpellTextSpec)

/-- 'laws.FnExactSendText', WHERE WHAT IT READS IS OF BULK AT MOST 1048576: true; the input reads as it did. -/
def fnExactSendTextUptoRow : OpenClaim := { program := "ytolijmldobncbaadoor", sum := "0f46fbb4a65c7358b88589a879f833c2037167883a8834c90147f64e2dec9710", func := "loop.example/g00953/laws.FnExactSendText", spec := "fnExactSendText", inPlace := ["internal/bytealg.CountString", "internal/bytealg.IndexByteString", "internal/bytealg.IndexString"], named := ["unicode/utf8.first", "unicode/utf8.acceptRanges", "internal/bytealg.MaxLen"], apart := false, laid := [("unicode/utf8.acceptRanges", laid_unicode_utf8_acceptRanges), ("unicode/utf8.first", laid_unicode_utf8_first)], narrowed := true }
def FnExactSendTextUptoSaid : Prop := fnExactSendTextUptoRow.holds Tryd.pinned (OpenSpec.upto fnExactSendTextSpec)

/-- 'laws.FnExactReadSignal', WHERE WHAT IT READS IS OF BULK AT MOST 1048576: true; the input reads as it did. -/
def fnExactReadSignalUptoRow : OpenClaim := { program := "ytolijmldobncbaadoor", sum := "0f46fbb4a65c7358b88589a879f833c2037167883a8834c90147f64e2dec9710", func := "loop.example/g00953/laws.FnExactReadSignal", spec := "fnExactReadSignal", inPlace := ["internal/bytealg.IndexByteString", "internal/bytealg.IndexString", "internal/bytealg.CountString"], named := ["internal/bytealg.MaxLen", "unicode/utf8.first", "unicode/utf8.acceptRanges"], apart := false, laid := [("unicode/utf8.acceptRanges", laid_unicode_utf8_acceptRanges), ("unicode/utf8.first", laid_unicode_utf8_first)], narrowed := true }
def FnExactReadSignalUptoSaid : Prop := fnExactReadSignalUptoRow.holds Tryd.pinned (OpenSpec.upto fnExactReadSignalSpec)

/-- 'laws.FnExactReadMark', WHERE WHAT IT READS IS OF BULK AT MOST 1048576: true; the input reads as it did. -/
def fnExactReadMarkUptoRow : OpenClaim := { program := "ytolijmldobncbaadoor", sum := "0f46fbb4a65c7358b88589a879f833c2037167883a8834c90147f64e2dec9710", func := "loop.example/g00953/laws.FnExactReadMark", spec := "fnExactReadMark", inPlace := ["internal/bytealg.CountString", "internal/bytealg.IndexByteString", "internal/bytealg.IndexString", "internal/abi.NoEscape", "internal/bytealg.MakeNoZero"], unfollowed := true, recurses := true, named := ["unicode/utf8.first", "unicode/utf8.acceptRanges", "internal/bytealg.MaxLen", "strings.asciiSpace", "unicode.White_Space"], apart := false, laid := [("unicode/utf8.acceptRanges", laid_unicode_utf8_acceptRanges), ("unicode.White_Space", laid_unicode_White_Space), ("strings.asciiSpace", laid_strings_asciiSpace), ("unicode/utf8.first", laid_unicode_utf8_first)], narrowed := true }
def FnExactReadMarkUptoSaid : Prop := fnExactReadMarkUptoRow.holds Tryd.pinned (OpenSpec.upto fnExactReadMarkSpec)

end Rows
end Go.Proofs.YtolijmldobncbaaDoor
