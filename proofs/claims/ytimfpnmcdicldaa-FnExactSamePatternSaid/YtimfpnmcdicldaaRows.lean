/-
  No cell of these rows narrows 'for every input' (looked for: loops, veiled, ifaces, maps, wideKeys, modest, calm, conditions, laid).
  DERIVED. THE GIVEN ROWS OF THIS SEAT. 7 by the template 'for every input the law returns true; each argument reads behind the call as it read before'; 0 by the template 'total and deterministic' (their statements: YtimfpnmcdicldaaTotals.lean).
  GIVEN WITH THE SEED: the statements are not yours to turn. If you find one false, say at which input.
  Laid BY PROGRAM, IN A SANDBOX (cutbox-rows.mjs): the forced cells as the released guide's own fill.sh prints them over the translation 439852b6fa943304… (all of the seat's roots in one cut). By AI agents, Wed Nov 11 2026. No macro, syntax, notation, axiom, sorry.
-/
import Derived.Test.YtimfpnmcdicldaaChecked
import GoSem.Claim
import GoSem.ClaimJoined
import GoSem.ClaimMapViews
import Derived.JoinedTies
import Derived.KernelRfl
namespace Go.Proofs.Ytimfpnmcdicldaa
/- THE CELL 'sum', in the pinned program and in every row, IS THE sha256 OF THE DUMP (.gsa) THAT YtimfpnmcdicldaaProg.lean LOADS. Nothing in Lean hashes anything: it is a label: what it is worth is what the hold of that sum in a sandbox is worth. -/
noncomputable def Try.pinned : Pinned := { name := "ytimfpnmcdicldaa", sum := "439852b6fa943304128f9eade5f39964433ea84785b2d63c06b1a754709511dd", checked := Try.checked }
namespace Rows
def none {H : Type} : Left H := { results := [], args := [] }

/-- 'laws.FnExactPlaceAlong': WHATEVER THE INPUT: true; the input reads as it did. -/
def fnExactPlaceAlongSpec : ChangeSpec := { name := "fnExactPlaceAlong", fn := fun _ => fun
  | [d1, d2] => { results := [.lit (.bool true)], args := [d1, d2] }
  | _ => none }
def fnExactPlaceAlongRow : OpenClaim := { program := "ytimfpnmcdicldaa", sum := "439852b6fa943304128f9eade5f39964433ea84785b2d63c06b1a754709511dd", func := "loop.example/g00953/laws.FnExactPlaceAlong", spec := "fnExactPlaceAlong", apart := false }
def FnExactPlaceAlongSaid : Prop := fnExactPlaceAlongRow.holds Try.pinned (OpenSpec.ofChange fnExactPlaceAlongSpec)

/-- ITS FALSE NEIGHBOUR: 'it returns false'. Refute it at one input. -/
def fnExactPlaceAlongWrong : ChangeSpec := { name := "fnExactPlaceAlong", fn := fun _ => fun
  | [d1, d2] => { results := [.lit (.bool false)], args := [d1, d2] }
  | _ => none }
def FnExactPlaceAlongWrongFalsely : Prop := fnExactPlaceAlongRow.holds Try.pinned (OpenSpec.ofChange fnExactPlaceAlongWrong)

/-- 'laws.FnExactInChannel': WHATEVER THE INPUT: true; the input reads as it did. -/
def fnExactInChannelSpec : ChangeSpec := { name := "fnExactInChannel", fn := fun _ => fun
  | [d1, d2] => { results := [.lit (.bool true)], args := [d1, d2] }
  | _ => none }
def fnExactInChannelRow : OpenClaim := { program := "ytimfpnmcdicldaa", sum := "439852b6fa943304128f9eade5f39964433ea84785b2d63c06b1a754709511dd", func := "loop.example/g00953/laws.FnExactInChannel", spec := "fnExactInChannel", apart := false }
def FnExactInChannelSaid : Prop := fnExactInChannelRow.holds Try.pinned (OpenSpec.ofChange fnExactInChannelSpec)

/-- ITS FALSE NEIGHBOUR: 'it returns false'. Refute it at one input. -/
def fnExactInChannelWrong : ChangeSpec := { name := "fnExactInChannel", fn := fun _ => fun
  | [d1, d2] => { results := [.lit (.bool false)], args := [d1, d2] }
  | _ => none }
def FnExactInChannelWrongFalsely : Prop := fnExactInChannelRow.holds Try.pinned (OpenSpec.ofChange fnExactInChannelWrong)

/-- 'laws.FnExactSideOfChannel': WHATEVER THE INPUT: true; the input reads as it did. -/
def fnExactSideOfChannelSpec : ChangeSpec := { name := "fnExactSideOfChannel", fn := fun _ => fun
  | [d1, d2] => { results := [.lit (.bool true)], args := [d1, d2] }
  | _ => none }
def fnExactSideOfChannelRow : OpenClaim := { program := "ytimfpnmcdicldaa", sum := "439852b6fa943304128f9eade5f39964433ea84785b2d63c06b1a754709511dd", func := "loop.example/g00953/laws.FnExactSideOfChannel", spec := "fnExactSideOfChannel", apart := false }
def FnExactSideOfChannelSaid : Prop := fnExactSideOfChannelRow.holds Try.pinned (OpenSpec.ofChange fnExactSideOfChannelSpec)

/-- ITS FALSE NEIGHBOUR: 'it returns false'. Refute it at one input. -/
def fnExactSideOfChannelWrong : ChangeSpec := { name := "fnExactSideOfChannel", fn := fun _ => fun
  | [d1, d2] => { results := [.lit (.bool false)], args := [d1, d2] }
  | _ => none }
def FnExactSideOfChannelWrongFalsely : Prop := fnExactSideOfChannelRow.holds Try.pinned (OpenSpec.ofChange fnExactSideOfChannelWrong)

/-- 'laws.FnExactGatesFor': WHATEVER THE INPUT: true; the input reads as it did. -/
def fnExactGatesForSpec : ChangeSpec := { name := "fnExactGatesFor", fn := fun _ => fun
  | [d1, d2] => { results := [.lit (.bool true)], args := [d1, d2] }
  | _ => none }
def fnExactGatesForRow : OpenClaim := { program := "ytimfpnmcdicldaa", sum := "439852b6fa943304128f9eade5f39964433ea84785b2d63c06b1a754709511dd", func := "loop.example/g00953/laws.FnExactGatesFor", spec := "fnExactGatesFor", unfollowed := true, recurses := true, apart := false }
def FnExactGatesForSaid : Prop := fnExactGatesForRow.holds Try.pinned (OpenSpec.ofChange fnExactGatesForSpec)

/-- ITS FALSE NEIGHBOUR: 'it returns false'. Refute it at one input. -/
def fnExactGatesForWrong : ChangeSpec := { name := "fnExactGatesFor", fn := fun _ => fun
  | [d1, d2] => { results := [.lit (.bool false)], args := [d1, d2] }
  | _ => none }
def FnExactGatesForWrongFalsely : Prop := fnExactGatesForRow.holds Try.pinned (OpenSpec.ofChange fnExactGatesForWrong)

/-- 'laws.FnExactBuoysFor': WHATEVER THE INPUT: true; the input reads as it did. -/
def fnExactBuoysForSpec : ChangeSpec := { name := "fnExactBuoysFor", fn := fun _ => fun
  | [d1, d2] => { results := [.lit (.bool true)], args := [d1, d2] }
  | _ => none }
def fnExactBuoysForRow : OpenClaim := { program := "ytimfpnmcdicldaa", sum := "439852b6fa943304128f9eade5f39964433ea84785b2d63c06b1a754709511dd", func := "loop.example/g00953/laws.FnExactBuoysFor", spec := "fnExactBuoysFor", unfollowed := true, recurses := true, apart := false }
def FnExactBuoysForSaid : Prop := fnExactBuoysForRow.holds Try.pinned (OpenSpec.ofChange fnExactBuoysForSpec)

/-- ITS FALSE NEIGHBOUR: 'it returns false'. Refute it at one input. -/
def fnExactBuoysForWrong : ChangeSpec := { name := "fnExactBuoysFor", fn := fun _ => fun
  | [d1, d2] => { results := [.lit (.bool false)], args := [d1, d2] }
  | _ => none }
def FnExactBuoysForWrongFalsely : Prop := fnExactBuoysForRow.holds Try.pinned (OpenSpec.ofChange fnExactBuoysForWrong)

/-- 'laws.FnExactNormalPattern': WHATEVER THE INPUT: true; the input reads as it did. -/
def fnExactNormalPatternSpec : ChangeSpec := { name := "fnExactNormalPattern", fn := fun _ => fun
  | [d] => { results := [.lit (.bool true)], args := [d] }
  | _ => none }
def fnExactNormalPatternRow : OpenClaim := { program := "ytimfpnmcdicldaa", sum := "439852b6fa943304128f9eade5f39964433ea84785b2d63c06b1a754709511dd", func := "loop.example/g00953/laws.FnExactNormalPattern", spec := "fnExactNormalPattern", inPlace := ["internal/bytealg.IndexByteString", "internal/bytealg.IndexString"], named := ["internal/bytealg.MaxLen"], apart := false }
def FnExactNormalPatternSaid : Prop := fnExactNormalPatternRow.holds Try.pinned (OpenSpec.ofChange fnExactNormalPatternSpec)

/-- ITS FALSE NEIGHBOUR: 'it returns false'. Refute it at one input. -/
def fnExactNormalPatternWrong : ChangeSpec := { name := "fnExactNormalPattern", fn := fun _ => fun
  | [d] => { results := [.lit (.bool false)], args := [d] }
  | _ => none }
def FnExactNormalPatternWrongFalsely : Prop := fnExactNormalPatternRow.holds Try.pinned (OpenSpec.ofChange fnExactNormalPatternWrong)

/-- 'laws.FnExactSamePattern': WHATEVER THE INPUT: true; the input reads as it did. -/
def fnExactSamePatternSpec : ChangeSpec := { name := "fnExactSamePattern", fn := fun _ => fun
  | [d1, d2] => { results := [.lit (.bool true)], args := [d1, d2] }
  | _ => none }
def fnExactSamePatternRow : OpenClaim := { program := "ytimfpnmcdicldaa", sum := "439852b6fa943304128f9eade5f39964433ea84785b2d63c06b1a754709511dd", func := "loop.example/g00953/laws.FnExactSamePattern", spec := "fnExactSamePattern", inPlace := ["internal/bytealg.IndexByteString", "internal/bytealg.IndexString"], named := ["internal/bytealg.MaxLen"], apart := false }
def FnExactSamePatternSaid : Prop := fnExactSamePatternRow.holds Try.pinned (OpenSpec.ofChange fnExactSamePatternSpec)

/-- ITS FALSE NEIGHBOUR: 'it returns false'. Refute it at one input. -/
def fnExactSamePatternWrong : ChangeSpec := { name := "fnExactSamePattern", fn := fun _ => fun
  | [d1, d2] => { results := [.lit (.bool false)], args := [d1, d2] }
  | _ => none }
def FnExactSamePatternWrongFalsely : Prop := fnExactSamePatternRow.holds Try.pinned (OpenSpec.ofChange fnExactSamePatternWrong)

/- THE SECOND FORM. 'bulk': how many values and letters a reading holds, each counted each time it is reached (what is shared counts as often as it is met; a slice's spare places count too). A statement '..UptoSaid' is the law's where the arguments, and the package variables that the reading takes, are together of bulk at most 1048576: NARROWER than '..Said'. Prove '..Said' where nothing that the law and all that it calls make is longer than what came in: it says more and counts as full. Else prove '..UptoSaid'. A law counts once. -/
mutual
def uptoBulk {H : Type} : DataW H → Nat
  | .lit (.string bytes) => bytes.length + 1
  | .lit _ => 1
  | .nil => 1
  | .ptr d => uptoBulk d + 1
  | .slice elems spare => uptoBulkAll elems + uptoBulkAll spare + 1
  | .agg parts => uptoBulkAll parts + 1
  | .iface _ d => uptoBulk d + 1
  | .map entries => uptoBulkEntries entries + 1
  | .held _ => 1
def uptoBulkAll {H : Type} : List (DataW H) → Nat
  | [] => 0
  | d :: r => uptoBulk d + uptoBulkAll r
def uptoBulkEntries {H : Type} : List (Lit × DataW H) → Nat
  | [] => 0
  | x :: r => uptoBulkEntry x + uptoBulkEntries r
def uptoBulkEntry {H : Type} : Lit × DataW H → Nat
  | (.string bytes, d) => bytes.length + uptoBulk d + 1
  | (_, d) => uptoBulk d + 1
 end
def uptoSmall : (H : Type) → List (DataW H) → Bool := fun _ ds => decide (uptoBulkAll ds ≤ 1048576)
def OpenSpec.upto (s : _root_.Go.ChangeSpec) : _root_.Go.OpenSpec := { _root_.Go.OpenSpec.ofChange s with cond := some uptoSmall }

/-- 'laws.FnExactPlaceAlong', WHERE WHAT IT READS IS OF BULK AT MOST 1048576: true; the input reads as it did. -/
def fnExactPlaceAlongUptoRow : OpenClaim := { program := "ytimfpnmcdicldaa", sum := "439852b6fa943304128f9eade5f39964433ea84785b2d63c06b1a754709511dd", func := "loop.example/g00953/laws.FnExactPlaceAlong", spec := "fnExactPlaceAlong", apart := false, narrowed := true }
def FnExactPlaceAlongUptoSaid : Prop := fnExactPlaceAlongUptoRow.holds Try.pinned (OpenSpec.upto fnExactPlaceAlongSpec)

/-- 'laws.FnExactInChannel', WHERE WHAT IT READS IS OF BULK AT MOST 1048576: true; the input reads as it did. -/
def fnExactInChannelUptoRow : OpenClaim := { program := "ytimfpnmcdicldaa", sum := "439852b6fa943304128f9eade5f39964433ea84785b2d63c06b1a754709511dd", func := "loop.example/g00953/laws.FnExactInChannel", spec := "fnExactInChannel", apart := false, narrowed := true }
def FnExactInChannelUptoSaid : Prop := fnExactInChannelUptoRow.holds Try.pinned (OpenSpec.upto fnExactInChannelSpec)

/-- 'laws.FnExactSideOfChannel', WHERE WHAT IT READS IS OF BULK AT MOST 1048576: true; the input reads as it did. -/
def fnExactSideOfChannelUptoRow : OpenClaim := { program := "ytimfpnmcdicldaa", sum := "439852b6fa943304128f9eade5f39964433ea84785b2d63c06b1a754709511dd", func := "loop.example/g00953/laws.FnExactSideOfChannel", spec := "fnExactSideOfChannel", apart := false, narrowed := true }
def FnExactSideOfChannelUptoSaid : Prop := fnExactSideOfChannelUptoRow.holds Try.pinned (OpenSpec.upto fnExactSideOfChannelSpec)

/-- 'laws.FnExactGatesFor', WHERE WHAT IT READS IS OF BULK AT MOST 1048576: true; the input reads as it did. -/
def fnExactGatesForUptoRow : OpenClaim := { program := "ytimfpnmcdicldaa", sum := "439852b6fa943304128f9eade5f39964433ea84785b2d63c06b1a754709511dd", func := "loop.example/g00953/laws.FnExactGatesFor", spec := "fnExactGatesFor", unfollowed := true, recurses := true, apart := false, narrowed := true }
def FnExactGatesForUptoSaid : Prop := fnExactGatesForUptoRow.holds Try.pinned (OpenSpec.upto fnExactGatesForSpec)

/-- 'laws.FnExactBuoysFor', WHERE WHAT IT READS IS OF BULK AT MOST 1048576: true; the input reads as it did. -/
def fnExactBuoysForUptoRow : OpenClaim := { program := "ytimfpnmcdicldaa", sum := "439852b6fa943304128f9eade5f39964433ea84785b2d63c06b1a754709511dd", func := "loop.example/g00953/laws.FnExactBuoysFor", spec := "fnExactBuoysFor", unfollowed := true, recurses := true, apart := false, narrowed := true }
def FnExactBuoysForUptoSaid : Prop := fnExactBuoysForUptoRow.holds Try.pinned (OpenSpec.upto fnExactBuoysForSpec)

/-- 'laws.FnExactNormalPattern', WHERE WHAT IT READS IS OF BULK AT MOST 1048576: true; the input reads as it did. -/
def fnExactNormalPatternUptoRow : OpenClaim := { program := "ytimfpnmcdicldaa", sum := "439852b6fa943304128f9eade5f39964433ea84785b2d63c06b1a754709511dd", func := "loop.example/g00953/laws.FnExactNormalPattern", spec := "fnExactNormalPattern", inPlace := ["internal/bytealg.IndexByteString", "internal/bytealg.IndexString"], named := ["internal/bytealg.MaxLen"], apart := false, narrowed := true }
def FnExactNormalPatternUptoSaid : Prop := fnExactNormalPatternUptoRow.holds Try.pinned (OpenSpec.upto fnExactNormalPatternSpec)

/-- 'laws.FnExactSamePattern', WHERE WHAT IT READS IS OF BULK AT MOST 1048576: true; the input reads as it did. -/
def fnExactSamePatternUptoRow : OpenClaim := { program := "ytimfpnmcdicldaa", sum := "439852b6fa943304128f9eade5f39964433ea84785b2d63c06b1a754709511dd", func := "loop.example/g00953/laws.FnExactSamePattern", spec := "fnExactSamePattern", inPlace := ["internal/bytealg.IndexByteString", "internal/bytealg.IndexString"], named := ["internal/bytealg.MaxLen"], apart := false, narrowed := true }
def FnExactSamePatternUptoSaid : Prop := fnExactSamePatternUptoRow.holds Try.pinned (OpenSpec.upto fnExactSamePatternSpec)

end Rows
end Go.Proofs.Ytimfpnmcdicldaa
