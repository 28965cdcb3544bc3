/-
  No cell of these rows narrows 'for every input' (looked for: loops, veiled, ifaces, maps, wideKeys, modest, calm, conditions, laid).
  DERIVED. THE GIVEN ROWS OF THIS SEAT. 12 by the template 'for every input the law returns true; each argument reads behind the call as it read before'; 0 by the template 'total and deterministic' (their statements: YtfmljppofkocmaaTotals.lean).
  GIVEN WITH THE SEED: the statements are not yours to turn. If you find one false, say at which input.
  Laid BY PROGRAM, IN A SANDBOX (cutbox-rows.mjs): the forced cells as the released guide's own fill.sh prints them over the translation b97f3286a2009388… (all of the seat's roots in one cut). By AI agents, Wed Nov 11 2026. No macro, syntax, notation, axiom, sorry.
-/
import Derived.Test.YtfmljppofkocmaaChecked
import GoSem.Claim
import GoSem.ClaimJoined
import GoSem.ClaimMapViews
import Derived.JoinedTies
import Derived.KernelRfl
namespace Go.Proofs.Ytfmljppofkocmaa
/- THE CELL 'sum', in the pinned program and in every row, IS THE sha256 OF THE DUMP (.gsa) THAT YtfmljppofkocmaaProg.lean LOADS. Nothing in Lean hashes anything: it is a label: what it is worth is what the hold of that sum in a sandbox is worth. -/
noncomputable def Try.pinned : Pinned := { name := "ytfmljppofkocmaa", sum := "b97f3286a2009388684927727d0726b6d619bd0b04fbf674a9c66ff409c990aa", checked := Try.checked }
namespace Rows
def none {H : Type} : Left H := { results := [], args := [] }

/-- 'laws.FnExactMorseOf': WHATEVER THE INPUT: true; the input reads as it did. -/
def fnExactMorseOfSpec : ChangeSpec := { name := "fnExactMorseOf", fn := fun _ => fun
  | [d] => { results := [.lit (.bool true)], args := [d] }
  | _ => none }
def fnExactMorseOfRow : OpenClaim := { program := "ytfmljppofkocmaa", sum := "b97f3286a2009388684927727d0726b6d619bd0b04fbf674a9c66ff409c990aa", func := "loop.example/g00953/laws.FnExactMorseOf", spec := "fnExactMorseOf", apart := false }
def FnExactMorseOfSaid : Prop := fnExactMorseOfRow.holds Try.pinned (OpenSpec.ofChange fnExactMorseOfSpec)

/-- ITS FALSE NEIGHBOUR: 'it returns false'. Refute it at one input. -/
def fnExactMorseOfWrong : ChangeSpec := { name := "fnExactMorseOf", fn := fun _ => fun
  | [d] => { results := [.lit (.bool false)], args := [d] }
  | _ => none }
def FnExactMorseOfWrongFalsely : Prop := fnExactMorseOfRow.holds Try.pinned (OpenSpec.ofChange fnExactMorseOfWrong)

/-- 'laws.FnExactLetterOf': WHATEVER THE INPUT: true; the input reads as it did. -/
def fnExactLetterOfSpec : ChangeSpec := { name := "fnExactLetterOf", fn := fun _ => fun
  | [d] => { results := [.lit (.bool true)], args := [d] }
  | _ => none }
def fnExactLetterOfRow : OpenClaim := { program := "ytfmljppofkocmaa", sum := "b97f3286a2009388684927727d0726b6d619bd0b04fbf674a9c66ff409c990aa", func := "loop.example/g00953/laws.FnExactLetterOf", spec := "fnExactLetterOf", apart := false }
def FnExactLetterOfSaid : Prop := fnExactLetterOfRow.holds Try.pinned (OpenSpec.ofChange fnExactLetterOfSpec)

/-- ITS FALSE NEIGHBOUR: 'it returns false'. Refute it at one input. -/
def fnExactLetterOfWrong : ChangeSpec := { name := "fnExactLetterOf", fn := fun _ => fun
  | [d] => { results := [.lit (.bool false)], args := [d] }
  | _ => none }
def FnExactLetterOfWrongFalsely : Prop := fnExactLetterOfRow.holds Try.pinned (OpenSpec.ofChange fnExactLetterOfWrong)

/-- 'laws.FnExactMorseLength': WHATEVER THE INPUT: true; the input reads as it did. -/
def fnExactMorseLengthSpec : ChangeSpec := { name := "fnExactMorseLength", fn := fun _ => fun
  | [d] => { results := [.lit (.bool true)], args := [d] }
  | _ => none }
def fnExactMorseLengthRow : OpenClaim := { program := "ytfmljppofkocmaa", sum := "b97f3286a2009388684927727d0726b6d619bd0b04fbf674a9c66ff409c990aa", func := "loop.example/g00953/laws.FnExactMorseLength", spec := "fnExactMorseLength", apart := false }
def FnExactMorseLengthSaid : Prop := fnExactMorseLengthRow.holds Try.pinned (OpenSpec.ofChange fnExactMorseLengthSpec)

/-- ITS FALSE NEIGHBOUR: 'it returns false'. Refute it at one input. -/
def fnExactMorseLengthWrong : ChangeSpec := { name := "fnExactMorseLength", fn := fun _ => fun
  | [d] => { results := [.lit (.bool false)], args := [d] }
  | _ => none }
def FnExactMorseLengthWrongFalsely : Prop := fnExactMorseLengthRow.holds Try.pinned (OpenSpec.ofChange fnExactMorseLengthWrong)

/-- 'laws.FnExactSameSectors': WHATEVER THE INPUT: true; the input reads as it did. -/
def fnExactSameSectorsSpec : ChangeSpec := { name := "fnExactSameSectors", fn := fun _ => fun
  | [d1, d2] => { results := [.lit (.bool true)], args := [d1, d2] }
  | _ => none }
def fnExactSameSectorsRow : OpenClaim := { program := "ytfmljppofkocmaa", sum := "b97f3286a2009388684927727d0726b6d619bd0b04fbf674a9c66ff409c990aa", func := "loop.example/g00953/laws.FnExactSameSectors", spec := "fnExactSameSectors", apart := false }
def FnExactSameSectorsSaid : Prop := fnExactSameSectorsRow.holds Try.pinned (OpenSpec.ofChange fnExactSameSectorsSpec)

/-- ITS FALSE NEIGHBOUR: 'it returns false'. Refute it at one input. -/
def fnExactSameSectorsWrong : ChangeSpec := { name := "fnExactSameSectors", fn := fun _ => fun
  | [d1, d2] => { results := [.lit (.bool false)], args := [d1, d2] }
  | _ => none }
def FnExactSameSectorsWrongFalsely : Prop := fnExactSameSectorsRow.holds Try.pinned (OpenSpec.ofChange fnExactSameSectorsWrong)

/-- 'laws.FnExactValidBuoys': WHATEVER THE INPUT: true; the input reads as it did. -/
def fnExactValidBuoysSpec : ChangeSpec := { name := "fnExactValidBuoys", fn := fun _ => fun
  | [d] => { results := [.lit (.bool true)], args := [d] }
  | _ => none }
def fnExactValidBuoysRow : OpenClaim := { program := "ytfmljppofkocmaa", sum := "b97f3286a2009388684927727d0726b6d619bd0b04fbf674a9c66ff409c990aa", func := "loop.example/g00953/laws.FnExactValidBuoys", spec := "fnExactValidBuoys", apart := false }
def FnExactValidBuoysSaid : Prop := fnExactValidBuoysRow.holds Try.pinned (OpenSpec.ofChange fnExactValidBuoysSpec)

/-- ITS FALSE NEIGHBOUR: 'it returns false'. Refute it at one input. -/
def fnExactValidBuoysWrong : ChangeSpec := { name := "fnExactValidBuoys", fn := fun _ => fun
  | [d] => { results := [.lit (.bool false)], args := [d] }
  | _ => none }
def FnExactValidBuoysWrongFalsely : Prop := fnExactValidBuoysRow.holds Try.pinned (OpenSpec.ofChange fnExactValidBuoysWrong)

/-- 'laws.FnExactSameChannel': WHATEVER THE INPUT: true; the input reads as it did. -/
def fnExactSameChannelSpec : ChangeSpec := { name := "fnExactSameChannel", fn := fun _ => fun
  | [d1, d2] => { results := [.lit (.bool true)], args := [d1, d2] }
  | _ => none }
def fnExactSameChannelRow : OpenClaim := { program := "ytfmljppofkocmaa", sum := "b97f3286a2009388684927727d0726b6d619bd0b04fbf674a9c66ff409c990aa", func := "loop.example/g00953/laws.FnExactSameChannel", spec := "fnExactSameChannel", apart := false }
def FnExactSameChannelSaid : Prop := fnExactSameChannelRow.holds Try.pinned (OpenSpec.ofChange fnExactSameChannelSpec)

/-- ITS FALSE NEIGHBOUR: 'it returns false'. Refute it at one input. -/
def fnExactSameChannelWrong : ChangeSpec := { name := "fnExactSameChannel", fn := fun _ => fun
  | [d1, d2] => { results := [.lit (.bool false)], args := [d1, d2] }
  | _ => none }
def FnExactSameChannelWrongFalsely : Prop := fnExactSameChannelRow.holds Try.pinned (OpenSpec.ofChange fnExactSameChannelWrong)

/-- 'laws.FnExactBlastsOf': WHATEVER THE INPUT: true; the input reads as it did. -/
def fnExactBlastsOfSpec : ChangeSpec := { name := "fnExactBlastsOf", fn := fun _ => fun
  | [d] => { results := [.lit (.bool true)], args := [d] }
  | _ => none }
def fnExactBlastsOfRow : OpenClaim := { program := "ytfmljppofkocmaa", sum := "b97f3286a2009388684927727d0726b6d619bd0b04fbf674a9c66ff409c990aa", func := "loop.example/g00953/laws.FnExactBlastsOf", spec := "fnExactBlastsOf", apart := false }
def FnExactBlastsOfSaid : Prop := fnExactBlastsOfRow.holds Try.pinned (OpenSpec.ofChange fnExactBlastsOfSpec)

/-- ITS FALSE NEIGHBOUR: 'it returns false'. Refute it at one input. -/
def fnExactBlastsOfWrong : ChangeSpec := { name := "fnExactBlastsOf", fn := fun _ => fun
  | [d] => { results := [.lit (.bool false)], args := [d] }
  | _ => none }
def FnExactBlastsOfWrongFalsely : Prop := fnExactBlastsOfRow.holds Try.pinned (OpenSpec.ofChange fnExactBlastsOfWrong)

/-- 'laws.FnExactValidChannel': WHATEVER THE INPUT: true; the input reads as it did. -/
def fnExactValidChannelSpec : ChangeSpec := { name := "fnExactValidChannel", fn := fun _ => fun
  | [d] => { results := [.lit (.bool true)], args := [d] }
  | _ => none }
def fnExactValidChannelRow : OpenClaim := { program := "ytfmljppofkocmaa", sum := "b97f3286a2009388684927727d0726b6d619bd0b04fbf674a9c66ff409c990aa", func := "loop.example/g00953/laws.FnExactValidChannel", spec := "fnExactValidChannel", apart := false }
def FnExactValidChannelSaid : Prop := fnExactValidChannelRow.holds Try.pinned (OpenSpec.ofChange fnExactValidChannelSpec)

/-- ITS FALSE NEIGHBOUR: 'it returns false'. Refute it at one input. -/
def fnExactValidChannelWrong : ChangeSpec := { name := "fnExactValidChannel", fn := fun _ => fun
  | [d] => { results := [.lit (.bool false)], args := [d] }
  | _ => none }
def FnExactValidChannelWrongFalsely : Prop := fnExactValidChannelRow.holds Try.pinned (OpenSpec.ofChange fnExactValidChannelWrong)

/-- 'laws.FnExactValidSector': WHATEVER THE INPUT: true; the input reads as it did. -/
def fnExactValidSectorSpec : ChangeSpec := { name := "fnExactValidSector", fn := fun _ => fun
  | [d] => { results := [.lit (.bool true)], args := [d] }
  | _ => none }
def fnExactValidSectorRow : OpenClaim := { program := "ytfmljppofkocmaa", sum := "b97f3286a2009388684927727d0726b6d619bd0b04fbf674a9c66ff409c990aa", func := "loop.example/g00953/laws.FnExactValidSector", spec := "fnExactValidSector", inPlace := ["internal/bytealg.IndexByteString", "internal/bytealg.IndexString"], named := ["internal/bytealg.MaxLen"], apart := false }
def FnExactValidSectorSaid : Prop := fnExactValidSectorRow.holds Try.pinned (OpenSpec.ofChange fnExactValidSectorSpec)

/-- ITS FALSE NEIGHBOUR: 'it returns false'. Refute it at one input. -/
def fnExactValidSectorWrong : ChangeSpec := { name := "fnExactValidSector", fn := fun _ => fun
  | [d] => { results := [.lit (.bool false)], args := [d] }
  | _ => none }
def FnExactValidSectorWrongFalsely : Prop := fnExactValidSectorRow.holds Try.pinned (OpenSpec.ofChange fnExactValidSectorWrong)

/-- 'laws.FnExactHeardFrom': WHATEVER THE INPUT: true; the input reads as it did. -/
def fnExactHeardFromSpec : ChangeSpec := { name := "fnExactHeardFrom", fn := fun _ => fun
  | [d1, d2, d3, d4] => { results := [.lit (.bool true)], args := [d1, d2, d3, d4] }
  | _ => none }
def fnExactHeardFromRow : OpenClaim := { program := "ytfmljppofkocmaa", sum := "b97f3286a2009388684927727d0726b6d619bd0b04fbf674a9c66ff409c990aa", func := "loop.example/g00953/laws.FnExactHeardFrom", spec := "fnExactHeardFrom", apart := false }
def FnExactHeardFromSaid : Prop := fnExactHeardFromRow.holds Try.pinned (OpenSpec.ofChange fnExactHeardFromSpec)

/-- ITS FALSE NEIGHBOUR: 'it returns false'. Refute it at one input. -/
def fnExactHeardFromWrong : ChangeSpec := { name := "fnExactHeardFrom", fn := fun _ => fun
  | [d1, d2, d3, d4] => { results := [.lit (.bool false)], args := [d1, d2, d3, d4] }
  | _ => none }
def FnExactHeardFromWrongFalsely : Prop := fnExactHeardFromRow.holds Try.pinned (OpenSpec.ofChange fnExactHeardFromWrong)

/-- 'laws.FnExactReverseChannel': WHATEVER THE INPUT: true; the input reads as it did. -/
def fnExactReverseChannelSpec : ChangeSpec := { name := "fnExactReverseChannel", fn := fun _ => fun
  | [d] => { results := [.lit (.bool true)], args := [d] }
  | _ => none }
def fnExactReverseChannelRow : OpenClaim := { program := "ytfmljppofkocmaa", sum := "b97f3286a2009388684927727d0726b6d619bd0b04fbf674a9c66ff409c990aa", func := "loop.example/g00953/laws.FnExactReverseChannel", spec := "fnExactReverseChannel", apart := false }
def FnExactReverseChannelSaid : Prop := fnExactReverseChannelRow.holds Try.pinned (OpenSpec.ofChange fnExactReverseChannelSpec)

/-- ITS FALSE NEIGHBOUR: 'it returns false'. Refute it at one input. -/
def fnExactReverseChannelWrong : ChangeSpec := { name := "fnExactReverseChannel", fn := fun _ => fun
  | [d] => { results := [.lit (.bool false)], args := [d] }
  | _ => none }
def FnExactReverseChannelWrongFalsely : Prop := fnExactReverseChannelRow.holds Try.pinned (OpenSpec.ofChange fnExactReverseChannelWrong)

/-- 'laws.FnExactChannelLength': WHATEVER THE INPUT: true; the input reads as it did. -/
def fnExactChannelLengthSpec : ChangeSpec := { name := "fnExactChannelLength", fn := fun _ => fun
  | [d] => { results := [.lit (.bool true)], args := [d] }
  | _ => none }
def fnExactChannelLengthRow : OpenClaim := { program := "ytfmljppofkocmaa", sum := "b97f3286a2009388684927727d0726b6d619bd0b04fbf674a9c66ff409c990aa", func := "loop.example/g00953/laws.FnExactChannelLength", spec := "fnExactChannelLength", apart := false }
def FnExactChannelLengthSaid : Prop := fnExactChannelLengthRow.holds Try.pinned (OpenSpec.ofChange fnExactChannelLengthSpec)

/-- ITS FALSE NEIGHBOUR: 'it returns false'. Refute it at one input. -/
def fnExactChannelLengthWrong : ChangeSpec := { name := "fnExactChannelLength", fn := fun _ => fun
  | [d] => { results := [.lit (.bool false)], args := [d] }
  | _ => none }
def FnExactChannelLengthWrongFalsely : Prop := fnExactChannelLengthRow.holds Try.pinned (OpenSpec.ofChange fnExactChannelLengthWrong)

/- THE SECOND FORM. 'bulk': how many values and letters a reading holds, each counted each time it is reached (what is shared counts as often as it is met; a slice's spare places count too). A statement '..UptoSaid' is the law's where the arguments, and the package variables that the reading takes, are together of bulk at most 1048576: NARROWER than '..Said'. Prove '..Said' where nothing that the law and all that it calls make is longer than what came in: it says more and counts as full. Else prove '..UptoSaid'. A law counts once. -/
mutual
def uptoBulk {H : Type} : DataW H → Nat
  | .lit (.string bytes) => bytes.length + 1
  | .lit _ => 1
  | .nil => 1
  | .ptr d => uptoBulk d + 1
  | .slice elems spare => uptoBulkAll elems + uptoBulkAll spare + 1
  | .agg parts => uptoBulkAll parts + 1
  | .iface _ d => uptoBulk d + 1
  | .map entries => uptoBulkEntries entries + 1
  | .held _ => 1
def uptoBulkAll {H : Type} : List (DataW H) → Nat
  | [] => 0
  | d :: r => uptoBulk d + uptoBulkAll r
def uptoBulkEntries {H : Type} : List (Lit × DataW H) → Nat
  | [] => 0
  | x :: r => uptoBulkEntry x + uptoBulkEntries r
def uptoBulkEntry {H : Type} : Lit × DataW H → Nat
  | (.string bytes, d) => bytes.length + uptoBulk d + 1
  | (_, d) => uptoBulk d + 1
 end
def uptoSmall : (H : Type) → List (DataW H) → Bool := fun _ ds => decide (uptoBulkAll ds ≤ 1048576)
def OpenSpec.upto (s : _root_.Go.ChangeSpec) : _root_.Go.OpenSpec := { _root_.Go.OpenSpec.ofChange s with cond := some uptoSmall }

/-- 'laws.FnExactMorseOf', WHERE WHAT IT READS IS OF BULK AT MOST 1048576: true; the input reads as it did. -/
def fnExactMorseOfUptoRow : OpenClaim := { program := "ytfmljppofkocmaa", sum := "b97f3286a2009388684927727d0726b6d619bd0b04fbf674a9c66ff409c990aa", func := "loop.example/g00953/laws.FnExactMorseOf", spec := "fnExactMorseOf", apart := false, narrowed := true }
def FnExactMorseOfUptoSaid : Prop := fnExactMorseOfUptoRow.holds Try.pinned (OpenSpec.upto fnExactMorseOfSpec)

/-- 'laws.FnExactLetterOf', WHERE WHAT IT READS IS OF BULK AT MOST 1048576: true; the input reads as it did. -/
def fnExactLetterOfUptoRow : OpenClaim := { program := "ytfmljppofkocmaa", sum := "b97f3286a2009388684927727d0726b6d619bd0b04fbf674a9c66ff409c990aa", func := "loop.example/g00953/laws.FnExactLetterOf", spec := "fnExactLetterOf", apart := false, narrowed := true }
def FnExactLetterOfUptoSaid : Prop := fnExactLetterOfUptoRow.holds Try.pinned (OpenSpec.upto fnExactLetterOfSpec)

/-- 'laws.FnExactMorseLength', WHERE WHAT IT READS IS OF BULK AT MOST 1048576: true; the input reads as it did. -/
def fnExactMorseLengthUptoRow : OpenClaim := { program := "ytfmljppofkocmaa", sum := "b97f3286a2009388684927727d0726b6d619bd0b04fbf674a9c66ff409c990aa", func := "loop.example/g00953/laws.FnExactMorseLength", spec := "fnExactMorseLength", apart := false, narrowed := true }
def FnExactMorseLengthUptoSaid : Prop := fnExactMorseLengthUptoRow.holds Try.pinned (OpenSpec.upto fnExactMorseLengthSpec)

/-- 'laws.FnExactSameSectors', WHERE WHAT IT READS IS OF BULK AT MOST 1048576: true; the input reads as it did. -/
def fnExactSameSectorsUptoRow : OpenClaim := { program := "ytfmljppofkocmaa", sum := "b97f3286a2009388684927727d0726b6d619bd0b04fbf674a9c66ff409c990aa", func := "loop.example/g00953/laws.FnExactSameSectors", spec := "fnExactSameSectors", apart := false, narrowed := true }
def FnExactSameSectorsUptoSaid : Prop := fnExactSameSectorsUptoRow.holds Try.pinned (OpenSpec.upto fnExactSameSectorsSpec)

/-- 'laws.FnExactValidBuoys', WHERE WHAT IT READS IS OF BULK AT MOST 1048576: true; the input reads as it did. -/
def fnExactValidBuoysUptoRow : OpenClaim := { program := "ytfmljppofkocmaa", sum := "b97f3286a2009388684927727d0726b6d619bd0b04fbf674a9c66ff409c990aa", func := "loop.example/g00953/laws.FnExactValidBuoys", spec := "fnExactValidBuoys", apart := false, narrowed := true }
def FnExactValidBuoysUptoSaid : Prop := fnExactValidBuoysUptoRow.holds Try.pinned (OpenSpec.upto fnExactValidBuoysSpec)

/-- 'laws.FnExactSameChannel', WHERE WHAT IT READS IS OF BULK AT MOST 1048576: true; the input reads as it did. -/
def fnExactSameChannelUptoRow : OpenClaim := { program := "ytfmljppofkocmaa", sum := "b97f3286a2009388684927727d0726b6d619bd0b04fbf674a9c66ff409c990aa", func := "loop.example/g00953/laws.FnExactSameChannel", spec := "fnExactSameChannel", apart := false, narrowed := true }
def FnExactSameChannelUptoSaid : Prop := fnExactSameChannelUptoRow.holds Try.pinned (OpenSpec.upto fnExactSameChannelSpec)

/-- 'laws.FnExactBlastsOf', WHERE WHAT IT READS IS OF BULK AT MOST 1048576: true; the input reads as it did. -/
def fnExactBlastsOfUptoRow : OpenClaim := { program := "ytfmljppofkocmaa", sum := "b97f3286a2009388684927727d0726b6d619bd0b04fbf674a9c66ff409c990aa", func := "loop.example/g00953/laws.FnExactBlastsOf", spec := "fnExactBlastsOf", apart := false, narrowed := true }
def FnExactBlastsOfUptoSaid : Prop := fnExactBlastsOfUptoRow.holds Try.pinned (OpenSpec.upto fnExactBlastsOfSpec)

/-- 'laws.FnExactValidChannel', WHERE WHAT IT READS IS OF BULK AT MOST 1048576: true; the input reads as it did. -/
def fnExactValidChannelUptoRow : OpenClaim := { program := "ytfmljppofkocmaa", sum := "b97f3286a2009388684927727d0726b6d619bd0b04fbf674a9c66ff409c990aa", func := "loop.example/g00953/laws.FnExactValidChannel", spec := "fnExactValidChannel", apart := false, narrowed := true }
def FnExactValidChannelUptoSaid : Prop := fnExactValidChannelUptoRow.holds Try.pinned (OpenSpec.upto fnExactValidChannelSpec)

/-- 'laws.FnExactValidSector', WHERE WHAT IT READS IS OF BULK AT MOST 1048576: true; the input reads as it did. -/
def fnExactValidSectorUptoRow : OpenClaim := { program := "ytfmljppofkocmaa", sum := "b97f3286a2009388684927727d0726b6d619bd0b04fbf674a9c66ff409c990aa", func := "loop.example/g00953/laws.FnExactValidSector", spec := "fnExactValidSector", inPlace := ["internal/bytealg.IndexByteString", "internal/bytealg.IndexString"], named := ["internal/bytealg.MaxLen"], apart := false, narrowed := true }
def FnExactValidSectorUptoSaid : Prop := fnExactValidSectorUptoRow.holds Try.pinned (OpenSpec.upto fnExactValidSectorSpec)

/-- 'laws.FnExactHeardFrom', WHERE WHAT IT READS IS OF BULK AT MOST 1048576: true; the input reads as it did. -/
def fnExactHeardFromUptoRow : OpenClaim := { program := "ytfmljppofkocmaa", sum := "b97f3286a2009388684927727d0726b6d619bd0b04fbf674a9c66ff409c990aa", func := "loop.example/g00953/laws.FnExactHeardFrom", spec := "fnExactHeardFrom", apart := false, narrowed := true }
def FnExactHeardFromUptoSaid : Prop := fnExactHeardFromUptoRow.holds Try.pinned (OpenSpec.upto fnExactHeardFromSpec)

/-- 'laws.FnExactReverseChannel', WHERE WHAT IT READS IS OF BULK AT MOST 1048576: true; the input reads as it did. -/
def fnExactReverseChannelUptoRow : OpenClaim := { program := "ytfmljppofkocmaa", sum := "b97f3286a2009388684927727d0726b6d619bd0b04fbf674a9c66ff409c990aa", func := "loop.example/g00953/laws.FnExactReverseChannel", spec := "fnExactReverseChannel", apart := false, narrowed := true }
def FnExactReverseChannelUptoSaid : Prop := fnExactReverseChannelUptoRow.holds Try.pinned (OpenSpec.upto fnExactReverseChannelSpec)

/-- 'laws.FnExactChannelLength', WHERE WHAT IT READS IS OF BULK AT MOST 1048576: true; the input reads as it did. -/
def fnExactChannelLengthUptoRow : OpenClaim := { program := "ytfmljppofkocmaa", sum := "b97f3286a2009388684927727d0726b6d619bd0b04fbf674a9c66ff409c990aa", func := "loop.example/g00953/laws.FnExactChannelLength", spec := "fnExactChannelLength", apart := false, narrowed := true }
def FnExactChannelLengthUptoSaid : Prop := fnExactChannelLengthUptoRow.holds Try.pinned (OpenSpec.upto fnExactChannelLengthSpec)

end Rows
end Go.Proofs.Ytfmljppofkocmaa
