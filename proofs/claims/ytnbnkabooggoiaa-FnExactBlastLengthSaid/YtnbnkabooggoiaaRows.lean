/-
  No cell of these rows narrows 'for every input' (looked for: loops, veiled, ifaces, maps, wideKeys, modest, calm, conditions, laid).
  DERIVED. THE GIVEN ROWS OF THIS SEAT. 12 by the template 'for every input the law returns true; each argument reads behind the call as it read before'; 0 by the template 'total and deterministic' (their statements: YtnbnkabooggoiaaTotals.lean).
  GIVEN WITH THE SEED: the statements are not yours to turn. If you find one false, say at which input.
  Laid BY PROGRAM, IN A SANDBOX (cutbox-rows.mjs): the forced cells as the released guide's own fill.sh prints them over the translation c62a57b4566e0f04… (all of the seat's roots in one cut). By AI agents, Wed Nov 11 2026. No macro, syntax, notation, axiom, sorry.
-/
import Derived.Test.YtnbnkabooggoiaaChecked
import GoSem.Claim
import GoSem.ClaimJoined
import GoSem.ClaimMapViews
import Derived.JoinedTies
import Derived.KernelRfl
namespace Go.Proofs.Ytnbnkabooggoiaa
/- THE CELL 'sum', in the pinned program and in every row, IS THE sha256 OF THE DUMP (.gsa) THAT YtnbnkabooggoiaaProg.lean LOADS. Nothing in Lean hashes anything: it is a label: what it is worth is what the hold of that sum in a sandbox is worth. -/
noncomputable def Try.pinned : Pinned := { name := "ytnbnkabooggoiaa", sum := "c62a57b4566e0f04ddb196fb4480cc37d03388a58de518876745695891ac62b8", checked := Try.checked }
namespace Rows
def none {H : Type} : Left H := { results := [], args := [] }

/-- 'laws.FnExactSideToPass': WHATEVER THE INPUT: true; the input reads as it did. -/
def fnExactSideToPassSpec : ChangeSpec := { name := "fnExactSideToPass", fn := fun _ => fun
  | [d] => { results := [.lit (.bool true)], args := [d] }
  | _ => none }
def fnExactSideToPassRow : OpenClaim := { program := "ytnbnkabooggoiaa", sum := "c62a57b4566e0f04ddb196fb4480cc37d03388a58de518876745695891ac62b8", func := "loop.example/g00953/laws.FnExactSideToPass", spec := "fnExactSideToPass", apart := false }
def FnExactSideToPassSaid : Prop := fnExactSideToPassRow.holds Try.pinned (OpenSpec.ofChange fnExactSideToPassSpec)

/-- ITS FALSE NEIGHBOUR: 'it returns false'. Refute it at one input. -/
def fnExactSideToPassWrong : ChangeSpec := { name := "fnExactSideToPass", fn := fun _ => fun
  | [d] => { results := [.lit (.bool false)], args := [d] }
  | _ => none }
def FnExactSideToPassWrongFalsely : Prop := fnExactSideToPassRow.holds Try.pinned (OpenSpec.ofChange fnExactSideToPassWrong)

/-- 'laws.FnExactFogName': WHATEVER THE INPUT: true; the input reads as it did. -/
def fnExactFogNameSpec : ChangeSpec := { name := "fnExactFogName", fn := fun _ => fun
  | [d] => { results := [.lit (.bool true)], args := [d] }
  | _ => none }
def fnExactFogNameRow : OpenClaim := { program := "ytnbnkabooggoiaa", sum := "c62a57b4566e0f04ddb196fb4480cc37d03388a58de518876745695891ac62b8", func := "loop.example/g00953/laws.FnExactFogName", spec := "fnExactFogName", apart := false }
def FnExactFogNameSaid : Prop := fnExactFogNameRow.holds Try.pinned (OpenSpec.ofChange fnExactFogNameSpec)

/-- ITS FALSE NEIGHBOUR: 'it returns false'. Refute it at one input. -/
def fnExactFogNameWrong : ChangeSpec := { name := "fnExactFogName", fn := fun _ => fun
  | [d] => { results := [.lit (.bool false)], args := [d] }
  | _ => none }
def FnExactFogNameWrongFalsely : Prop := fnExactFogNameRow.holds Try.pinned (OpenSpec.ofChange fnExactFogNameWrong)

/-- 'laws.FnExactMarkName': WHATEVER THE INPUT: true; the input reads as it did. -/
def fnExactMarkNameSpec : ChangeSpec := { name := "fnExactMarkName", fn := fun _ => fun
  | [d] => { results := [.lit (.bool true)], args := [d] }
  | _ => none }
def fnExactMarkNameRow : OpenClaim := { program := "ytnbnkabooggoiaa", sum := "c62a57b4566e0f04ddb196fb4480cc37d03388a58de518876745695891ac62b8", func := "loop.example/g00953/laws.FnExactMarkName", spec := "fnExactMarkName", apart := false }
def FnExactMarkNameSaid : Prop := fnExactMarkNameRow.holds Try.pinned (OpenSpec.ofChange fnExactMarkNameSpec)

/-- ITS FALSE NEIGHBOUR: 'it returns false'. Refute it at one input. -/
def fnExactMarkNameWrong : ChangeSpec := { name := "fnExactMarkName", fn := fun _ => fun
  | [d] => { results := [.lit (.bool false)], args := [d] }
  | _ => none }
def FnExactMarkNameWrongFalsely : Prop := fnExactMarkNameRow.holds Try.pinned (OpenSpec.ofChange fnExactMarkNameWrong)

/-- 'laws.FnExactBlastLength': WHATEVER THE INPUT: true; the input reads as it did. -/
def fnExactBlastLengthSpec : ChangeSpec := { name := "fnExactBlastLength", fn := fun _ => fun
  | [d] => { results := [.lit (.bool true)], args := [d] }
  | _ => none }
def fnExactBlastLengthRow : OpenClaim := { program := "ytnbnkabooggoiaa", sum := "c62a57b4566e0f04ddb196fb4480cc37d03388a58de518876745695891ac62b8", func := "loop.example/g00953/laws.FnExactBlastLength", spec := "fnExactBlastLength", apart := false }
def FnExactBlastLengthSaid : Prop := fnExactBlastLengthRow.holds Try.pinned (OpenSpec.ofChange fnExactBlastLengthSpec)

/-- ITS FALSE NEIGHBOUR: 'it returns false'. Refute it at one input. -/
def fnExactBlastLengthWrong : ChangeSpec := { name := "fnExactBlastLength", fn := fun _ => fun
  | [d] => { results := [.lit (.bool false)], args := [d] }
  | _ => none }
def FnExactBlastLengthWrongFalsely : Prop := fnExactBlastLengthRow.holds Try.pinned (OpenSpec.ofChange fnExactBlastLengthWrong)

/-- 'laws.FnExactValidFog': WHATEVER THE INPUT: true; the input reads as it did. -/
def fnExactValidFogSpec : ChangeSpec := { name := "fnExactValidFog", fn := fun _ => fun
  | [d] => { results := [.lit (.bool true)], args := [d] }
  | _ => none }
def fnExactValidFogRow : OpenClaim := { program := "ytnbnkabooggoiaa", sum := "c62a57b4566e0f04ddb196fb4480cc37d03388a58de518876745695891ac62b8", func := "loop.example/g00953/laws.FnExactValidFog", spec := "fnExactValidFog", apart := false }
def FnExactValidFogSaid : Prop := fnExactValidFogRow.holds Try.pinned (OpenSpec.ofChange fnExactValidFogSpec)

/-- ITS FALSE NEIGHBOUR: 'it returns false'. Refute it at one input. -/
def fnExactValidFogWrong : ChangeSpec := { name := "fnExactValidFog", fn := fun _ => fun
  | [d] => { results := [.lit (.bool false)], args := [d] }
  | _ => none }
def FnExactValidFogWrongFalsely : Prop := fnExactValidFogRow.holds Try.pinned (OpenSpec.ofChange fnExactValidFogWrong)

/-- 'laws.FnExactQuadrantOf': WHATEVER THE INPUT: true; the input reads as it did. -/
def fnExactQuadrantOfSpec : ChangeSpec := { name := "fnExactQuadrantOf", fn := fun _ => fun
  | [d] => { results := [.lit (.bool true)], args := [d] }
  | _ => none }
def fnExactQuadrantOfRow : OpenClaim := { program := "ytnbnkabooggoiaa", sum := "c62a57b4566e0f04ddb196fb4480cc37d03388a58de518876745695891ac62b8", func := "loop.example/g00953/laws.FnExactQuadrantOf", spec := "fnExactQuadrantOf", apart := false }
def FnExactQuadrantOfSaid : Prop := fnExactQuadrantOfRow.holds Try.pinned (OpenSpec.ofChange fnExactQuadrantOfSpec)

/-- ITS FALSE NEIGHBOUR: 'it returns false'. Refute it at one input. -/
def fnExactQuadrantOfWrong : ChangeSpec := { name := "fnExactQuadrantOf", fn := fun _ => fun
  | [d] => { results := [.lit (.bool false)], args := [d] }
  | _ => none }
def FnExactQuadrantOfWrongFalsely : Prop := fnExactQuadrantOfRow.holds Try.pinned (OpenSpec.ofChange fnExactQuadrantOfWrong)

/-- 'laws.FnExactLeastFogPeriod': WHATEVER THE INPUT: true; the input reads as it did. -/
def fnExactLeastFogPeriodSpec : ChangeSpec := { name := "fnExactLeastFogPeriod", fn := fun _ => fun
  | [d] => { results := [.lit (.bool true)], args := [d] }
  | _ => none }
def fnExactLeastFogPeriodRow : OpenClaim := { program := "ytnbnkabooggoiaa", sum := "c62a57b4566e0f04ddb196fb4480cc37d03388a58de518876745695891ac62b8", func := "loop.example/g00953/laws.FnExactLeastFogPeriod", spec := "fnExactLeastFogPeriod", apart := false }
def FnExactLeastFogPeriodSaid : Prop := fnExactLeastFogPeriodRow.holds Try.pinned (OpenSpec.ofChange fnExactLeastFogPeriodSpec)

/-- ITS FALSE NEIGHBOUR: 'it returns false'. Refute it at one input. -/
def fnExactLeastFogPeriodWrong : ChangeSpec := { name := "fnExactLeastFogPeriod", fn := fun _ => fun
  | [d] => { results := [.lit (.bool false)], args := [d] }
  | _ => none }
def FnExactLeastFogPeriodWrongFalsely : Prop := fnExactLeastFogPeriodRow.holds Try.pinned (OpenSpec.ofChange fnExactLeastFogPeriodWrong)

/-- 'laws.FnExactMarkNamed': WHATEVER THE INPUT: true; the input reads as it did. -/
def fnExactMarkNamedSpec : ChangeSpec := { name := "fnExactMarkNamed", fn := fun _ => fun
  | [d] => { results := [.lit (.bool true)], args := [d] }
  | _ => none }
def fnExactMarkNamedRow : OpenClaim := { program := "ytnbnkabooggoiaa", sum := "c62a57b4566e0f04ddb196fb4480cc37d03388a58de518876745695891ac62b8", func := "loop.example/g00953/laws.FnExactMarkNamed", spec := "fnExactMarkNamed", apart := false }
def FnExactMarkNamedSaid : Prop := fnExactMarkNamedRow.holds Try.pinned (OpenSpec.ofChange fnExactMarkNamedSpec)

/-- ITS FALSE NEIGHBOUR: 'it returns false'. Refute it at one input. -/
def fnExactMarkNamedWrong : ChangeSpec := { name := "fnExactMarkNamed", fn := fun _ => fun
  | [d] => { results := [.lit (.bool false)], args := [d] }
  | _ => none }
def FnExactMarkNamedWrongFalsely : Prop := fnExactMarkNamedRow.holds Try.pinned (OpenSpec.ofChange fnExactMarkNamedWrong)

/-- 'laws.FnExactArcOf': WHATEVER THE INPUT: true; the input reads as it did. -/
def fnExactArcOfSpec : ChangeSpec := { name := "fnExactArcOf", fn := fun _ => fun
  | [d] => { results := [.lit (.bool true)], args := [d] }
  | _ => none }
def fnExactArcOfRow : OpenClaim := { program := "ytnbnkabooggoiaa", sum := "c62a57b4566e0f04ddb196fb4480cc37d03388a58de518876745695891ac62b8", func := "loop.example/g00953/laws.FnExactArcOf", spec := "fnExactArcOf", apart := false }
def FnExactArcOfSaid : Prop := fnExactArcOfRow.holds Try.pinned (OpenSpec.ofChange fnExactArcOfSpec)

/-- ITS FALSE NEIGHBOUR: 'it returns false'. Refute it at one input. -/
def fnExactArcOfWrong : ChangeSpec := { name := "fnExactArcOf", fn := fun _ => fun
  | [d] => { results := [.lit (.bool false)], args := [d] }
  | _ => none }
def FnExactArcOfWrongFalsely : Prop := fnExactArcOfRow.holds Try.pinned (OpenSpec.ofChange fnExactArcOfWrong)

/-- 'laws.FnExactGeoRange': WHATEVER THE INPUT: true; the input reads as it did. -/
def fnExactGeoRangeSpec : ChangeSpec := { name := "fnExactGeoRange", fn := fun _ => fun
  | [d1, d2] => { results := [.lit (.bool true)], args := [d1, d2] }
  | _ => none }
def fnExactGeoRangeRow : OpenClaim := { program := "ytnbnkabooggoiaa", sum := "c62a57b4566e0f04ddb196fb4480cc37d03388a58de518876745695891ac62b8", func := "loop.example/g00953/laws.FnExactGeoRange", spec := "fnExactGeoRange", apart := false }
def FnExactGeoRangeSaid : Prop := fnExactGeoRangeRow.holds Try.pinned (OpenSpec.ofChange fnExactGeoRangeSpec)

/-- ITS FALSE NEIGHBOUR: 'it returns false'. Refute it at one input. -/
def fnExactGeoRangeWrong : ChangeSpec := { name := "fnExactGeoRange", fn := fun _ => fun
  | [d1, d2] => { results := [.lit (.bool false)], args := [d1, d2] }
  | _ => none }
def FnExactGeoRangeWrongFalsely : Prop := fnExactGeoRangeRow.holds Try.pinned (OpenSpec.ofChange fnExactGeoRangeWrong)

/-- 'laws.FnExactHorizonOf': WHATEVER THE INPUT: true; the input reads as it did. -/
def fnExactHorizonOfSpec : ChangeSpec := { name := "fnExactHorizonOf", fn := fun _ => fun
  | [d] => { results := [.lit (.bool true)], args := [d] }
  | _ => none }
def fnExactHorizonOfRow : OpenClaim := { program := "ytnbnkabooggoiaa", sum := "c62a57b4566e0f04ddb196fb4480cc37d03388a58de518876745695891ac62b8", func := "loop.example/g00953/laws.FnExactHorizonOf", spec := "fnExactHorizonOf", apart := false }
def FnExactHorizonOfSaid : Prop := fnExactHorizonOfRow.holds Try.pinned (OpenSpec.ofChange fnExactHorizonOfSpec)

/-- ITS FALSE NEIGHBOUR: 'it returns false'. Refute it at one input. -/
def fnExactHorizonOfWrong : ChangeSpec := { name := "fnExactHorizonOf", fn := fun _ => fun
  | [d] => { results := [.lit (.bool false)], args := [d] }
  | _ => none }
def FnExactHorizonOfWrongFalsely : Prop := fnExactHorizonOfRow.holds Try.pinned (OpenSpec.ofChange fnExactHorizonOfWrong)

/-- 'laws.FnGeo': WHATEVER THE INPUT: true; the input reads as it did. -/
def fnGeoSpec : ChangeSpec := { name := "fnGeo", fn := fun _ => fun
  | [d] => { results := [.lit (.bool true)], args := [d] }
  | _ => none }
def fnGeoRow : OpenClaim := { program := "ytnbnkabooggoiaa", sum := "c62a57b4566e0f04ddb196fb4480cc37d03388a58de518876745695891ac62b8", func := "loop.example/g00953/laws.FnGeo", spec := "fnGeo", unfollowed := true, recurses := true, apart := false }
def FnGeoSaid : Prop := fnGeoRow.holds Try.pinned (OpenSpec.ofChange fnGeoSpec)

/-- ITS FALSE NEIGHBOUR: 'it returns false'. Refute it at one input. -/
def fnGeoWrong : ChangeSpec := { name := "fnGeo", fn := fun _ => fun
  | [d] => { results := [.lit (.bool false)], args := [d] }
  | _ => none }
def FnGeoWrongFalsely : Prop := fnGeoRow.holds Try.pinned (OpenSpec.ofChange fnGeoWrong)

/- THE SECOND FORM. 'bulk': how many values and letters a reading holds, each counted each time it is reached (what is shared counts as often as it is met; a slice's spare places count too). A statement '..UptoSaid' is the law's where the arguments, and the package variables that the reading takes, are together of bulk at most 1048576: NARROWER than '..Said'. Prove '..Said' where nothing that the law and all that it calls make is longer than what came in: it says more and counts as full. Else prove '..UptoSaid'. A law counts once. -/
mutual
def uptoBulk {H : Type} : DataW H → Nat
  | .lit (.string bytes) => bytes.length + 1
  | .lit _ => 1
  | .nil => 1
  | .ptr d => uptoBulk d + 1
  | .slice elems spare => uptoBulkAll elems + uptoBulkAll spare + 1
  | .agg parts => uptoBulkAll parts + 1
  | .iface _ d => uptoBulk d + 1
  | .map entries => uptoBulkEntries entries + 1
  | .held _ => 1
def uptoBulkAll {H : Type} : List (DataW H) → Nat
  | [] => 0
  | d :: r => uptoBulk d + uptoBulkAll r
def uptoBulkEntries {H : Type} : List (Lit × DataW H) → Nat
  | [] => 0
  | x :: r => uptoBulkEntry x + uptoBulkEntries r
def uptoBulkEntry {H : Type} : Lit × DataW H → Nat
  | (.string bytes, d) => bytes.length + uptoBulk d + 1
  | (_, d) => uptoBulk d + 1
 end
def uptoSmall : (H : Type) → List (DataW H) → Bool := fun _ ds => decide (uptoBulkAll ds ≤ 1048576)
def OpenSpec.upto (s : _root_.Go.ChangeSpec) : _root_.Go.OpenSpec := { _root_.Go.OpenSpec.ofChange s with cond := some uptoSmall }

/-- 'laws.FnExactSideToPass', WHERE WHAT IT READS IS OF BULK AT MOST 1048576: true; the input reads as it did. -/
def fnExactSideToPassUptoRow : OpenClaim := { program := "ytnbnkabooggoiaa", sum := "c62a57b4566e0f04ddb196fb4480cc37d03388a58de518876745695891ac62b8", func := "loop.example/g00953/laws.FnExactSideToPass", spec := "fnExactSideToPass", apart := false, narrowed := true }
def FnExactSideToPassUptoSaid : Prop := fnExactSideToPassUptoRow.holds Try.pinned (OpenSpec.upto fnExactSideToPassSpec)

/-- 'laws.FnExactFogName', WHERE WHAT IT READS IS OF BULK AT MOST 1048576: true; the input reads as it did. -/
def fnExactFogNameUptoRow : OpenClaim := { program := "ytnbnkabooggoiaa", sum := "c62a57b4566e0f04ddb196fb4480cc37d03388a58de518876745695891ac62b8", func := "loop.example/g00953/laws.FnExactFogName", spec := "fnExactFogName", apart := false, narrowed := true }
def FnExactFogNameUptoSaid : Prop := fnExactFogNameUptoRow.holds Try.pinned (OpenSpec.upto fnExactFogNameSpec)

/-- 'laws.FnExactMarkName', WHERE WHAT IT READS IS OF BULK AT MOST 1048576: true; the input reads as it did. -/
def fnExactMarkNameUptoRow : OpenClaim := { program := "ytnbnkabooggoiaa", sum := "c62a57b4566e0f04ddb196fb4480cc37d03388a58de518876745695891ac62b8", func := "loop.example/g00953/laws.FnExactMarkName", spec := "fnExactMarkName", apart := false, narrowed := true }
def FnExactMarkNameUptoSaid : Prop := fnExactMarkNameUptoRow.holds Try.pinned (OpenSpec.upto fnExactMarkNameSpec)

/-- 'laws.FnExactBlastLength', WHERE WHAT IT READS IS OF BULK AT MOST 1048576: true; the input reads as it did. -/
def fnExactBlastLengthUptoRow : OpenClaim := { program := "ytnbnkabooggoiaa", sum := "c62a57b4566e0f04ddb196fb4480cc37d03388a58de518876745695891ac62b8", func := "loop.example/g00953/laws.FnExactBlastLength", spec := "fnExactBlastLength", apart := false, narrowed := true }
def FnExactBlastLengthUptoSaid : Prop := fnExactBlastLengthUptoRow.holds Try.pinned (OpenSpec.upto fnExactBlastLengthSpec)

/-- 'laws.FnExactValidFog', WHERE WHAT IT READS IS OF BULK AT MOST 1048576: true; the input reads as it did. -/
def fnExactValidFogUptoRow : OpenClaim := { program := "ytnbnkabooggoiaa", sum := "c62a57b4566e0f04ddb196fb4480cc37d03388a58de518876745695891ac62b8", func := "loop.example/g00953/laws.FnExactValidFog", spec := "fnExactValidFog", apart := false, narrowed := true }
def FnExactValidFogUptoSaid : Prop := fnExactValidFogUptoRow.holds Try.pinned (OpenSpec.upto fnExactValidFogSpec)

/-- 'laws.FnExactQuadrantOf', WHERE WHAT IT READS IS OF BULK AT MOST 1048576: true; the input reads as it did. -/
def fnExactQuadrantOfUptoRow : OpenClaim := { program := "ytnbnkabooggoiaa", sum := "c62a57b4566e0f04ddb196fb4480cc37d03388a58de518876745695891ac62b8", func := "loop.example/g00953/laws.FnExactQuadrantOf", spec := "fnExactQuadrantOf", apart := false, narrowed := true }
def FnExactQuadrantOfUptoSaid : Prop := fnExactQuadrantOfUptoRow.holds Try.pinned (OpenSpec.upto fnExactQuadrantOfSpec)

/-- 'laws.FnExactLeastFogPeriod', WHERE WHAT IT READS IS OF BULK AT MOST 1048576: true; the input reads as it did. -/
def fnExactLeastFogPeriodUptoRow : OpenClaim := { program := "ytnbnkabooggoiaa", sum := "c62a57b4566e0f04ddb196fb4480cc37d03388a58de518876745695891ac62b8", func := "loop.example/g00953/laws.FnExactLeastFogPeriod", spec := "fnExactLeastFogPeriod", apart := false, narrowed := true }
def FnExactLeastFogPeriodUptoSaid : Prop := fnExactLeastFogPeriodUptoRow.holds Try.pinned (OpenSpec.upto fnExactLeastFogPeriodSpec)

/-- 'laws.FnExactMarkNamed', WHERE WHAT IT READS IS OF BULK AT MOST 1048576: true; the input reads as it did. -/
def fnExactMarkNamedUptoRow : OpenClaim := { program := "ytnbnkabooggoiaa", sum := "c62a57b4566e0f04ddb196fb4480cc37d03388a58de518876745695891ac62b8", func := "loop.example/g00953/laws.FnExactMarkNamed", spec := "fnExactMarkNamed", apart := false, narrowed := true }
def FnExactMarkNamedUptoSaid : Prop := fnExactMarkNamedUptoRow.holds Try.pinned (OpenSpec.upto fnExactMarkNamedSpec)

/-- 'laws.FnExactArcOf', WHERE WHAT IT READS IS OF BULK AT MOST 1048576: true; the input reads as it did. -/
def fnExactArcOfUptoRow : OpenClaim := { program := "ytnbnkabooggoiaa", sum := "c62a57b4566e0f04ddb196fb4480cc37d03388a58de518876745695891ac62b8", func := "loop.example/g00953/laws.FnExactArcOf", spec := "fnExactArcOf", apart := false, narrowed := true }
def FnExactArcOfUptoSaid : Prop := fnExactArcOfUptoRow.holds Try.pinned (OpenSpec.upto fnExactArcOfSpec)

/-- 'laws.FnExactGeoRange', WHERE WHAT IT READS IS OF BULK AT MOST 1048576: true; the input reads as it did. -/
def fnExactGeoRangeUptoRow : OpenClaim := { program := "ytnbnkabooggoiaa", sum := "c62a57b4566e0f04ddb196fb4480cc37d03388a58de518876745695891ac62b8", func := "loop.example/g00953/laws.FnExactGeoRange", spec := "fnExactGeoRange", apart := false, narrowed := true }
def FnExactGeoRangeUptoSaid : Prop := fnExactGeoRangeUptoRow.holds Try.pinned (OpenSpec.upto fnExactGeoRangeSpec)

/-- 'laws.FnExactHorizonOf', WHERE WHAT IT READS IS OF BULK AT MOST 1048576: true; the input reads as it did. -/
def fnExactHorizonOfUptoRow : OpenClaim := { program := "ytnbnkabooggoiaa", sum := "c62a57b4566e0f04ddb196fb4480cc37d03388a58de518876745695891ac62b8", func := "loop.example/g00953/laws.FnExactHorizonOf", spec := "fnExactHorizonOf", apart := false, narrowed := true }
def FnExactHorizonOfUptoSaid : Prop := fnExactHorizonOfUptoRow.holds Try.pinned (OpenSpec.upto fnExactHorizonOfSpec)

/-- 'laws.FnGeo', WHERE WHAT IT READS IS OF BULK AT MOST 1048576: true; the input reads as it did. -/
def fnGeoUptoRow : OpenClaim := { program := "ytnbnkabooggoiaa", sum := "c62a57b4566e0f04ddb196fb4480cc37d03388a58de518876745695891ac62b8", func := "loop.example/g00953/laws.FnGeo", spec := "fnGeo", unfollowed := true, recurses := true, apart := false, narrowed := true }
def FnGeoUptoSaid : Prop := fnGeoUptoRow.holds Try.pinned (OpenSpec.upto fnGeoSpec)

end Rows
end Go.Proofs.Ytnbnkabooggoiaa
