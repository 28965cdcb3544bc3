/-
  No cell of these rows narrows 'for every input' (looked for: loops, veiled, ifaces, maps, wideKeys, modest, calm, conditions, laid).
  DERIVED. THE GIVEN ROWS OF THIS SEAT. 12 by the template 'for every input the law returns true; each argument reads behind the call as it read before'; 0 by the template 'total and deterministic' (their statements: YtffdipcogkhkmaaTotals.lean).
  GIVEN WITH THE SEED: the statements are not yours to turn. If you find one false, say at which input.
  Laid BY PROGRAM, IN A SANDBOX (cutbox-rows.mjs): the forced cells as the released guide's own fill.sh prints them over the translation bb947fd477b8b8aa… (all of the seat's roots in one cut). By AI agents, Wed Nov 11 2026. No macro, syntax, notation, axiom, sorry.
-/
import Derived.Test.YtffdipcogkhkmaaChecked
import GoSem.Claim
import GoSem.ClaimJoined
import GoSem.ClaimMapViews
import Derived.JoinedTies
import Derived.KernelRfl
namespace Go.Proofs.Ytffdipcogkhkmaa
/- THE CELL 'sum', in the pinned program and in every row, IS THE sha256 OF THE DUMP (.gsa) THAT YtffdipcogkhkmaaProg.lean LOADS. Nothing in Lean hashes anything: it is a label: what it is worth is what the hold of that sum in a sandbox is worth. -/
noncomputable def Try.pinned : Pinned := { name := "ytffdipcogkhkmaa", sum := "bb947fd477b8b8aa7bd6e6af959e1a2592015f7a38267e45c8533ef49e37650f", checked := Try.checked }
namespace Rows
def none {H : Type} : Left H := { results := [], args := [] }

/-- 'laws.FnLuminous': WHATEVER THE INPUT: true; the input reads as it did. -/
def fnLuminousSpec : ChangeSpec := { name := "fnLuminous", fn := fun _ => fun
  | [d] => { results := [.lit (.bool true)], args := [d] }
  | _ => none }
def fnLuminousRow : OpenClaim := { program := "ytffdipcogkhkmaa", sum := "bb947fd477b8b8aa7bd6e6af959e1a2592015f7a38267e45c8533ef49e37650f", func := "loop.example/g00953/laws.FnLuminous", spec := "fnLuminous", unfollowed := true, recurses := true, apart := false }
def FnLuminousSaid : Prop := fnLuminousRow.holds Try.pinned (OpenSpec.ofChange fnLuminousSpec)

/-- ITS FALSE NEIGHBOUR: 'it returns false'. Refute it at one input. -/
def fnLuminousWrong : ChangeSpec := { name := "fnLuminous", fn := fun _ => fun
  | [d] => { results := [.lit (.bool false)], args := [d] }
  | _ => none }
def FnLuminousWrongFalsely : Prop := fnLuminousRow.holds Try.pinned (OpenSpec.ofChange fnLuminousWrong)

/-- 'laws.FnExactTenLog': WHATEVER THE INPUT: true; the input reads as it did. -/
def fnExactTenLogSpec : ChangeSpec := { name := "fnExactTenLog", fn := fun _ => fun
  | [d] => { results := [.lit (.bool true)], args := [d] }
  | _ => none }
def fnExactTenLogRow : OpenClaim := { program := "ytffdipcogkhkmaa", sum := "bb947fd477b8b8aa7bd6e6af959e1a2592015f7a38267e45c8533ef49e37650f", func := "loop.example/g00953/laws.FnExactTenLog", spec := "fnExactTenLog", apart := false }
def FnExactTenLogSaid : Prop := fnExactTenLogRow.holds Try.pinned (OpenSpec.ofChange fnExactTenLogSpec)

/-- ITS FALSE NEIGHBOUR: 'it returns false'. Refute it at one input. -/
def fnExactTenLogWrong : ChangeSpec := { name := "fnExactTenLog", fn := fun _ => fun
  | [d] => { results := [.lit (.bool false)], args := [d] }
  | _ => none }
def FnExactTenLogWrongFalsely : Prop := fnExactTenLogRow.holds Try.pinned (OpenSpec.ofChange fnExactTenLogWrong)

/-- 'laws.FnExactEyeFor': WHATEVER THE INPUT: true; the input reads as it did. -/
def fnExactEyeForSpec : ChangeSpec := { name := "fnExactEyeFor", fn := fun _ => fun
  | [d1, d2] => { results := [.lit (.bool true)], args := [d1, d2] }
  | _ => none }
def fnExactEyeForRow : OpenClaim := { program := "ytffdipcogkhkmaa", sum := "bb947fd477b8b8aa7bd6e6af959e1a2592015f7a38267e45c8533ef49e37650f", func := "loop.example/g00953/laws.FnExactEyeFor", spec := "fnExactEyeFor", unfollowed := true, recurses := true, apart := false }
def FnExactEyeForSaid : Prop := fnExactEyeForRow.holds Try.pinned (OpenSpec.ofChange fnExactEyeForSpec)

/-- ITS FALSE NEIGHBOUR: 'it returns false'. Refute it at one input. -/
def fnExactEyeForWrong : ChangeSpec := { name := "fnExactEyeFor", fn := fun _ => fun
  | [d1, d2] => { results := [.lit (.bool false)], args := [d1, d2] }
  | _ => none }
def FnExactEyeForWrongFalsely : Prop := fnExactEyeForRow.holds Try.pinned (OpenSpec.ofChange fnExactEyeForWrong)

/-- 'laws.FnExactSoundRange': WHATEVER THE INPUT: true; the input reads as it did. -/
def fnExactSoundRangeSpec : ChangeSpec := { name := "fnExactSoundRange", fn := fun _ => fun
  | [d1, d2] => { results := [.lit (.bool true)], args := [d1, d2] }
  | _ => none }
def fnExactSoundRangeRow : OpenClaim := { program := "ytffdipcogkhkmaa", sum := "bb947fd477b8b8aa7bd6e6af959e1a2592015f7a38267e45c8533ef49e37650f", func := "loop.example/g00953/laws.FnExactSoundRange", spec := "fnExactSoundRange", apart := false }
def FnExactSoundRangeSaid : Prop := fnExactSoundRangeRow.holds Try.pinned (OpenSpec.ofChange fnExactSoundRangeSpec)

/-- ITS FALSE NEIGHBOUR: 'it returns false'. Refute it at one input. -/
def fnExactSoundRangeWrong : ChangeSpec := { name := "fnExactSoundRange", fn := fun _ => fun
  | [d1, d2] => { results := [.lit (.bool false)], args := [d1, d2] }
  | _ => none }
def FnExactSoundRangeWrongFalsely : Prop := fnExactSoundRangeRow.holds Try.pinned (OpenSpec.ofChange fnExactSoundRangeWrong)

/-- 'laws.FnExactPowerFor': WHATEVER THE INPUT: true; the input reads as it did. -/
def fnExactPowerForSpec : ChangeSpec := { name := "fnExactPowerFor", fn := fun _ => fun
  | [d1, d2] => { results := [.lit (.bool true)], args := [d1, d2] }
  | _ => none }
def fnExactPowerForRow : OpenClaim := { program := "ytffdipcogkhkmaa", sum := "bb947fd477b8b8aa7bd6e6af959e1a2592015f7a38267e45c8533ef49e37650f", func := "loop.example/g00953/laws.FnExactPowerFor", spec := "fnExactPowerFor", unfollowed := true, recurses := true, apart := false }
def FnExactPowerForSaid : Prop := fnExactPowerForRow.holds Try.pinned (OpenSpec.ofChange fnExactPowerForSpec)

/-- ITS FALSE NEIGHBOUR: 'it returns false'. Refute it at one input. -/
def fnExactPowerForWrong : ChangeSpec := { name := "fnExactPowerFor", fn := fun _ => fun
  | [d1, d2] => { results := [.lit (.bool false)], args := [d1, d2] }
  | _ => none }
def FnExactPowerForWrongFalsely : Prop := fnExactPowerForRow.holds Try.pinned (OpenSpec.ofChange fnExactPowerForWrong)

/-- 'laws.FnExactIntensityFor': WHATEVER THE INPUT: true; the input reads as it did. -/
def fnExactIntensityForSpec : ChangeSpec := { name := "fnExactIntensityFor", fn := fun _ => fun
  | [d1, d2] => { results := [.lit (.bool true)], args := [d1, d2] }
  | _ => none }
def fnExactIntensityForRow : OpenClaim := { program := "ytffdipcogkhkmaa", sum := "bb947fd477b8b8aa7bd6e6af959e1a2592015f7a38267e45c8533ef49e37650f", func := "loop.example/g00953/laws.FnExactIntensityFor", spec := "fnExactIntensityFor", unfollowed := true, recurses := true, apart := false }
def FnExactIntensityForSaid : Prop := fnExactIntensityForRow.holds Try.pinned (OpenSpec.ofChange fnExactIntensityForSpec)

/-- ITS FALSE NEIGHBOUR: 'it returns false'. Refute it at one input. -/
def fnExactIntensityForWrong : ChangeSpec := { name := "fnExactIntensityFor", fn := fun _ => fun
  | [d1, d2] => { results := [.lit (.bool false)], args := [d1, d2] }
  | _ => none }
def FnExactIntensityForWrongFalsely : Prop := fnExactIntensityForRow.holds Try.pinned (OpenSpec.ofChange fnExactIntensityForWrong)

/-- 'laws.FnExactVisibilityFor': WHATEVER THE INPUT: true; the input reads as it did. -/
def fnExactVisibilityForSpec : ChangeSpec := { name := "fnExactVisibilityFor", fn := fun _ => fun
  | [d1, d2] => { results := [.lit (.bool true)], args := [d1, d2] }
  | _ => none }
def fnExactVisibilityForRow : OpenClaim := { program := "ytffdipcogkhkmaa", sum := "bb947fd477b8b8aa7bd6e6af959e1a2592015f7a38267e45c8533ef49e37650f", func := "loop.example/g00953/laws.FnExactVisibilityFor", spec := "fnExactVisibilityFor", unfollowed := true, recurses := true, apart := false }
def FnExactVisibilityForSaid : Prop := fnExactVisibilityForRow.holds Try.pinned (OpenSpec.ofChange fnExactVisibilityForSpec)

/-- ITS FALSE NEIGHBOUR: 'it returns false'. Refute it at one input. -/
def fnExactVisibilityForWrong : ChangeSpec := { name := "fnExactVisibilityFor", fn := fun _ => fun
  | [d1, d2] => { results := [.lit (.bool false)], args := [d1, d2] }
  | _ => none }
def FnExactVisibilityForWrongFalsely : Prop := fnExactVisibilityForRow.holds Try.pinned (OpenSpec.ofChange fnExactVisibilityForWrong)

/-- 'laws.FnExactLuminousRange': WHATEVER THE INPUT: true; the input reads as it did. -/
def fnExactLuminousRangeSpec : ChangeSpec := { name := "fnExactLuminousRange", fn := fun _ => fun
  | [d1, d2] => { results := [.lit (.bool true)], args := [d1, d2] }
  | _ => none }
def fnExactLuminousRangeRow : OpenClaim := { program := "ytffdipcogkhkmaa", sum := "bb947fd477b8b8aa7bd6e6af959e1a2592015f7a38267e45c8533ef49e37650f", func := "loop.example/g00953/laws.FnExactLuminousRange", spec := "fnExactLuminousRange", unfollowed := true, recurses := true, apart := false }
def FnExactLuminousRangeSaid : Prop := fnExactLuminousRangeRow.holds Try.pinned (OpenSpec.ofChange fnExactLuminousRangeSpec)

/-- ITS FALSE NEIGHBOUR: 'it returns false'. Refute it at one input. -/
def fnExactLuminousRangeWrong : ChangeSpec := { name := "fnExactLuminousRange", fn := fun _ => fun
  | [d1, d2] => { results := [.lit (.bool false)], args := [d1, d2] }
  | _ => none }
def FnExactLuminousRangeWrongFalsely : Prop := fnExactLuminousRangeRow.holds Try.pinned (OpenSpec.ofChange fnExactLuminousRangeWrong)

/-- 'laws.FnExactNominalRange': WHATEVER THE INPUT: true; the input reads as it did. -/
def fnExactNominalRangeSpec : ChangeSpec := { name := "fnExactNominalRange", fn := fun _ => fun
  | [d] => { results := [.lit (.bool true)], args := [d] }
  | _ => none }
def fnExactNominalRangeRow : OpenClaim := { program := "ytffdipcogkhkmaa", sum := "bb947fd477b8b8aa7bd6e6af959e1a2592015f7a38267e45c8533ef49e37650f", func := "loop.example/g00953/laws.FnExactNominalRange", spec := "fnExactNominalRange", unfollowed := true, recurses := true, apart := false }
def FnExactNominalRangeSaid : Prop := fnExactNominalRangeRow.holds Try.pinned (OpenSpec.ofChange fnExactNominalRangeSpec)

/-- ITS FALSE NEIGHBOUR: 'it returns false'. Refute it at one input. -/
def fnExactNominalRangeWrong : ChangeSpec := { name := "fnExactNominalRange", fn := fun _ => fun
  | [d] => { results := [.lit (.bool false)], args := [d] }
  | _ => none }
def FnExactNominalRangeWrongFalsely : Prop := fnExactNominalRangeRow.holds Try.pinned (OpenSpec.ofChange fnExactNominalRangeWrong)

/-- 'laws.FnExactRangeOf': WHATEVER THE INPUT: true; the input reads as it did. -/
def fnExactRangeOfSpec : ChangeSpec := { name := "fnExactRangeOf", fn := fun _ => fun
  | [d1, d2, d3, d4] => { results := [.lit (.bool true)], args := [d1, d2, d3, d4] }
  | _ => none }
def fnExactRangeOfRow : OpenClaim := { program := "ytffdipcogkhkmaa", sum := "bb947fd477b8b8aa7bd6e6af959e1a2592015f7a38267e45c8533ef49e37650f", func := "loop.example/g00953/laws.FnExactRangeOf", spec := "fnExactRangeOf", unfollowed := true, recurses := true, apart := false }
def FnExactRangeOfSaid : Prop := fnExactRangeOfRow.holds Try.pinned (OpenSpec.ofChange fnExactRangeOfSpec)

/-- ITS FALSE NEIGHBOUR: 'it returns false'. Refute it at one input. -/
def fnExactRangeOfWrong : ChangeSpec := { name := "fnExactRangeOf", fn := fun _ => fun
  | [d1, d2, d3, d4] => { results := [.lit (.bool false)], args := [d1, d2, d3, d4] }
  | _ => none }
def FnExactRangeOfWrongFalsely : Prop := fnExactRangeOfRow.holds Try.pinned (OpenSpec.ofChange fnExactRangeOfWrong)

/-- 'laws.FnExactSoundAt': WHATEVER THE INPUT: true; the input reads as it did. -/
def fnExactSoundAtSpec : ChangeSpec := { name := "fnExactSoundAt", fn := fun _ => fun
  | [d1, d2] => { results := [.lit (.bool true)], args := [d1, d2] }
  | _ => none }
def fnExactSoundAtRow : OpenClaim := { program := "ytffdipcogkhkmaa", sum := "bb947fd477b8b8aa7bd6e6af959e1a2592015f7a38267e45c8533ef49e37650f", func := "loop.example/g00953/laws.FnExactSoundAt", spec := "fnExactSoundAt", apart := false }
def FnExactSoundAtSaid : Prop := fnExactSoundAtRow.holds Try.pinned (OpenSpec.ofChange fnExactSoundAtSpec)

/-- ITS FALSE NEIGHBOUR: 'it returns false'. Refute it at one input. -/
def fnExactSoundAtWrong : ChangeSpec := { name := "fnExactSoundAt", fn := fun _ => fun
  | [d1, d2] => { results := [.lit (.bool false)], args := [d1, d2] }
  | _ => none }
def FnExactSoundAtWrongFalsely : Prop := fnExactSoundAtRow.holds Try.pinned (OpenSpec.ofChange fnExactSoundAtWrong)

/-- 'laws.FnExactNextBlast': WHATEVER THE INPUT: true; the input reads as it did. -/
def fnExactNextBlastSpec : ChangeSpec := { name := "fnExactNextBlast", fn := fun _ => fun
  | [d1, d2] => { results := [.lit (.bool true)], args := [d1, d2] }
  | _ => none }
def fnExactNextBlastRow : OpenClaim := { program := "ytffdipcogkhkmaa", sum := "bb947fd477b8b8aa7bd6e6af959e1a2592015f7a38267e45c8533ef49e37650f", func := "loop.example/g00953/laws.FnExactNextBlast", spec := "fnExactNextBlast", apart := false }
def FnExactNextBlastSaid : Prop := fnExactNextBlastRow.holds Try.pinned (OpenSpec.ofChange fnExactNextBlastSpec)

/-- ITS FALSE NEIGHBOUR: 'it returns false'. Refute it at one input. -/
def fnExactNextBlastWrong : ChangeSpec := { name := "fnExactNextBlast", fn := fun _ => fun
  | [d1, d2] => { results := [.lit (.bool false)], args := [d1, d2] }
  | _ => none }
def FnExactNextBlastWrongFalsely : Prop := fnExactNextBlastRow.holds Try.pinned (OpenSpec.ofChange fnExactNextBlastWrong)

/- THE SECOND FORM. 'bulk': how many values and letters a reading holds, each counted each time it is reached (what is shared counts as often as it is met; a slice's spare places count too). A statement '..UptoSaid' is the law's where the arguments, and the package variables that the reading takes, are together of bulk at most 1048576: NARROWER than '..Said'. Prove '..Said' where nothing that the law and all that it calls make is longer than what came in: it says more and counts as full. Else prove '..UptoSaid'. A law counts once. -/
mutual
def uptoBulk {H : Type} : DataW H → Nat
  | .lit (.string bytes) => bytes.length + 1
  | .lit _ => 1
  | .nil => 1
  | .ptr d => uptoBulk d + 1
  | .slice elems spare => uptoBulkAll elems + uptoBulkAll spare + 1
  | .agg parts => uptoBulkAll parts + 1
  | .iface _ d => uptoBulk d + 1
  | .map entries => uptoBulkEntries entries + 1
  | .held _ => 1
def uptoBulkAll {H : Type} : List (DataW H) → Nat
  | [] => 0
  | d :: r => uptoBulk d + uptoBulkAll r
def uptoBulkEntries {H : Type} : List (Lit × DataW H) → Nat
  | [] => 0
  | x :: r => uptoBulkEntry x + uptoBulkEntries r
def uptoBulkEntry {H : Type} : Lit × DataW H → Nat
  | (.string bytes, d) => bytes.length + uptoBulk d + 1
  | (_, d) => uptoBulk d + 1
 end
def uptoSmall : (H : Type) → List (DataW H) → Bool := fun _ ds => decide (uptoBulkAll ds ≤ 1048576)
def OpenSpec.upto (s : _root_.Go.ChangeSpec) : _root_.Go.OpenSpec := { _root_.Go.OpenSpec.ofChange s with cond := some uptoSmall }

/-- 'laws.FnLuminous', WHERE WHAT IT READS IS OF BULK AT MOST 1048576: true; the input reads as it did. -/
def fnLuminousUptoRow : OpenClaim := { program := "ytffdipcogkhkmaa", sum := "bb947fd477b8b8aa7bd6e6af959e1a2592015f7a38267e45c8533ef49e37650f", func := "loop.example/g00953/laws.FnLuminous", spec := "fnLuminous", unfollowed := true, recurses := true, apart := false, narrowed := true }
def FnLuminousUptoSaid : Prop := fnLuminousUptoRow.holds Try.pinned (OpenSpec.upto fnLuminousSpec)

/-- 'laws.FnExactTenLog', WHERE WHAT IT READS IS OF BULK AT MOST 1048576: true; the input reads as it did. -/
def fnExactTenLogUptoRow : OpenClaim := { program := "ytffdipcogkhkmaa", sum := "bb947fd477b8b8aa7bd6e6af959e1a2592015f7a38267e45c8533ef49e37650f", func := "loop.example/g00953/laws.FnExactTenLog", spec := "fnExactTenLog", apart := false, narrowed := true }
def FnExactTenLogUptoSaid : Prop := fnExactTenLogUptoRow.holds Try.pinned (OpenSpec.upto fnExactTenLogSpec)

/-- 'laws.FnExactEyeFor', WHERE WHAT IT READS IS OF BULK AT MOST 1048576: true; the input reads as it did. -/
def fnExactEyeForUptoRow : OpenClaim := { program := "ytffdipcogkhkmaa", sum := "bb947fd477b8b8aa7bd6e6af959e1a2592015f7a38267e45c8533ef49e37650f", func := "loop.example/g00953/laws.FnExactEyeFor", spec := "fnExactEyeFor", unfollowed := true, recurses := true, apart := false, narrowed := true }
def FnExactEyeForUptoSaid : Prop := fnExactEyeForUptoRow.holds Try.pinned (OpenSpec.upto fnExactEyeForSpec)

/-- 'laws.FnExactSoundRange', WHERE WHAT IT READS IS OF BULK AT MOST 1048576: true; the input reads as it did. -/
def fnExactSoundRangeUptoRow : OpenClaim := { program := "ytffdipcogkhkmaa", sum := "bb947fd477b8b8aa7bd6e6af959e1a2592015f7a38267e45c8533ef49e37650f", func := "loop.example/g00953/laws.FnExactSoundRange", spec := "fnExactSoundRange", apart := false, narrowed := true }
def FnExactSoundRangeUptoSaid : Prop := fnExactSoundRangeUptoRow.holds Try.pinned (OpenSpec.upto fnExactSoundRangeSpec)

/-- 'laws.FnExactPowerFor', WHERE WHAT IT READS IS OF BULK AT MOST 1048576: true; the input reads as it did. -/
def fnExactPowerForUptoRow : OpenClaim := { program := "ytffdipcogkhkmaa", sum := "bb947fd477b8b8aa7bd6e6af959e1a2592015f7a38267e45c8533ef49e37650f", func := "loop.example/g00953/laws.FnExactPowerFor", spec := "fnExactPowerFor", unfollowed := true, recurses := true, apart := false, narrowed := true }
def FnExactPowerForUptoSaid : Prop := fnExactPowerForUptoRow.holds Try.pinned (OpenSpec.upto fnExactPowerForSpec)

/-- 'laws.FnExactIntensityFor', WHERE WHAT IT READS IS OF BULK AT MOST 1048576: true; the input reads as it did. -/
def fnExactIntensityForUptoRow : OpenClaim := { program := "ytffdipcogkhkmaa", sum := "bb947fd477b8b8aa7bd6e6af959e1a2592015f7a38267e45c8533ef49e37650f", func := "loop.example/g00953/laws.FnExactIntensityFor", spec := "fnExactIntensityFor", unfollowed := true, recurses := true, apart := false, narrowed := true }
def FnExactIntensityForUptoSaid : Prop := fnExactIntensityForUptoRow.holds Try.pinned (OpenSpec.upto fnExactIntensityForSpec)

/-- 'laws.FnExactVisibilityFor', WHERE WHAT IT READS IS OF BULK AT MOST 1048576: true; the input reads as it did. -/
def fnExactVisibilityForUptoRow : OpenClaim := { program := "ytffdipcogkhkmaa", sum := "bb947fd477b8b8aa7bd6e6af959e1a2592015f7a38267e45c8533ef49e37650f", func := "loop.example/g00953/laws.FnExactVisibilityFor", spec := "fnExactVisibilityFor", unfollowed := true, recurses := true, apart := false, narrowed := true }
def FnExactVisibilityForUptoSaid : Prop := fnExactVisibilityForUptoRow.holds Try.pinned (OpenSpec.upto fnExactVisibilityForSpec)

/-- 'laws.FnExactLuminousRange', WHERE WHAT IT READS IS OF BULK AT MOST 1048576: true; the input reads as it did. -/
def fnExactLuminousRangeUptoRow : OpenClaim := { program := "ytffdipcogkhkmaa", sum := "bb947fd477b8b8aa7bd6e6af959e1a2592015f7a38267e45c8533ef49e37650f", func := "loop.example/g00953/laws.FnExactLuminousRange", spec := "fnExactLuminousRange", unfollowed := true, recurses := true, apart := false, narrowed := true }
def FnExactLuminousRangeUptoSaid : Prop := fnExactLuminousRangeUptoRow.holds Try.pinned (OpenSpec.upto fnExactLuminousRangeSpec)

/-- 'laws.FnExactNominalRange', WHERE WHAT IT READS IS OF BULK AT MOST 1048576: true; the input reads as it did. -/
def fnExactNominalRangeUptoRow : OpenClaim := { program := "ytffdipcogkhkmaa", sum := "bb947fd477b8b8aa7bd6e6af959e1a2592015f7a38267e45c8533ef49e37650f", func := "loop.example/g00953/laws.FnExactNominalRange", spec := "fnExactNominalRange", unfollowed := true, recurses := true, apart := false, narrowed := true }
def FnExactNominalRangeUptoSaid : Prop := fnExactNominalRangeUptoRow.holds Try.pinned (OpenSpec.upto fnExactNominalRangeSpec)

/-- 'laws.FnExactRangeOf', WHERE WHAT IT READS IS OF BULK AT MOST 1048576: true; the input reads as it did. -/
def fnExactRangeOfUptoRow : OpenClaim := { program := "ytffdipcogkhkmaa", sum := "bb947fd477b8b8aa7bd6e6af959e1a2592015f7a38267e45c8533ef49e37650f", func := "loop.example/g00953/laws.FnExactRangeOf", spec := "fnExactRangeOf", unfollowed := true, recurses := true, apart := false, narrowed := true }
def FnExactRangeOfUptoSaid : Prop := fnExactRangeOfUptoRow.holds Try.pinned (OpenSpec.upto fnExactRangeOfSpec)

/-- 'laws.FnExactSoundAt', WHERE WHAT IT READS IS OF BULK AT MOST 1048576: true; the input reads as it did. -/
def fnExactSoundAtUptoRow : OpenClaim := { program := "ytffdipcogkhkmaa", sum := "bb947fd477b8b8aa7bd6e6af959e1a2592015f7a38267e45c8533ef49e37650f", func := "loop.example/g00953/laws.FnExactSoundAt", spec := "fnExactSoundAt", apart := false, narrowed := true }
def FnExactSoundAtUptoSaid : Prop := fnExactSoundAtUptoRow.holds Try.pinned (OpenSpec.upto fnExactSoundAtSpec)

/-- 'laws.FnExactNextBlast', WHERE WHAT IT READS IS OF BULK AT MOST 1048576: true; the input reads as it did. -/
def fnExactNextBlastUptoRow : OpenClaim := { program := "ytffdipcogkhkmaa", sum := "bb947fd477b8b8aa7bd6e6af959e1a2592015f7a38267e45c8533ef49e37650f", func := "loop.example/g00953/laws.FnExactNextBlast", spec := "fnExactNextBlast", apart := false, narrowed := true }
def FnExactNextBlastUptoSaid : Prop := fnExactNextBlastUptoRow.holds Try.pinned (OpenSpec.upto fnExactNextBlastSpec)

end Rows
end Go.Proofs.Ytffdipcogkhkmaa
