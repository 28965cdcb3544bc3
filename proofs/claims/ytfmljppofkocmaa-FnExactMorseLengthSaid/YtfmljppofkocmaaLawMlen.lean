/- The program's MorseLength answers as the reference's, for all arguments. -/
import Derived.Test.YtfmljppofkocmaaMlen
namespace Go.Proofs.Ytfmljppofkocmaa
open Go.RowKit
set_option linter.unusedVariables false
set_option maxHeartbeats 2000000 in
theorem fnExactMorseLength_walk (w : World) (s : ByteArray) (hs : s.size ≤ maxLen) :
    Calls Try.prog 5 #[.string s] w fun e w' => e = .returned (.bool true) ∧ Below w.heap.size w w' := by
  unfold maxLen at hs
  by_cases hlong : 1048576 < (s.size : Int)
  · go_enter Try.func5, Try.ntmps5
    go_wp2
    go_ret
    exact ⟨rfl, Below.refl _ _⟩
  · cases h : isL s
    · have H := Lib.hid h
      clear h
      go_enter Try.func5, Try.ntmps5
      go_wp2_with (first
        | (go_at_call 19; refine (Aft.first (specMlen_no _ (by omega) H.out _)).mono ?_; rintro e _ ⟨rfl, y, rfl⟩)
        | (go_at_call 20; refine (Aft.call (implMlen_no _ (by omega) H.out _)).mono ?_; rintro e _ ⟨rfl, z, rfl⟩))
      go_ret
      exact ⟨rfl, Aft.below _⟩
    · obtain ⟨c, rfl, h0, h1⟩ := isL_yes h
      clear h
      have H0 := Lib.hid h0
      have H1 := Lib.hid h1
      clear h0 h1 hlong hs
      have hshort : decide (1048576 < ((⟨#[c]⟩ : ByteArray).size : Int)) = false := rfl
      go_enter Try.func5, Try.ntmps5
      go_wp2_with (first
        | (go_at_call 19; refine (Aft.first (specMlen_yes c H0.out H1.out _)).mono ?_; rintro e _ ⟨rfl, y, rfl⟩)
        | (go_at_call 20; refine (Aft.call (implMlen_yes c H0.out H1.out _)).mono ?_; rintro e _ ⟨rfl, z, rfl⟩))
      go_ret
      exact ⟨rfl, Aft.below _⟩
namespace fnExactMorseLengthDone
open Go.ChangeShapes Go.WideShapes Go.ChangeAt Go.RowKit Go.Joins
open Go.ChangeMaps (open_string shut_string)
set_option maxRecDepth 100000 in
theorem lifted (os : Os) (started : os.Started) (H : Type) (enc : TypeId × Value → H) :
    ReturnsInHanded {} Try.checked os 5 .any (Rows.fnExactMorseLengthSpec.pre6 enc Try.prog Try.f5 Rows.fnExactMorseLengthRow.domain false) (Rows.fnExactMorseLengthSpec.post enc Try.prog Try.f5 false true false false) := by
  refine returnsInHanded_of_change (C := Try.checked) lawOwn started (by kernel_rfl) Try.func5
    (ChangeSpec.witness6 (enc := enc) (C := Try.checked) false ⟨#[], #[.string ByteArray.empty], []⟩ 8 (by kernel_rfl) (by kernel_rfl) (by kernel_rfl) (by kernel_rfl)) ?_
  intro W base args ds gs before hval0 hW hcnd _
  have hval : ∀ (j : Nat) t v, Try.f5.params[j]? = some t → args[j]? = some v → Value.okWide Try.prog W .any base t v := hval0
  have hW' := hW
  obtain ⟨p, q, hA0, hV, rfl, hfz, hnd⟩ := hW
  have hA : DataW.TrodAll enc Try.prog W 0 (fun _ => true) true Try.f5.params.toList args.toList ds p := hA0
  rw [Try.params5] at hA hval
  obtain ⟨v0, vs0, d0, ds0, p0, q0, hargs, rfl, rfl, h0, r0⟩ := trodAll_cons hA
  obtain ⟨rfl, rfl, rfl⟩ := trodAll_nil r0
  obtain rfl : args = #[v0] := by cases args; simp_all
  obtain ⟨rfl, rfl⟩ := trodVars_none hV
  have k0 := h0
  have lt0 : ∀ x ∈ p0, x.block < W.heap.size := by obtain ⟨m, hm⟩ := k0; exact DataW.trod_lt m _ _ _ hm
  suffices hwalk : Calls Try.prog 5 #[v0] W fun e w' => e = .returned (.bool true) ∧ Below W.heap.size W w' by
    refine hwalk.mono fun e W' ⟨he, bel⟩ => ?_
    subst he
    exact ⟨_, rfl, _, _, _, [], _, [], hW', trodAll_mk1 (shut_bool Try.underlying4 _), (trodAll_cons_mk (Below.trod lawLaid (by kernel_rfl) (of_decide_eq_true (by kernel_rfl)) k0 bel lt0) trodAll_mk0), rfl, bel.frame _, fun h => by cases h⟩
  clear hA0 hval0
  obtain ⟨s0, rfl, rfl, rfl, w0⟩ := open_string Try.underlying9 (hval 0 9 v0 rfl rfl) h0
  exact fnExactMorseLength_walk (w := W) s0 w0

theorem over : Rows.fnExactMorseLengthRow.holds Try.pinned (OpenSpec.ofChange Rows.fnExactMorseLengthSpec) :=
  OpenClaim.holds_of_wide 5 Try.f5 rfl rfl rfl rfl rfl rfl rfl ⟨rfl, rfl, rfl, rfl, rfl⟩ rfl rfl rfl rfl rfl (by kernel_rfl) Try.func5 (by kernel_rfl)
    (of_decide_eq_true (by kernel_rfl)) (by unfold Func.isWrapper; first | (rw [if_pos (by decide +kernel)]; kernel_rfl) | (rw [if_neg (by decide +kernel)]; exact ⟨rfl, rfl⟩))
    (fun os started H enc _ => lifted os started H enc)

theorem proved : Rows.FnExactMorseLengthSaid := over
#print axioms proved
end fnExactMorseLengthDone
end Go.Proofs.Ytfmljppofkocmaa
