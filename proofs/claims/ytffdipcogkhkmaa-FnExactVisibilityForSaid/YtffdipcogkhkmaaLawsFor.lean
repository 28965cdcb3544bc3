/- The program's IntensityFor and VisibilityFor answer as the reference's, for all arguments. -/
import Derived.Test.YtffdipcogkhkmaaLum2
namespace Go.Proofs.Ytffdipcogkhkmaa
open Go.RowKit
set_option linter.unusedVariables false
set_option maxHeartbeats 2000000 in
theorem fnExactIntensityFor_walk (w : World) (d : Int) (wa : (Lit.int .i64 d).wf = true) (v : Int) (wb : (Lit.int .i64 v).wf = true) :
    Calls Try.prog 8 #[.int .i64 d, .int .i64 v] w fun e w' => e = .returned (.bool true) ∧ Below w.heap.size w w' := by
  clear wa wb
  cases ha : inR d 1 100000
  · have H := Lib.hid ha
    clear ha
    go_enter Try.func8, Try.ntmps8
    go_wp2_with (first
      | (go_at_call 30; refine (Aft.first (specIntensityFor_bad1 _ _ H.out _)).mono ?_; rintro e _ ⟨rfl, y, rfl⟩)
      | (go_at_call 19; refine (Aft.call (implIntensityFor_bad1 _ _ H.out _)).mono ?_; rintro e _ ⟨rfl, y, rfl⟩))
    go_ret
    exact ⟨rfl, Aft.below _⟩
  cases hb : inR v 1 100000
  · have H := Lib.hid ha
    have H2 := Lib.hid hb
    clear ha hb
    go_enter Try.func8, Try.ntmps8
    go_wp2_with (first
      | (go_at_call 30; refine (Aft.first (specIntensityFor_bad2 _ _ H.out H2.out _)).mono ?_; rintro e _ ⟨rfl, y, rfl⟩)
      | (go_at_call 19; refine (Aft.call (implIntensityFor_bad2 _ _ H.out H2.out _)).mono ?_; rintro e _ ⟨rfl, y, rfl⟩))
    go_ret
    exact ⟨rfl, Aft.below _⟩
  obtain ⟨r, hr⟩ := exists_thr (fun i => accE i d v) 100000000 (by omega) accI_mono
  have H := Lib.hid ha
  have H2 := Lib.hid hb
  have H3 := Lib.hid hr
  clear ha hb hr
  rcases (show r ≤ 100000000 ∨ 100000000 < r by omega) with hle | hle
  · have H4 := Lib.hid hle
    clear hle
    go_enter Try.func8, Try.ntmps8
    go_wp2_with (first
      | (go_at_call 30; refine (Aft.first (specIntensityFor_some _ _ H.out H2.out r H3.out H4.out _)).mono ?_; rintro e _ ⟨rfl, y, rfl⟩)
      | (go_at_call 19; refine (Aft.call (implIntensityFor_some _ _ H.out H2.out r H3.out H4.out _)).mono ?_; rintro e _ ⟨rfl, y, rfl⟩))
    go_ret
    exact ⟨rfl, Aft.below _⟩
  · have H4 := Lib.hid hle
    clear hle
    go_enter Try.func8, Try.ntmps8
    go_wp2_with (first
      | (go_at_call 30; refine (Aft.first (specIntensityFor_none _ _ H.out H2.out r H3.out H4.out _)).mono ?_; rintro e _ ⟨rfl, y, rfl⟩)
      | (go_at_call 19; refine (Aft.call (implIntensityFor_none _ _ H.out H2.out r H3.out H4.out _)).mono ?_; rintro e _ ⟨rfl, y, rfl⟩))
    go_ret
    exact ⟨rfl, Aft.below _⟩
namespace fnExactIntensityForDone
open Go.ChangeShapes Go.WideShapes Go.ChangeAt Go.RowKit Go.Joins
open Go.ChangeMaps (open_string shut_string)
set_option maxRecDepth 100000 in
theorem lifted (os : Os) (started : os.Started) (H : Type) (enc : TypeId × Value → H) :
    ReturnsInHanded {} Try.checked os 8 .any (Rows.fnExactIntensityForSpec.pre6 enc Try.prog Try.f8 Rows.fnExactIntensityForRow.domain false) (Rows.fnExactIntensityForSpec.post enc Try.prog Try.f8 false true false false) := by
  refine returnsInHanded_of_change (C := Try.checked) lawOwn started (by kernel_rfl) Try.func8
    (ChangeSpec.witness6 (enc := enc) (C := Try.checked) false ⟨#[], #[.int .i64 0, .int .i64 0], []⟩ 8 (by kernel_rfl) (by kernel_rfl) (by kernel_rfl) (by kernel_rfl)) ?_
  intro W base args ds gs before hval0 hW hcnd _
  have hval : ∀ (j : Nat) t v, Try.f8.params[j]? = some t → args[j]? = some v → Value.okWide Try.prog W .any base t v := hval0
  have hW' := hW
  obtain ⟨p, q, hA0, hV, rfl, hfz, hnd⟩ := hW
  have hA : DataW.TrodAll enc Try.prog W 0 (fun _ => true) true Try.f8.params.toList args.toList ds p := hA0
  rw [Try.params8] at hA hval
  obtain ⟨v0, vs0, d0, ds0, p0, q0, hargs, rfl, rfl, h0, r0⟩ := trodAll_cons hA
  obtain ⟨v1, vs1, d1, ds1, p1, q1, rfl, rfl, rfl, h1, r1⟩ := trodAll_cons r0
  obtain ⟨rfl, rfl, rfl⟩ := trodAll_nil r1
  obtain rfl : args = #[v0, v1] := by cases args; simp_all
  obtain ⟨rfl, rfl⟩ := trodVars_none hV
  have k0 := h0
  have lt0 : ∀ x ∈ p0, x.block < W.heap.size := by obtain ⟨m, hm⟩ := k0; exact DataW.trod_lt m _ _ _ hm
  have k1 := h1
  have lt1 : ∀ x ∈ p1, x.block < W.heap.size := by obtain ⟨m, hm⟩ := k1; exact DataW.trod_lt m _ _ _ hm
  suffices hwalk : Calls Try.prog 8 #[v0, v1] W fun e w' => e = .returned (.bool true) ∧ Below W.heap.size W w' by
    refine hwalk.mono fun e W' ⟨he, bel⟩ => ?_
    subst he
    exact ⟨_, rfl, _, _, _, [], _, [], hW', trodAll_mk1 (shut_bool Try.underlying4 _), (trodAll_cons_mk (Below.trod lawLaid (by kernel_rfl) (of_decide_eq_true (by kernel_rfl)) k0 bel lt0) (trodAll_cons_mk (Below.trod lawLaid (by kernel_rfl) (of_decide_eq_true (by kernel_rfl)) k1 bel lt1) trodAll_mk0)), rfl, bel.frame _, fun h => by cases h⟩
  clear hA0 hval0
  obtain ⟨a0, rfl, rfl, rfl, w0⟩ := open_int Try.underlying2 (hval 0 2 v0 rfl rfl) h0
  obtain ⟨a1, rfl, rfl, rfl, w1⟩ := open_int Try.underlying2 (hval 1 2 v1 rfl rfl) h1
  exact fnExactIntensityFor_walk (w := W) a0 w0 a1 w1

theorem over : Rows.fnExactIntensityForRow.holds Try.pinned (OpenSpec.ofChange Rows.fnExactIntensityForSpec) :=
  OpenClaim.holds_of_wide 8 Try.f8 rfl rfl rfl rfl rfl rfl rfl ⟨rfl, rfl, rfl, rfl, rfl⟩ rfl rfl rfl rfl rfl (by kernel_rfl) Try.func8 (by kernel_rfl)
    (of_decide_eq_true (by kernel_rfl)) (by unfold Func.isWrapper; first | (rw [if_pos (by decide +kernel)]; kernel_rfl) | (rw [if_neg (by decide +kernel)]; exact ⟨rfl, rfl⟩))
    (fun os started H enc _ => lifted os started H enc)

theorem proved : Rows.FnExactIntensityForSaid := over
#print axioms proved
end fnExactIntensityForDone
set_option maxHeartbeats 2000000 in
theorem fnExactVisibilityFor_walk (w : World) (i : Int) (wa : (Lit.int .i64 i).wf = true) (d : Int) (wb : (Lit.int .i64 d).wf = true) :
    Calls Try.prog 9 #[.int .i64 i, .int .i64 d] w fun e w' => e = .returned (.bool true) ∧ Below w.heap.size w w' := by
  clear wa wb
  cases ha : inR i 1 100000000
  · have H := Lib.hid ha
    clear ha
    go_enter Try.func9, Try.ntmps9
    go_wp2_with (first
      | (go_at_call 31; refine (Aft.first (specVisibilityFor_bad1 _ _ H.out _)).mono ?_; rintro e _ ⟨rfl, y, rfl⟩)
      | (go_at_call 20; refine (Aft.call (implVisibilityFor_bad1 _ _ H.out _)).mono ?_; rintro e _ ⟨rfl, y, rfl⟩))
    go_ret
    exact ⟨rfl, Aft.below _⟩
  cases hb : inR d 1 100000
  · have H := Lib.hid ha
    have H2 := Lib.hid hb
    clear ha hb
    go_enter Try.func9, Try.ntmps9
    go_wp2_with (first
      | (go_at_call 31; refine (Aft.first (specVisibilityFor_bad2 _ _ H.out H2.out _)).mono ?_; rintro e _ ⟨rfl, y, rfl⟩)
      | (go_at_call 20; refine (Aft.call (implVisibilityFor_bad2 _ _ H.out H2.out _)).mono ?_; rintro e _ ⟨rfl, y, rfl⟩))
    go_ret
    exact ⟨rfl, Aft.below _⟩
  obtain ⟨r, hr⟩ := exists_thr (fun v => accE i d v) 100000 (by omega) (accV_mono (inR_iff.1 hb).1)
  have H := Lib.hid ha
  have H2 := Lib.hid hb
  have H3 := Lib.hid hr
  clear ha hb hr
  rcases (show r ≤ 100000 ∨ 100000 < r by omega) with hle | hle
  · have H4 := Lib.hid hle
    clear hle
    go_enter Try.func9, Try.ntmps9
    go_wp2_with (first
      | (go_at_call 31; refine (Aft.first (specVisibilityFor_some _ _ H.out H2.out r H3.out H4.out _)).mono ?_; rintro e _ ⟨rfl, y, rfl⟩)
      | (go_at_call 20; refine (Aft.call (implVisibilityFor_some _ _ H.out H2.out r H3.out H4.out _)).mono ?_; rintro e _ ⟨rfl, y, rfl⟩))
    go_ret
    exact ⟨rfl, Aft.below _⟩
  · have H4 := Lib.hid hle
    clear hle
    go_enter Try.func9, Try.ntmps9
    go_wp2_with (first
      | (go_at_call 31; refine (Aft.first (specVisibilityFor_none _ _ H.out H2.out r H3.out H4.out _)).mono ?_; rintro e _ ⟨rfl, y, rfl⟩)
      | (go_at_call 20; refine (Aft.call (implVisibilityFor_none _ _ H.out H2.out r H3.out H4.out _)).mono ?_; rintro e _ ⟨rfl, y, rfl⟩))
    go_ret
    exact ⟨rfl, Aft.below _⟩
namespace fnExactVisibilityForDone
open Go.ChangeShapes Go.WideShapes Go.ChangeAt Go.RowKit Go.Joins
open Go.ChangeMaps (open_string shut_string)
set_option maxRecDepth 100000 in
theorem lifted (os : Os) (started : os.Started) (H : Type) (enc : TypeId × Value → H) :
    ReturnsInHanded {} Try.checked os 9 .any (Rows.fnExactVisibilityForSpec.pre6 enc Try.prog Try.f9 Rows.fnExactVisibilityForRow.domain false) (Rows.fnExactVisibilityForSpec.post enc Try.prog Try.f9 false true false false) := by
  refine returnsInHanded_of_change (C := Try.checked) lawOwn started (by kernel_rfl) Try.func9
    (ChangeSpec.witness6 (enc := enc) (C := Try.checked) false ⟨#[], #[.int .i64 0, .int .i64 0], []⟩ 8 (by kernel_rfl) (by kernel_rfl) (by kernel_rfl) (by kernel_rfl)) ?_
  intro W base args ds gs before hval0 hW hcnd _
  have hval : ∀ (j : Nat) t v, Try.f9.params[j]? = some t → args[j]? = some v → Value.okWide Try.prog W .any base t v := hval0
  have hW' := hW
  obtain ⟨p, q, hA0, hV, rfl, hfz, hnd⟩ := hW
  have hA : DataW.TrodAll enc Try.prog W 0 (fun _ => true) true Try.f9.params.toList args.toList ds p := hA0
  rw [Try.params9] at hA hval
  obtain ⟨v0, vs0, d0, ds0, p0, q0, hargs, rfl, rfl, h0, r0⟩ := trodAll_cons hA
  obtain ⟨v1, vs1, d1, ds1, p1, q1, rfl, rfl, rfl, h1, r1⟩ := trodAll_cons r0
  obtain ⟨rfl, rfl, rfl⟩ := trodAll_nil r1
  obtain rfl : args = #[v0, v1] := by cases args; simp_all
  obtain ⟨rfl, rfl⟩ := trodVars_none hV
  have k0 := h0
  have lt0 : ∀ x ∈ p0, x.block < W.heap.size := by obtain ⟨m, hm⟩ := k0; exact DataW.trod_lt m _ _ _ hm
  have k1 := h1
  have lt1 : ∀ x ∈ p1, x.block < W.heap.size := by obtain ⟨m, hm⟩ := k1; exact DataW.trod_lt m _ _ _ hm
  suffices hwalk : Calls Try.prog 9 #[v0, v1] W fun e w' => e = .returned (.bool true) ∧ Below W.heap.size W w' by
    refine hwalk.mono fun e W' ⟨he, bel⟩ => ?_
    subst he
    exact ⟨_, rfl, _, _, _, [], _, [], hW', trodAll_mk1 (shut_bool Try.underlying4 _), (trodAll_cons_mk (Below.trod lawLaid (by kernel_rfl) (of_decide_eq_true (by kernel_rfl)) k0 bel lt0) (trodAll_cons_mk (Below.trod lawLaid (by kernel_rfl) (of_decide_eq_true (by kernel_rfl)) k1 bel lt1) trodAll_mk0)), rfl, bel.frame _, fun h => by cases h⟩
  clear hA0 hval0
  obtain ⟨a0, rfl, rfl, rfl, w0⟩ := open_int Try.underlying2 (hval 0 2 v0 rfl rfl) h0
  obtain ⟨a1, rfl, rfl, rfl, w1⟩ := open_int Try.underlying2 (hval 1 2 v1 rfl rfl) h1
  exact fnExactVisibilityFor_walk (w := W) a0 w0 a1 w1

theorem over : Rows.fnExactVisibilityForRow.holds Try.pinned (OpenSpec.ofChange Rows.fnExactVisibilityForSpec) :=
  OpenClaim.holds_of_wide 9 Try.f9 rfl rfl rfl rfl rfl rfl rfl ⟨rfl, rfl, rfl, rfl, rfl⟩ rfl rfl rfl rfl rfl (by kernel_rfl) Try.func9 (by kernel_rfl)
    (of_decide_eq_true (by kernel_rfl)) (by unfold Func.isWrapper; first | (rw [if_pos (by decide +kernel)]; kernel_rfl) | (rw [if_neg (by decide +kernel)]; exact ⟨rfl, rfl⟩))
    (fun os started H enc _ => lifted os started H enc)

theorem proved : Rows.FnExactVisibilityForSaid := over
#print axioms proved
end fnExactVisibilityForDone
end Go.Proofs.Ytffdipcogkhkmaa
