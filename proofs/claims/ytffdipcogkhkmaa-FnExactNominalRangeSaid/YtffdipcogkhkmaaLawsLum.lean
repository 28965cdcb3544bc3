/- The program's LuminousRange, NominalRange and RangeOf answer as the reference's, for all arguments. -/
import Derived.Test.YtffdipcogkhkmaaLum2
namespace Go.Proofs.Ytffdipcogkhkmaa
open Go.RowKit
set_option linter.unusedVariables false
set_option maxHeartbeats 2000000 in
theorem fnExactLuminousRange_walk (w : World) (i : Int) (wa : (Lit.int .i64 i).wf = true) (v : Int) (wb : (Lit.int .i64 v).wf = true) :
    Calls Try.prog 10 #[.int .i64 i, .int .i64 v] w fun e w' => e = .returned (.bool true) ∧ Below w.heap.size w w' := by
  clear wa wb
  cases ha : inR i 1 100000000
  · have H := Lib.hid ha
    clear ha
    go_enter Try.func10, Try.ntmps10
    go_wp2_with (first
      | (go_at_call 32; refine (Aft.first (specLumR_bad1 _ _ H.out _)).mono ?_; rintro e _ ⟨rfl, y, rfl⟩)
      | (go_at_call 17; refine (Aft.call (implLumR_bad1 _ _ H.out _)).mono ?_; rintro e _ ⟨rfl, y, rfl⟩))
    go_ret
    exact ⟨rfl, Aft.below _⟩
  cases hb : inR v 1 100000
  · have H := Lib.hid ha
    have H2 := Lib.hid hb
    clear ha hb
    go_enter Try.func10, Try.ntmps10
    go_wp2_with (first
      | (go_at_call 32; refine (Aft.first (specLumR_bad2 _ _ H.out H2.out _)).mono ?_; rintro e _ ⟨rfl, y, rfl⟩)
      | (go_at_call 17; refine (Aft.call (implLumR_bad2 _ _ H.out H2.out _)).mono ?_; rintro e _ ⟨rfl, y, rfl⟩))
    go_ret
    exact ⟨rfl, Aft.below _⟩
  obtain ⟨r, hr⟩ := exists_thr (accNot i v) 100000 (by omega) (accNot_mono (inR_iff.1 hb).1)
  have H := Lib.hid ha
  have H2 := Lib.hid hb
  have H3 := Lib.hid hr
  clear ha hb hr
  go_enter Try.func10, Try.ntmps10
  go_wp2_with (first
    | (go_at_call 32; refine (Aft.first (specLumR_yes _ _ H.out H2.out r H3.out _)).mono ?_; rintro e _ ⟨rfl, y, rfl⟩)
    | (go_at_call 17; refine (Aft.call (implLumR_yes _ _ H.out H2.out r H3.out _)).mono ?_; rintro e _ ⟨rfl, y, rfl⟩))
  go_ret
  exact ⟨rfl, Aft.below _⟩
namespace fnExactLuminousRangeDone
open Go.ChangeShapes Go.WideShapes Go.ChangeAt Go.RowKit Go.Joins
open Go.ChangeMaps (open_string shut_string)
set_option maxRecDepth 100000 in
theorem lifted (os : Os) (started : os.Started) (H : Type) (enc : TypeId × Value → H) :
    ReturnsInHanded {} Try.checked os 10 .any (Rows.fnExactLuminousRangeSpec.pre6 enc Try.prog Try.f10 Rows.fnExactLuminousRangeRow.domain false) (Rows.fnExactLuminousRangeSpec.post enc Try.prog Try.f10 false true false false) := by
  refine returnsInHanded_of_change (C := Try.checked) lawOwn started (by kernel_rfl) Try.func10
    (ChangeSpec.witness6 (enc := enc) (C := Try.checked) false ⟨#[], #[.int .i64 0, .int .i64 0], []⟩ 8 (by kernel_rfl) (by kernel_rfl) (by kernel_rfl) (by kernel_rfl)) ?_
  intro W base args ds gs before hval0 hW hcnd _
  have hval : ∀ (j : Nat) t v, Try.f10.params[j]? = some t → args[j]? = some v → Value.okWide Try.prog W .any base t v := hval0
  have hW' := hW
  obtain ⟨p, q, hA0, hV, rfl, hfz, hnd⟩ := hW
  have hA : DataW.TrodAll enc Try.prog W 0 (fun _ => true) true Try.f10.params.toList args.toList ds p := hA0
  rw [Try.params10] at hA hval
  obtain ⟨v0, vs0, d0, ds0, p0, q0, hargs, rfl, rfl, h0, r0⟩ := trodAll_cons hA
  obtain ⟨v1, vs1, d1, ds1, p1, q1, rfl, rfl, rfl, h1, r1⟩ := trodAll_cons r0
  obtain ⟨rfl, rfl, rfl⟩ := trodAll_nil r1
  obtain rfl : args = #[v0, v1] := by cases args; simp_all
  obtain ⟨rfl, rfl⟩ := trodVars_none hV
  have k0 := h0
  have lt0 : ∀ x ∈ p0, x.block < W.heap.size := by obtain ⟨m, hm⟩ := k0; exact DataW.trod_lt m _ _ _ hm
  have k1 := h1
  have lt1 : ∀ x ∈ p1, x.block < W.heap.size := by obtain ⟨m, hm⟩ := k1; exact DataW.trod_lt m _ _ _ hm
  suffices hwalk : Calls Try.prog 10 #[v0, v1] W fun e w' => e = .returned (.bool true) ∧ Below W.heap.size W w' by
    refine hwalk.mono fun e W' ⟨he, bel⟩ => ?_
    subst he
    exact ⟨_, rfl, _, _, _, [], _, [], hW', trodAll_mk1 (shut_bool Try.underlying4 _), (trodAll_cons_mk (Below.trod lawLaid (by kernel_rfl) (of_decide_eq_true (by kernel_rfl)) k0 bel lt0) (trodAll_cons_mk (Below.trod lawLaid (by kernel_rfl) (of_decide_eq_true (by kernel_rfl)) k1 bel lt1) trodAll_mk0)), rfl, bel.frame _, fun h => by cases h⟩
  clear hA0 hval0
  obtain ⟨a0, rfl, rfl, rfl, w0⟩ := open_int Try.underlying2 (hval 0 2 v0 rfl rfl) h0
  obtain ⟨a1, rfl, rfl, rfl, w1⟩ := open_int Try.underlying2 (hval 1 2 v1 rfl rfl) h1
  exact fnExactLuminousRange_walk (w := W) a0 w0 a1 w1

theorem over : Rows.fnExactLuminousRangeRow.holds Try.pinned (OpenSpec.ofChange Rows.fnExactLuminousRangeSpec) :=
  OpenClaim.holds_of_wide 10 Try.f10 rfl rfl rfl rfl rfl rfl rfl ⟨rfl, rfl, rfl, rfl, rfl⟩ rfl rfl rfl rfl rfl (by kernel_rfl) Try.func10 (by kernel_rfl)
    (of_decide_eq_true (by kernel_rfl)) (by unfold Func.isWrapper; first | (rw [if_pos (by decide +kernel)]; kernel_rfl) | (rw [if_neg (by decide +kernel)]; exact ⟨rfl, rfl⟩))
    (fun os started H enc _ => lifted os started H enc)

theorem proved : Rows.FnExactLuminousRangeSaid := over
#print axioms proved
end fnExactLuminousRangeDone
set_option maxHeartbeats 2000000 in
theorem fnExactNominalRange_walk (w : World) (i : Int) (wa : (Lit.int .i64 i).wf = true) :
    Calls Try.prog 11 #[.int .i64 i] w fun e w' => e = .returned (.bool true) ∧ Below w.heap.size w w' := by
  clear wa
  cases ha : inR i 1 100000000
  · have H := Lib.hid ha
    clear ha
    go_enter Try.func11, Try.ntmps11
    go_wp2_with (first
      | (go_at_call 33; refine (Aft.first (specNom_no _ H.out _)).mono ?_; rintro e _ ⟨rfl, y, rfl⟩)
      | (go_at_call 34; refine (Aft.call (implNom_no _ H.out _)).mono ?_; rintro e _ ⟨rfl, y, rfl⟩))
    go_ret
    exact ⟨rfl, Aft.below _⟩
  · obtain ⟨r, hr⟩ := exists_thr (accNot i 18520) 100000 (by omega) (accNot_mono (by omega))
    have H := Lib.hid ha
    have H3 := Lib.hid hr
    clear ha hr
    go_enter Try.func11, Try.ntmps11
    go_wp2_with (first
      | (go_at_call 33; refine (Aft.first (specNom_yes _ H.out r H3.out _)).mono ?_; rintro e _ ⟨rfl, y, rfl⟩)
      | (go_at_call 34; refine (Aft.call (implNom_yes _ H.out r H3.out _)).mono ?_; rintro e _ ⟨rfl, y, rfl⟩))
    go_ret
    exact ⟨rfl, Aft.below _⟩
namespace fnExactNominalRangeDone
open Go.ChangeShapes Go.WideShapes Go.ChangeAt Go.RowKit Go.Joins
open Go.ChangeMaps (open_string shut_string)
set_option maxRecDepth 100000 in
theorem lifted (os : Os) (started : os.Started) (H : Type) (enc : TypeId × Value → H) :
    ReturnsInHanded {} Try.checked os 11 .any (Rows.fnExactNominalRangeSpec.pre6 enc Try.prog Try.f11 Rows.fnExactNominalRangeRow.domain false) (Rows.fnExactNominalRangeSpec.post enc Try.prog Try.f11 false true false false) := by
  refine returnsInHanded_of_change (C := Try.checked) lawOwn started (by kernel_rfl) Try.func11
    (ChangeSpec.witness6 (enc := enc) (C := Try.checked) false ⟨#[], #[.int .i64 0], []⟩ 8 (by kernel_rfl) (by kernel_rfl) (by kernel_rfl) (by kernel_rfl)) ?_
  intro W base args ds gs before hval0 hW hcnd _
  have hval : ∀ (j : Nat) t v, Try.f11.params[j]? = some t → args[j]? = some v → Value.okWide Try.prog W .any base t v := hval0
  have hW' := hW
  obtain ⟨p, q, hA0, hV, rfl, hfz, hnd⟩ := hW
  have hA : DataW.TrodAll enc Try.prog W 0 (fun _ => true) true Try.f11.params.toList args.toList ds p := hA0
  rw [Try.params11] at hA hval
  obtain ⟨v0, vs0, d0, ds0, p0, q0, hargs, rfl, rfl, h0, r0⟩ := trodAll_cons hA
  obtain ⟨rfl, rfl, rfl⟩ := trodAll_nil r0
  obtain rfl : args = #[v0] := by cases args; simp_all
  obtain ⟨rfl, rfl⟩ := trodVars_none hV
  have k0 := h0
  have lt0 : ∀ x ∈ p0, x.block < W.heap.size := by obtain ⟨m, hm⟩ := k0; exact DataW.trod_lt m _ _ _ hm
  suffices hwalk : Calls Try.prog 11 #[v0] W fun e w' => e = .returned (.bool true) ∧ Below W.heap.size W w' by
    refine hwalk.mono fun e W' ⟨he, bel⟩ => ?_
    subst he
    exact ⟨_, rfl, _, _, _, [], _, [], hW', trodAll_mk1 (shut_bool Try.underlying4 _), (trodAll_cons_mk (Below.trod lawLaid (by kernel_rfl) (of_decide_eq_true (by kernel_rfl)) k0 bel lt0) trodAll_mk0), rfl, bel.frame _, fun h => by cases h⟩
  clear hA0 hval0
  obtain ⟨a0, rfl, rfl, rfl, w0⟩ := open_int Try.underlying2 (hval 0 2 v0 rfl rfl) h0
  exact fnExactNominalRange_walk (w := W) a0 w0

theorem over : Rows.fnExactNominalRangeRow.holds Try.pinned (OpenSpec.ofChange Rows.fnExactNominalRangeSpec) :=
  OpenClaim.holds_of_wide 11 Try.f11 rfl rfl rfl rfl rfl rfl rfl ⟨rfl, rfl, rfl, rfl, rfl⟩ rfl rfl rfl rfl rfl (by kernel_rfl) Try.func11 (by kernel_rfl)
    (of_decide_eq_true (by kernel_rfl)) (by unfold Func.isWrapper; first | (rw [if_pos (by decide +kernel)]; kernel_rfl) | (rw [if_neg (by decide +kernel)]; exact ⟨rfl, rfl⟩))
    (fun os started H enc _ => lifted os started H enc)

theorem proved : Rows.FnExactNominalRangeSaid := over
#print axioms proved
end fnExactNominalRangeDone
set_option maxHeartbeats 2000000 in
theorem fnExactRangeOf_walk (w : World) (i : Int) (wa : (Lit.int .i64 i).wf = true) (h : Int) (wb : (Lit.int .i64 h).wf = true) (e : Int) (wc : (Lit.int .i64 e).wf = true) (v : Int) (wd : (Lit.int .i64 v).wf = true) :
    Calls Try.prog 12 #[.int .i64 i, .int .i64 h, .int .i64 e, .int .i64 v] w fun e w' => e = .returned (.bool true) ∧ Below w.heap.size w w' := by
  clear wa wb wc wd
  cases ha : okRange i h e v
  · have H := Lib.hid ha
    clear ha
    go_enter Try.func12, Try.ntmps12
    go_wp2_with (first
      | (go_at_call 35; refine (Aft.first (specRange_no _ _ _ _ H.out _)).mono ?_; rintro e _ ⟨rfl, y, rfl⟩)
      | (go_at_call 22; refine (Aft.call (implRange_no _ _ _ _ H.out _)).mono ?_; rintro e _ ⟨rfl, y, rfl⟩))
    go_ret
    exact ⟨rfl, Aft.below _⟩
  · have hv : 1 ≤ v := by
      simp only [okRange, Bool.and_eq_true] at ha
      exact (inR_iff.1 ha.2).1
    obtain ⟨r, hr⟩ := exists_thr (accNot i v) 100000 (by omega) (accNot_mono hv)
    have H := Lib.hid ha
    have H3 := Lib.hid hr
    clear ha hr hv
    go_enter Try.func12, Try.ntmps12
    go_wp2_with (first
      | (go_at_call 35; refine (Aft.first (specRange_yes _ _ _ _ H.out r H3.out _)).mono ?_; rintro e _ ⟨rfl, y, rfl⟩)
      | (go_at_call 22; refine (Aft.call (implRange_yes _ _ _ _ H.out r H3.out _)).mono ?_; rintro e _ ⟨rfl, y, rfl⟩))
    go_ret
    exact ⟨rfl, Aft.below _⟩
namespace fnExactRangeOfDone
open Go.ChangeShapes Go.WideShapes Go.ChangeAt Go.RowKit Go.Joins
open Go.ChangeMaps (open_string shut_string)
set_option maxRecDepth 100000 in
theorem lifted (os : Os) (started : os.Started) (H : Type) (enc : TypeId × Value → H) :
    ReturnsInHanded {} Try.checked os 12 .any (Rows.fnExactRangeOfSpec.pre6 enc Try.prog Try.f12 Rows.fnExactRangeOfRow.domain false) (Rows.fnExactRangeOfSpec.post enc Try.prog Try.f12 false true false false) := by
  refine returnsInHanded_of_change (C := Try.checked) lawOwn started (by kernel_rfl) Try.func12
    (ChangeSpec.witness6 (enc := enc) (C := Try.checked) false ⟨#[], #[.int .i64 0, .int .i64 0, .int .i64 0, .int .i64 0], []⟩ 8 (by kernel_rfl) (by kernel_rfl) (by kernel_rfl) (by kernel_rfl)) ?_
  intro W base args ds gs before hval0 hW hcnd _
  have hval : ∀ (j : Nat) t v, Try.f12.params[j]? = some t → args[j]? = some v → Value.okWide Try.prog W .any base t v := hval0
  have hW' := hW
  obtain ⟨p, q, hA0, hV, rfl, hfz, hnd⟩ := hW
  have hA : DataW.TrodAll enc Try.prog W 0 (fun _ => true) true Try.f12.params.toList args.toList ds p := hA0
  rw [Try.params12] at hA hval
  obtain ⟨v0, vs0, d0, ds0, p0, q0, hargs, rfl, rfl, h0, r0⟩ := trodAll_cons hA
  obtain ⟨v1, vs1, d1, ds1, p1, q1, rfl, rfl, rfl, h1, r1⟩ := trodAll_cons r0
  obtain ⟨v2, vs2, d2, ds2, p2, q2, rfl, rfl, rfl, h2, r2⟩ := trodAll_cons r1
  obtain ⟨v3, vs3, d3, ds3, p3, q3, rfl, rfl, rfl, h3, r3⟩ := trodAll_cons r2
  obtain ⟨rfl, rfl, rfl⟩ := trodAll_nil r3
  obtain rfl : args = #[v0, v1, v2, v3] := by cases args; simp_all
  obtain ⟨rfl, rfl⟩ := trodVars_none hV
  have k0 := h0
  have lt0 : ∀ x ∈ p0, x.block < W.heap.size := by obtain ⟨m, hm⟩ := k0; exact DataW.trod_lt m _ _ _ hm
  have k1 := h1
  have lt1 : ∀ x ∈ p1, x.block < W.heap.size := by obtain ⟨m, hm⟩ := k1; exact DataW.trod_lt m _ _ _ hm
  have k2 := h2
  have lt2 : ∀ x ∈ p2, x.block < W.heap.size := by obtain ⟨m, hm⟩ := k2; exact DataW.trod_lt m _ _ _ hm
  have k3 := h3
  have lt3 : ∀ x ∈ p3, x.block < W.heap.size := by obtain ⟨m, hm⟩ := k3; exact DataW.trod_lt m _ _ _ hm
  suffices hwalk : Calls Try.prog 12 #[v0, v1, v2, v3] W fun e w' => e = .returned (.bool true) ∧ Below W.heap.size W w' by
    refine hwalk.mono fun e W' ⟨he, bel⟩ => ?_
    subst he
    exact ⟨_, rfl, _, _, _, [], _, [], hW', trodAll_mk1 (shut_bool Try.underlying4 _), (trodAll_cons_mk (Below.trod lawLaid (by kernel_rfl) (of_decide_eq_true (by kernel_rfl)) k0 bel lt0) (trodAll_cons_mk (Below.trod lawLaid (by kernel_rfl) (of_decide_eq_true (by kernel_rfl)) k1 bel lt1) (trodAll_cons_mk (Below.trod lawLaid (by kernel_rfl) (of_decide_eq_true (by kernel_rfl)) k2 bel lt2) (trodAll_cons_mk (Below.trod lawLaid (by kernel_rfl) (of_decide_eq_true (by kernel_rfl)) k3 bel lt3) trodAll_mk0)))), rfl, bel.frame _, fun h => by cases h⟩
  clear hA0 hval0
  obtain ⟨a0, rfl, rfl, rfl, w0⟩ := open_int Try.underlying2 (hval 0 2 v0 rfl rfl) h0
  obtain ⟨a1, rfl, rfl, rfl, w1⟩ := open_int Try.underlying2 (hval 1 2 v1 rfl rfl) h1
  obtain ⟨a2, rfl, rfl, rfl, w2⟩ := open_int Try.underlying2 (hval 2 2 v2 rfl rfl) h2
  obtain ⟨a3, rfl, rfl, rfl, w3⟩ := open_int Try.underlying2 (hval 3 2 v3 rfl rfl) h3
  exact fnExactRangeOf_walk (w := W) a0 w0 a1 w1 a2 w2 a3 w3

theorem over : Rows.fnExactRangeOfRow.holds Try.pinned (OpenSpec.ofChange Rows.fnExactRangeOfSpec) :=
  OpenClaim.holds_of_wide 12 Try.f12 rfl rfl rfl rfl rfl rfl rfl ⟨rfl, rfl, rfl, rfl, rfl⟩ rfl rfl rfl rfl rfl (by kernel_rfl) Try.func12 (by kernel_rfl)
    (of_decide_eq_true (by kernel_rfl)) (by unfold Func.isWrapper; first | (rw [if_pos (by decide +kernel)]; kernel_rfl) | (rw [if_neg (by decide +kernel)]; exact ⟨rfl, rfl⟩))
    (fun os started H enc _ => lifted os started H enc)

theorem proved : Rows.FnExactRangeOfSaid := over
#print axioms proved
end fnExactRangeOfDone
end Go.Proofs.Ytffdipcogkhkmaa
