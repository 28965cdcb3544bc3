/- The program's SoundRange and PowerFor answer as the reference's, for all arguments. -/
import Derived.Test.YtffdipcogkhkmaaPower
namespace Go.Proofs.Ytffdipcogkhkmaa
open Go.RowKit
set_option linter.unusedVariables false
set_option maxHeartbeats 2000000 in
theorem fnExactSoundRange_walk (w : World) (p : Int) (wa : (Lit.int .i64 p).wf = true) (v : Int) (wb : (Lit.int .i64 v).wf = true) :
    Calls Try.prog 6 #[.int .i64 p, .int .i64 v] w fun e w' => e = .returned (.bool true) ∧ Below w.heap.size w w' := by
  clear wa wb
  cases ha : inR p 60 140
  · have H := Lib.hid ha
    clear ha
    go_enter Try.func6, Try.ntmps6
    go_wp2_with (first
      | (go_at_call 26; refine (Aft.first (specSoundR_bad1 _ _ H.out _)).mono ?_; rintro e _ ⟨rfl, y, rfl⟩)
      | (go_at_call 27; refine (Aft.call (implSoundR_bad1 _ _ H.out _)).mono ?_; rintro e _ ⟨rfl, y, rfl⟩))
    go_ret
    exact ⟨rfl, Aft.below _⟩
  cases hb : inR v (-3) 3
  · have H := Lib.hid ha
    have H2 := Lib.hid hb
    clear ha hb
    go_enter Try.func6, Try.ntmps6
    go_wp2_with (first
      | (go_at_call 26; refine (Aft.first (specSoundR_bad2 _ _ H.out H2.out _)).mono ?_; rintro e _ ⟨rfl, y, rfl⟩)
      | (go_at_call 27; refine (Aft.call (implSoundR_bad2 _ _ H.out H2.out _)).mono ?_; rintro e _ ⟨rfl, y, rfl⟩))
    go_ret
    exact ⟨rfl, Aft.below _⟩
  have H := Lib.hid ha
  have H2 := Lib.hid hb
  clear ha hb
  go_enter Try.func6, Try.ntmps6
  go_wp2_with (first
    | (go_at_call 26; refine (Aft.first (specSoundR_yes _ _ H.out H2.out _)).mono ?_; rintro e _ ⟨rfl, y, rfl⟩)
    | (go_at_call 27; refine (Aft.call (implSoundR_yes _ _ H.out H2.out _)).mono ?_; rintro e _ ⟨rfl, y, rfl⟩))
  go_ret
  exact ⟨rfl, Aft.below _⟩
namespace fnExactSoundRangeDone
open Go.ChangeShapes Go.WideShapes Go.ChangeAt Go.RowKit Go.Joins
open Go.ChangeMaps (open_string shut_string)
set_option maxRecDepth 100000 in
theorem lifted (os : Os) (started : os.Started) (H : Type) (enc : TypeId × Value → H) :
    ReturnsInHanded {} Try.checked os 6 .any (Rows.fnExactSoundRangeSpec.pre6 enc Try.prog Try.f6 Rows.fnExactSoundRangeRow.domain false) (Rows.fnExactSoundRangeSpec.post enc Try.prog Try.f6 false true false false) := by
  refine returnsInHanded_of_change (C := Try.checked) lawOwn started (by kernel_rfl) Try.func6
    (ChangeSpec.witness6 (enc := enc) (C := Try.checked) false ⟨#[], #[.int .i64 0, .int .i64 0], []⟩ 8 (by kernel_rfl) (by kernel_rfl) (by kernel_rfl) (by kernel_rfl)) ?_
  intro W base args ds gs before hval0 hW hcnd _
  have hval : ∀ (j : Nat) t v, Try.f6.params[j]? = some t → args[j]? = some v → Value.okWide Try.prog W .any base t v := hval0
  have hW' := hW
  obtain ⟨p, q, hA0, hV, rfl, hfz, hnd⟩ := hW
  have hA : DataW.TrodAll enc Try.prog W 0 (fun _ => true) true Try.f6.params.toList args.toList ds p := hA0
  rw [Try.params6] at hA hval
  obtain ⟨v0, vs0, d0, ds0, p0, q0, hargs, rfl, rfl, h0, r0⟩ := trodAll_cons hA
  obtain ⟨v1, vs1, d1, ds1, p1, q1, rfl, rfl, rfl, h1, r1⟩ := trodAll_cons r0
  obtain ⟨rfl, rfl, rfl⟩ := trodAll_nil r1
  obtain rfl : args = #[v0, v1] := by cases args; simp_all
  obtain ⟨rfl, rfl⟩ := trodVars_none hV
  have k0 := h0
  have lt0 : ∀ x ∈ p0, x.block < W.heap.size := by obtain ⟨m, hm⟩ := k0; exact DataW.trod_lt m _ _ _ hm
  have k1 := h1
  have lt1 : ∀ x ∈ p1, x.block < W.heap.size := by obtain ⟨m, hm⟩ := k1; exact DataW.trod_lt m _ _ _ hm
  suffices hwalk : Calls Try.prog 6 #[v0, v1] W fun e w' => e = .returned (.bool true) ∧ Below W.heap.size W w' by
    refine hwalk.mono fun e W' ⟨he, bel⟩ => ?_
    subst he
    exact ⟨_, rfl, _, _, _, [], _, [], hW', trodAll_mk1 (shut_bool Try.underlying4 _), (trodAll_cons_mk (Below.trod lawLaid (by kernel_rfl) (of_decide_eq_true (by kernel_rfl)) k0 bel lt0) (trodAll_cons_mk (Below.trod lawLaid (by kernel_rfl) (of_decide_eq_true (by kernel_rfl)) k1 bel lt1) trodAll_mk0)), rfl, bel.frame _, fun h => by cases h⟩
  clear hA0 hval0
  obtain ⟨a0, rfl, rfl, rfl, w0⟩ := open_int Try.underlying2 (hval 0 2 v0 rfl rfl) h0
  obtain ⟨a1, rfl, rfl, rfl, w1⟩ := open_int Try.underlying2 (hval 1 2 v1 rfl rfl) h1
  exact fnExactSoundRange_walk (w := W) a0 w0 a1 w1

theorem over : Rows.fnExactSoundRangeRow.holds Try.pinned (OpenSpec.ofChange Rows.fnExactSoundRangeSpec) :=
  OpenClaim.holds_of_wide 6 Try.f6 rfl rfl rfl rfl rfl rfl rfl ⟨rfl, rfl, rfl, rfl, rfl⟩ rfl rfl rfl rfl rfl (by kernel_rfl) Try.func6 (by kernel_rfl)
    (of_decide_eq_true (by kernel_rfl)) (by unfold Func.isWrapper; first | (rw [if_pos (by decide +kernel)]; kernel_rfl) | (rw [if_neg (by decide +kernel)]; exact ⟨rfl, rfl⟩))
    (fun os started H enc _ => lifted os started H enc)

theorem proved : Rows.FnExactSoundRangeSaid := over
#print axioms proved
end fnExactSoundRangeDone
set_option maxHeartbeats 2000000 in
theorem fnExactPowerFor_walk (w : World) (d : Int) (wa : (Lit.int .i64 d).wf = true) (v : Int) (wb : (Lit.int .i64 v).wf = true) :
    Calls Try.prog 7 #[.int .i64 d, .int .i64 v] w fun e w' => e = .returned (.bool true) ∧ Below w.heap.size w w' := by
  clear wa wb
  cases ha : inR d 0 300000
  · have H := Lib.hid ha
    clear ha
    go_enter Try.func7, Try.ntmps7
    go_wp2_with (first
      | (go_at_call 28; refine (Aft.first (specPower_bad1 _ _ H.out _)).mono ?_; rintro e _ ⟨rfl, y, rfl⟩)
      | (go_at_call 29; refine (Aft.call (implPower_bad1 _ _ H.out _)).mono ?_; rintro e _ ⟨rfl, y, rfl⟩))
    go_ret
    exact ⟨rfl, Aft.below _⟩
  cases hb : inR v (-3) 3
  · have H := Lib.hid ha
    have H2 := Lib.hid hb
    clear ha hb
    go_enter Try.func7, Try.ntmps7
    go_wp2_with (first
      | (go_at_call 28; refine (Aft.first (specPower_bad2 _ _ H.out H2.out _)).mono ?_; rintro e _ ⟨rfl, y, rfl⟩)
      | (go_at_call 29; refine (Aft.call (implPower_bad2 _ _ H.out H2.out _)).mono ?_; rintro e _ ⟨rfl, y, rfl⟩))
    go_ret
    exact ⟨rfl, Aft.below _⟩
  have H := Lib.hid ha
  have H2 := Lib.hid hb
  clear ha hb
  cases hx : accS d v 140
  · have H3 := Lib.hid hx
    clear hx
    go_enter Try.func7, Try.ntmps7
    go_wp2_with (first
      | (go_at_call 28; refine (Aft.first (specPower_none _ _ H.out H2.out H3.out _)).mono ?_; rintro e _ ⟨rfl, y, rfl⟩)
      | (go_at_call 29; refine (Aft.call (implPower_none _ _ H.out H2.out H3.out _)).mono ?_; rintro e _ ⟨rfl, y, rfl⟩))
    go_ret
    exact ⟨rfl, Aft.below _⟩
  · obtain ⟨r, r0, r1, hr⟩ := exists_least (accS d v) 140 hx _ 60 rfl (by omega)
    have H3 := Lib.hid hx
    have H4 := Lib.hid hr
    clear hx hr
    go_enter Try.func7, Try.ntmps7
    go_wp2_with (first
      | (go_at_call 28; refine (Aft.first (specPower_some _ _ H.out H2.out r r0 r1 H4.out _)).mono ?_; rintro e _ ⟨rfl, y, rfl⟩)
      | (go_at_call 29; refine (Aft.call (implPower_some _ _ H.out H2.out H3.out r r0 H4.out _)).mono ?_; rintro e _ ⟨rfl, y, rfl⟩))
    go_ret
    exact ⟨rfl, Aft.below _⟩
namespace fnExactPowerForDone
open Go.ChangeShapes Go.WideShapes Go.ChangeAt Go.RowKit Go.Joins
open Go.ChangeMaps (open_string shut_string)
set_option maxRecDepth 100000 in
theorem lifted (os : Os) (started : os.Started) (H : Type) (enc : TypeId × Value → H) :
    ReturnsInHanded {} Try.checked os 7 .any (Rows.fnExactPowerForSpec.pre6 enc Try.prog Try.f7 Rows.fnExactPowerForRow.domain false) (Rows.fnExactPowerForSpec.post enc Try.prog Try.f7 false true false false) := by
  refine returnsInHanded_of_change (C := Try.checked) lawOwn started (by kernel_rfl) Try.func7
    (ChangeSpec.witness6 (enc := enc) (C := Try.checked) false ⟨#[], #[.int .i64 0, .int .i64 0], []⟩ 8 (by kernel_rfl) (by kernel_rfl) (by kernel_rfl) (by kernel_rfl)) ?_
  intro W base args ds gs before hval0 hW hcnd _
  have hval : ∀ (j : Nat) t v, Try.f7.params[j]? = some t → args[j]? = some v → Value.okWide Try.prog W .any base t v := hval0
  have hW' := hW
  obtain ⟨p, q, hA0, hV, rfl, hfz, hnd⟩ := hW
  have hA : DataW.TrodAll enc Try.prog W 0 (fun _ => true) true Try.f7.params.toList args.toList ds p := hA0
  rw [Try.params7] at hA hval
  obtain ⟨v0, vs0, d0, ds0, p0, q0, hargs, rfl, rfl, h0, r0⟩ := trodAll_cons hA
  obtain ⟨v1, vs1, d1, ds1, p1, q1, rfl, rfl, rfl, h1, r1⟩ := trodAll_cons r0
  obtain ⟨rfl, rfl, rfl⟩ := trodAll_nil r1
  obtain rfl : args = #[v0, v1] := by cases args; simp_all
  obtain ⟨rfl, rfl⟩ := trodVars_none hV
  have k0 := h0
  have lt0 : ∀ x ∈ p0, x.block < W.heap.size := by obtain ⟨m, hm⟩ := k0; exact DataW.trod_lt m _ _ _ hm
  have k1 := h1
  have lt1 : ∀ x ∈ p1, x.block < W.heap.size := by obtain ⟨m, hm⟩ := k1; exact DataW.trod_lt m _ _ _ hm
  suffices hwalk : Calls Try.prog 7 #[v0, v1] W fun e w' => e = .returned (.bool true) ∧ Below W.heap.size W w' by
    refine hwalk.mono fun e W' ⟨he, bel⟩ => ?_
    subst he
    exact ⟨_, rfl, _, _, _, [], _, [], hW', trodAll_mk1 (shut_bool Try.underlying4 _), (trodAll_cons_mk (Below.trod lawLaid (by kernel_rfl) (of_decide_eq_true (by kernel_rfl)) k0 bel lt0) (trodAll_cons_mk (Below.trod lawLaid (by kernel_rfl) (of_decide_eq_true (by kernel_rfl)) k1 bel lt1) trodAll_mk0)), rfl, bel.frame _, fun h => by cases h⟩
  clear hA0 hval0
  obtain ⟨a0, rfl, rfl, rfl, w0⟩ := open_int Try.underlying2 (hval 0 2 v0 rfl rfl) h0
  obtain ⟨a1, rfl, rfl, rfl, w1⟩ := open_int Try.underlying2 (hval 1 2 v1 rfl rfl) h1
  exact fnExactPowerFor_walk (w := W) a0 w0 a1 w1

theorem over : Rows.fnExactPowerForRow.holds Try.pinned (OpenSpec.ofChange Rows.fnExactPowerForSpec) :=
  OpenClaim.holds_of_wide 7 Try.f7 rfl rfl rfl rfl rfl rfl rfl ⟨rfl, rfl, rfl, rfl, rfl⟩ rfl rfl rfl rfl rfl (by kernel_rfl) Try.func7 (by kernel_rfl)
    (of_decide_eq_true (by kernel_rfl)) (by unfold Func.isWrapper; first | (rw [if_pos (by decide +kernel)]; kernel_rfl) | (rw [if_neg (by decide +kernel)]; exact ⟨rfl, rfl⟩))
    (fun os started H enc _ => lifted os started H enc)

theorem proved : Rows.FnExactPowerForSaid := over
#print axioms proved
end fnExactPowerForDone
end Go.Proofs.Ytffdipcogkhkmaa
