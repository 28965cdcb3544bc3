/- The program's ArcOf answers as the reference's, for all arguments. -/
import Derived.Test.YtnbnkabooggoiaaQuad
namespace Go.Proofs.Ytnbnkabooggoiaa
open Go.RowKit
set_option linter.unusedVariables false
theorem tmod_shift {a b : Int} (hb : 1 ≤ b) : 0 ≤ a.tmod b + b ∧ a.tmod b + b ≤ 2 * b ∧ (a.tmod b + b) % b = a % b := by
  have h1 := Int.tmod_lt_of_pos a (show 0 < b by omega)
  have h2 : -b < a.tmod b := by
    have := Int.tmod_lt_of_pos (-a) (show 0 < b by omega)
    rw [Int.neg_tmod] at this
    omega
  refine ⟨by omega, by omega, ?_⟩
  rw [Int.add_emod_right, Int.tmod_eq_emod]
  split
  · simp [Int.emod_emod_of_dvd]
  · simp [Int.natAbs_of_nonneg (show 0 ≤ b by omega)]
set_option maxHeartbeats 1000000 in
theorem modulo_c (a b : Int) (hb : 1 ≤ b) (hb2 : b ≤ 1000000000000) (w : World) :
    Calls Try.prog 71 #[.int .i64 a, .int .i64 b] w fun e w' => e = .returned (.int .i64 (a % b)) ∧ w = w' := by
  obtain ⟨h0, h1, h2⟩ := tmod_shift (a := a) hb
  have H2 := Lib.hid h2
  clear h2
  have hz : (b == 0) = false := by simp; omega
  go_enter Try.func71, Try.ntmps71
  go_wp2
  go_ret
  exact ⟨ret_int H2.out, rfl⟩
/-- The number of degrees of a sector. -/
def arcZ (f t : Int) : Int := (t - f - 1) % 360 + 1
set_option maxHeartbeats 1000000 in
theorem l08Ends_c (g : Nat) (f t : Int) (v : Bool) (hv : (inR f 0 359 && inR t 0 359) = v) (w : World) (c0 : w.cell? ⟨g, 0, none⟩ = some (.int .i64 f)) (c1 : w.cell? ⟨g, 1, none⟩ = some (.int .i64 t)) :
    Calls Try.prog 59 #[.pointer (some ⟨g, 0, none⟩)] w fun e w' => e = .returned (.bool v) ∧ w = w' := by
  subst hv
  cases h : inR f 0 359
  all_goals
    go_enter Try.func59, Try.ntmps59
    go_wp2_with (go_at_call 42; refine (l00In_c _ _ _ _).mono ?_; rintro e w' ⟨rfl, rfl⟩)
    go_ret
    exact ⟨ret_bool (by simp), rfl⟩
set_option maxHeartbeats 1000000 in
theorem l08Arc_c (g : Nat) (f t : Int) (hf : 0 ≤ f ∧ f ≤ 359) (ht : 0 ≤ t ∧ t ≤ 359) (w : World) (hg : g < w.heap.size) (c0 : w.cell? ⟨g, 0, none⟩ = some (.int .i64 f)) (c1 : w.cell? ⟨g, 1, none⟩ = some (.int .i64 t)) :
    Calls Try.prog 60 #[.pointer (some ⟨g, 0, none⟩)] w fun e w' => e = .returned (.int .i64 (arcZ f t)) ∧ Below w.heap.size w w' := by
  have k0 : ∀ x : Aft w, x.w1.cell? ⟨g, 0, none⟩ = some (.int .i64 f) := fun x => x.cell hg c0
  have k1 : ∀ x : Aft w, x.w1.cell? ⟨g, 1, none⟩ = some (.int .i64 t) := fun x => x.cell hg c1
  have e1 : IntKind.i64.wrap (t - f) = t - f := IntWalk.i64_in _ (by omega)
  have e2 : IntKind.i64.wrap (t - f + 360) = t - f + 360 := IntWalk.i64_in _ (by omega)
  have e3 : 0 ≤ t - f + 360 := by omega
  by_cases hz : (t - f + 360) % 360 = 0
  · have hz' : ((t - f + 360) % 360 == 0) = true := by simpa using hz
    have HZ := Lib.hid hz
    clear hz
    go_enter Try.func60, Try.ntmps60
    go_wp2
    refine wp_region_aft (by kernel_rfl) (by kernel_rfl) ?_
    repeat (go_big_quiet_step (fail))
    refine wpQuiet_nil ?_
    intro w1 hb1
    go_wp2
    go_ret
    exact ⟨ret_int (by have := HZ.out; unfold arcZ; omega), hb1⟩
  · have hz' : ((t - f + 360) % 360 == 0) = false := by simpa using hz
    have HZ := Lib.hid hz
    clear hz
    go_enter Try.func60, Try.ntmps60
    go_wp2
    refine wp_region_aft (by kernel_rfl) (by kernel_rfl) ?_
    repeat (go_big_quiet_step (fail))
    refine wpQuiet_nil ?_
    intro w1 hb1
    go_wp2
    go_ret
    exact ⟨ret_int (by have := HZ.out; unfold arcZ; omega), hb1⟩
set_option maxHeartbeats 1000000 in
theorem arc_c (f t : Int) (s : ByteArray) (hf : 0 ≤ f ∧ f ≤ 359) (ht : 0 ≤ t ∧ t ≤ 359) (w : World) :
    Calls Try.prog 61 #[.agg #[.int .i64 f, .int .i64 t, .string s]] w fun e w' => e = .returned (.int .i64 (arcZ f t)) ∧ Below w.heap.size w w' := by
  go_enter Try.func61, Try.ntmps61
  go_wp2_with (go_at_call 71; refine (modulo_c _ _ (by omega) (by omega) _).mono ?_; rintro e w' ⟨rfl, rfl⟩)
  go_ret
  exact ⟨rfl, (by repeat (first | exact Below.refl _ _ | refine Below.alloc ?_ (by simp; try omega) _ | refine Below.drew ?_))⟩
/-- The number of degrees, 0 for what is no sector. -/
def arcOfZ (f t : Int) : Int := if inR f 0 359 && inR t 0 359 then arcZ f t else 0
theorem both_yes {f t : Int} (h : (inR f 0 359 && inR t 0 359) = true) : (0 ≤ f ∧ f ≤ 359) ∧ (0 ≤ t ∧ t ≤ 359) := by
  simpa [inR] using h
set_option maxHeartbeats 1000000 in
theorem specArcOf_c (f t : Int) (s : ByteArray) (w : World) :
    Calls Try.prog 33 #[.agg #[.int .i64 f, .int .i64 t, .string s]] w fun e w' => e = .returned (.int .i64 (arcOfZ f t)) ∧ Below w.heap.size w w' := by
  cases h : (inR f 0 359 && inR t 0 359)
  · have hr : arcOfZ f t = 0 := by simp [arcOfZ, h]
    rw [hr]
    clear hr
    go_enter Try.func33, Try.ntmps33
    go_wp2_with (go_at_call 59; refine (l08Ends_c _ f t _ h _ (by simp [go_sem]) (by simp [go_sem])).mono ?_; rintro e w' ⟨rfl, rfl⟩)
    go_ret
    exact ⟨rfl, (by repeat (first | exact Below.refl _ _ | refine Below.alloc ?_ (by simp; try omega) _ | refine Below.drew ?_))⟩
  · have hr : arcOfZ f t = arcZ f t := by simp [arcOfZ, h]
    rw [hr]
    clear hr
    obtain ⟨hf, ht⟩ := both_yes h
    go_enter Try.func33, Try.ntmps33
    go_wp2_with (first
      | (go_at_call 59; refine (l08Ends_c _ f t _ h _ (by simp [go_sem]) (by simp [go_sem])).mono ?_; rintro e w' ⟨rfl, rfl⟩)
      | (go_at_call 60; refine (l08Arc_c _ f t hf ht _ (by simp) (by simp [go_sem]) (by simp [go_sem])).mono ?_; rintro e w' ⟨rfl, hb1⟩))
    go_ret
    exact ⟨rfl, below_box (by assumption)⟩
set_option maxHeartbeats 1000000 in
theorem implArcOf_c (f t : Int) (s : ByteArray) (w : World) :
    Calls Try.prog 35 #[.agg #[.int .i64 f, .int .i64 t, .string s]] w fun e w' => e = .returned (.int .i64 (arcOfZ f t)) ∧ Below w.heap.size w w' := by
  cases h1 : inR f 0 359
  · have hr : arcOfZ f t = 0 := by simp [arcOfZ, h1]
    rw [hr]
    clear hr
    go_enter Try.func35, Try.ntmps35
    go_wp2_with (go_at_call 55; refine (isBearing_c _ _).mono ?_; rintro e w' ⟨rfl, rfl⟩)
    go_ret
    exact ⟨rfl, (by repeat (first | exact Below.refl _ _ | refine Below.alloc ?_ (by simp; try omega) _ | refine Below.drew ?_))⟩
  · cases h2 : inR t 0 359
    · have hr : arcOfZ f t = 0 := by simp [arcOfZ, h2]
      rw [hr]
      clear hr
      go_enter Try.func35, Try.ntmps35
      go_wp2_with (go_at_call 55; refine (isBearing_c _ _).mono ?_; rintro e w' ⟨rfl, rfl⟩)
      go_ret
      exact ⟨rfl, (by repeat (first | exact Below.refl _ _ | refine Below.alloc ?_ (by simp; try omega) _ | refine Below.drew ?_))⟩
    · have hr : arcOfZ f t = arcZ f t := by simp [arcOfZ, h1, h2]
      rw [hr]
      clear hr
      obtain ⟨hf, ht⟩ := both_yes (f := f) (t := t) (by rw [h1, h2]; rfl)
      go_enter Try.func35, Try.ntmps35
      go_wp2_with (first
        | (go_at_call 55; refine (isBearing_c _ _).mono ?_; rintro e w' ⟨rfl, rfl⟩)
        | (go_at_call 61; refine (arc_c f t s hf ht _).mono ?_; rintro e w' ⟨rfl, hb1⟩))
      go_ret
      exact ⟨rfl, below_box (by assumption)⟩
set_option maxHeartbeats 1000000 in
theorem toSector_c (f t : Int) (s : ByteArray) (w : World) :
    Calls Try.prog 34 #[.agg #[.int .i64 f, .int .i64 t, .string s]] w fun e w' => e = .returned (.agg #[.int .i64 f, .int .i64 t, .string s]) ∧ Below w.heap.size w w' := by
  go_enter Try.func34, Try.ntmps34
  go_wp2
  refine bodyPost_ret (v := .agg #[.int .i64 f, .int .i64 t, .string s]) (by simp [results, Try.results34, go_sem]) rfl ⟨rfl, (by repeat (first | exact Below.refl _ _ | refine Below.alloc ?_ (by simp; try omega) _ | refine Below.drew ?_))⟩
set_option maxHeartbeats 1000000 in
theorem szSector_c (f t : Int) (s : ByteArray) (hs : s.size ≤ maxLen) (w : World) :
    Calls Try.prog 32 #[.agg #[.int .i64 f, .int .i64 t, .string s], .int .i64 1048576] w fun e w' => e = .returned (.int .i64 (if (s.size : Int) ≤ 1048576 then 1048576 - s.size else -1)) ∧ Below w.heap.size w w' := by
  unfold maxLen at hs
  by_cases h : (s.size : Int) ≤ 1048576
  · rw [if_pos h]
    go_enter Try.func32, Try.ntmps32
    go_wp2
    go_ret
    exact ⟨rfl, (by repeat (first | exact Below.refl _ _ | refine Below.alloc ?_ (by simp; try omega) _ | refine Below.drew ?_))⟩
  · rw [if_neg h]
    go_enter Try.func32, Try.ntmps32
    go_wp2
    go_ret
    exact ⟨rfl, (by repeat (first | exact Below.refl _ _ | refine Below.alloc ?_ (by simp; try omega) _ | refine Below.drew ?_))⟩
set_option maxHeartbeats 1000000 in
theorem fnExactArcOf_walk (f : Int) (_wf : (Lit.int .i64 f).wf = true) (t : Int) (_wt : (Lit.int .i64 t).wf = true) (s : ByteArray) (hs : s.size ≤ maxLen) (w : World) :
    Calls Try.prog 11 #[.agg #[.int .i64 f, .int .i64 t, .string s]] w fun e w' => e = .returned (.bool true) ∧ Below w.heap.size w w' := by
  clear _wf _wt
  have hsz := fun W => szSector_c f t s hs W
  clear hs
  have k0 : ∀ x : Aft (w.alloc (.cells #[.int .i64 f, .int .i64 t, .string s] 37)), x.w1.cell? ⟨w.heap.size, 0, none⟩ = some (.int .i64 f) := fun x => x.new rfl
  have k1 : ∀ x : Aft (w.alloc (.cells #[.int .i64 f, .int .i64 t, .string s] 37)), x.w1.cell? ⟨w.heap.size, 1, none⟩ = some (.int .i64 t) := fun x => x.new rfl
  have k2 : ∀ x : Aft (w.alloc (.cells #[.int .i64 f, .int .i64 t, .string s] 37)), x.w1.cell? ⟨w.heap.size, 2, none⟩ = some (.string s) := fun x => x.new rfl
  by_cases h : (s.size : Int) ≤ 1048576
  · simp only [h, if_true] at hsz
    have h0 : 0 ≤ 1048576 - (s.size : Int) := by omega
    have HS := Lib.hid hsz
    clear hsz h
    go_enter Try.func11, Try.ntmps11
    go_wp2_with fail
    refine (Aft.first (HS.out _)).mono ?_
    rintro e _ ⟨rfl, y1, rfl⟩
    go_wp2_with (first
      | (go_at_call 34; refine (Aft.call (toSector_c f t s _)).mono ?_; rintro e _ ⟨rfl, y, rfl⟩)
      | (go_at_call 33; refine (Aft.call (specArcOf_c f t s _)).mono ?_; rintro e _ ⟨rfl, y, rfl⟩)
      | (go_at_call 35; refine (Aft.call (implArcOf_c f t s _)).mono ?_; rintro e _ ⟨rfl, y, rfl⟩))
    go_ret
    exact ⟨rfl, below_box (Aft.below _)⟩
  · simp only [h, if_false] at hsz
    have HS := Lib.hid hsz
    clear hsz h
    go_enter Try.func11, Try.ntmps11
    go_wp2_with fail
    refine (Aft.first (HS.out _)).mono ?_
    rintro e _ ⟨rfl, y1, rfl⟩
    go_wp2
    go_ret
    exact ⟨rfl, below_box (Aft.below _)⟩
namespace fnExactArcOfDone
open Go.ChangeShapes Go.WideShapes Go.ChangeAt Go.RowKit Go.Joins
open Go.ChangeMaps (open_string shut_string)
set_option maxRecDepth 100000 in
theorem lifted (os : Os) (started : os.Started) (H : Type) (enc : TypeId × Value → H) :
    ReturnsInHanded {} Try.checked os 11 .any (Rows.fnExactArcOfSpec.pre6 enc Try.prog Try.f11 Rows.fnExactArcOfRow.domain false) (Rows.fnExactArcOfSpec.post enc Try.prog Try.f11 false true false false) := by
  refine returnsInHanded_of_change (C := Try.checked) lawOwn started (by kernel_rfl) Try.func11
    (ChangeSpec.witness6 (enc := enc) (C := Try.checked) false ⟨#[], #[.agg #[.int .i64 0, .int .i64 0, .string ByteArray.empty]], []⟩ 8 (by kernel_rfl) (by kernel_rfl) (by kernel_rfl) (by kernel_rfl)) ?_
  intro W base args ds gs before hval0 hW hcnd _
  have hval : ∀ (j : Nat) t v, Try.f11.params[j]? = some t → args[j]? = some v → Value.okWide Try.prog W .any base t v := hval0
  have hW' := hW
  obtain ⟨p, q, hA0, hV, rfl, hfz, hnd⟩ := hW
  have hA : DataW.TrodAll enc Try.prog W 0 (fun _ => true) true Try.f11.params.toList args.toList ds p := hA0
  rw [Try.params11] at hA hval
  obtain ⟨v0, vs0, d0, ds0, p0, q0, hargs, rfl, rfl, h0, r0⟩ := trodAll_cons hA
  obtain ⟨rfl, rfl, rfl⟩ := trodAll_nil r0
  obtain rfl : args = #[v0] := by cases args; simp_all
  obtain ⟨rfl, rfl⟩ := trodVars_none hV
  have k0 := h0
  have lt0 : ∀ x ∈ p0, x.block < W.heap.size := by obtain ⟨m, hm⟩ := k0; exact DataW.trod_lt m _ _ _ hm
  suffices hwalk : Calls Try.prog 11 #[v0] W fun e w' => e = .returned (.bool true) ∧ Below W.heap.size W w' by
    refine hwalk.mono fun e W' ⟨he, bel⟩ => ?_
    subst he
    exact ⟨_, rfl, _, _, _, [], _, [], hW', trodAll_mk1 (shut_bool Try.underlying4 _), (trodAll_cons_mk (Below.trod lawLaid (by kernel_rfl) (of_decide_eq_true (by kernel_rfl)) k0 bel lt0) trodAll_mk0), rfl, bel.frame _, fun h => by cases h⟩
  clear hA0 hval0
  obtain ⟨c0_0, c0_1, c0_2, y0_0, y0_1, y0_2, n0, rfl, hd0, hp0, e0_0, e0_1, e0_2⟩ := open_agg3 Try.underlying37 (by kernel_rfl) (by kernel_rfl) (hval 0 37 v0 rfl rfl) h0
  obtain ⟨a0_0, g0_0, x0_0, w0_0⟩ := DataW.trod_int Try.underlying2 e0_0
  simp only [List.cons.injEq, and_true] at g0_0; subst g0_0
  obtain ⟨a0_1, g0_1, x0_1, w0_1⟩ := DataW.trod_int Try.underlying2 e0_1
  simp only [List.cons.injEq, and_true] at g0_1; subst g0_1
  obtain ⟨a0_2, g0_2, x0_2, w0_2⟩ := DataW.trod_string Try.underlying9 e0_2
  simp only [List.cons.injEq, and_true] at g0_2; subst g0_2
  exact fnExactArcOf_walk (w := W) a0_0 w0_0 a0_1 w0_1 a0_2 w0_2

theorem over : Rows.fnExactArcOfRow.holds Try.pinned (OpenSpec.ofChange Rows.fnExactArcOfSpec) :=
  OpenClaim.holds_of_wide 11 Try.f11 rfl rfl rfl rfl rfl rfl rfl ⟨rfl, rfl, rfl, rfl, rfl⟩ rfl rfl rfl rfl rfl (by kernel_rfl) Try.func11 (by kernel_rfl)
    (of_decide_eq_true (by kernel_rfl)) (by unfold Func.isWrapper; first | (rw [if_pos (by decide +kernel)]; kernel_rfl) | (rw [if_neg (by decide +kernel)]; exact ⟨rfl, rfl⟩))
    (fun os started H enc _ => lifted os started H enc)

theorem proved : Rows.FnExactArcOfSaid := over
#print axioms proved
end fnExactArcOfDone
end Go.Proofs.Ytnbnkabooggoiaa
