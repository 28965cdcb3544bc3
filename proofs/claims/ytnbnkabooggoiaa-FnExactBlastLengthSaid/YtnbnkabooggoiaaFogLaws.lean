/- The program's ValidFog, BlastLength and LeastFogPeriod answer as the reference's, for all arguments. -/
import Derived.Test.YtnbnkabooggoiaaFog
namespace Go.Proofs.Ytnbnkabooggoiaa
open Go.RowKit
set_option linter.unusedVariables false
set_option maxHeartbeats 1000000 in
theorem toFogSignal_c (k b p pw : Int) (w : World) :
    Calls Try.prog 24 #[.agg #[.int .i64 k, .int .i64 b, .int .i64 p, .int .i64 pw]] w fun e w' => e = .returned (.agg #[.int .i64 k, .int .i64 b, .int .i64 p, .int .i64 pw]) ∧ Below w.heap.size w w' := by
  go_enter Try.func24, Try.ntmps24
  go_wp2
  refine bodyPost_ret (v := .agg #[.int .i64 k, .int .i64 b, .int .i64 p, .int .i64 pw]) (by simp [results, Try.results24, go_sem]) rfl ⟨rfl, (by repeat (first | exact Below.refl _ _ | refine Below.alloc ?_ (by simp; try omega) _ | refine Below.drew ?_))⟩
set_option maxHeartbeats 1000000 in
theorem specValidFog_c (k b p pw : Int) (w : World) :
    Calls Try.prog 23 #[.agg #[.int .i64 k, .int .i64 b, .int .i64 p, .int .i64 pw]] w fun e w' => e = .returned (.bool (okFog k b p pw)) ∧ Below w.heap.size w w' := by
  go_enter Try.func23, Try.ntmps23
  go_wp2_with fail
  refine (l10Ok_c _ k b p pw _ (by simp) (by simp [go_sem]) (by simp [go_sem]) (by simp [go_sem]) (by simp [go_sem])).mono ?_
  rintro e w1 ⟨rfl, hb1⟩
  go_wp2
  go_ret
  exact ⟨rfl, below_box hb1⟩
set_option maxHeartbeats 1000000 in
theorem fnExactValidFog_walk (k : Int) (_wk : (Lit.int .i64 k).wf = true) (b : Int) (_wb : (Lit.int .i64 b).wf = true) (p : Int) (_wp : (Lit.int .i64 p).wf = true) (pw : Int) (_wpw : (Lit.int .i64 pw).wf = true) (w : World) :
    Calls Try.prog 7 #[.agg #[.int .i64 k, .int .i64 b, .int .i64 p, .int .i64 pw]] w fun e w' => e = .returned (.bool true) ∧ Below w.heap.size w w' := by
  clear _wk _wb _wp _wpw
  have k0 : ∀ x : Aft (w.alloc (.cells #[.int .i64 k, .int .i64 b, .int .i64 p, .int .i64 pw] 27)), x.w1.cell? ⟨w.heap.size, 0, none⟩ = some (.int .i64 k) := fun x => x.new rfl
  have k1 : ∀ x : Aft (w.alloc (.cells #[.int .i64 k, .int .i64 b, .int .i64 p, .int .i64 pw] 27)), x.w1.cell? ⟨w.heap.size, 1, none⟩ = some (.int .i64 b) := fun x => x.new rfl
  have k2 : ∀ x : Aft (w.alloc (.cells #[.int .i64 k, .int .i64 b, .int .i64 p, .int .i64 pw] 27)), x.w1.cell? ⟨w.heap.size, 2, none⟩ = some (.int .i64 p) := fun x => x.new rfl
  have k3 : ∀ x : Aft (w.alloc (.cells #[.int .i64 k, .int .i64 b, .int .i64 p, .int .i64 pw] 27)), x.w1.cell? ⟨w.heap.size, 3, none⟩ = some (.int .i64 pw) := fun x => x.new rfl
  go_enter Try.func7, Try.ntmps7
  go_wp2_with fail
  refine (Aft.first (toFogSignal_c k b p pw _)).mono ?_
  rintro e _ ⟨rfl, y1, rfl⟩
  go_wp2_with (first
    | (go_at_call 24; refine (Aft.call (toFogSignal_c k b p pw _)).mono ?_; rintro e _ ⟨rfl, y, rfl⟩)
    | (go_at_call 23; refine (Aft.call (specValidFog_c k b p pw _)).mono ?_; rintro e _ ⟨rfl, y, rfl⟩)
    | (go_at_call 25; refine (Aft.call (validFog_c k b p pw _)).mono ?_; rintro e _ ⟨rfl, y, rfl⟩))
  go_ret
  exact ⟨rfl, below_box (Aft.below _)⟩
namespace fnExactValidFogDone
open Go.ChangeShapes Go.WideShapes Go.ChangeAt Go.RowKit Go.Joins
open Go.ChangeMaps (open_string shut_string)
set_option maxRecDepth 100000 in
theorem lifted (os : Os) (started : os.Started) (H : Type) (enc : TypeId × Value → H) :
    ReturnsInHanded {} Try.checked os 7 .any (Rows.fnExactValidFogSpec.pre6 enc Try.prog Try.f7 Rows.fnExactValidFogRow.domain false) (Rows.fnExactValidFogSpec.post enc Try.prog Try.f7 false true false false) := by
  refine returnsInHanded_of_change (C := Try.checked) lawOwn started (by kernel_rfl) Try.func7
    (ChangeSpec.witness6 (enc := enc) (C := Try.checked) false ⟨#[], #[.agg #[.int .i64 0, .int .i64 0, .int .i64 0, .int .i64 0]], []⟩ 8 (by kernel_rfl) (by kernel_rfl) (by kernel_rfl) (by kernel_rfl)) ?_
  intro W base args ds gs before hval0 hW hcnd _
  have hval : ∀ (j : Nat) t v, Try.f7.params[j]? = some t → args[j]? = some v → Value.okWide Try.prog W .any base t v := hval0
  have hW' := hW
  obtain ⟨p, q, hA0, hV, rfl, hfz, hnd⟩ := hW
  have hA : DataW.TrodAll enc Try.prog W 0 (fun _ => true) true Try.f7.params.toList args.toList ds p := hA0
  rw [Try.params7] at hA hval
  obtain ⟨v0, vs0, d0, ds0, p0, q0, hargs, rfl, rfl, h0, r0⟩ := trodAll_cons hA
  obtain ⟨rfl, rfl, rfl⟩ := trodAll_nil r0
  obtain rfl : args = #[v0] := by cases args; simp_all
  obtain ⟨rfl, rfl⟩ := trodVars_none hV
  have k0 := h0
  have lt0 : ∀ x ∈ p0, x.block < W.heap.size := by obtain ⟨m, hm⟩ := k0; exact DataW.trod_lt m _ _ _ hm
  suffices hwalk : Calls Try.prog 7 #[v0] W fun e w' => e = .returned (.bool true) ∧ Below W.heap.size W w' by
    refine hwalk.mono fun e W' ⟨he, bel⟩ => ?_
    subst he
    exact ⟨_, rfl, _, _, _, [], _, [], hW', trodAll_mk1 (shut_bool Try.underlying4 _), (trodAll_cons_mk (Below.trod lawLaid (by kernel_rfl) (of_decide_eq_true (by kernel_rfl)) k0 bel lt0) trodAll_mk0), rfl, bel.frame _, fun h => by cases h⟩
  clear hA0 hval0
  obtain ⟨c0_0, c0_1, c0_2, c0_3, y0_0, y0_1, y0_2, y0_3, n0, rfl, hd0, hp0, e0_0, e0_1, e0_2, e0_3⟩ := open_agg4 Try.underlying27 (by kernel_rfl) (by kernel_rfl) (hval 0 27 v0 rfl rfl) h0
  obtain ⟨a0_0, g0_0, x0_0, w0_0⟩ := DataW.trod_int Try.underlying2 e0_0
  simp only [List.cons.injEq, and_true] at g0_0; subst g0_0
  obtain ⟨a0_1, g0_1, x0_1, w0_1⟩ := DataW.trod_int Try.underlying2 e0_1
  simp only [List.cons.injEq, and_true] at g0_1; subst g0_1
  obtain ⟨a0_2, g0_2, x0_2, w0_2⟩ := DataW.trod_int Try.underlying2 e0_2
  simp only [List.cons.injEq, and_true] at g0_2; subst g0_2
  obtain ⟨a0_3, g0_3, x0_3, w0_3⟩ := DataW.trod_int Try.underlying2 e0_3
  simp only [List.cons.injEq, and_true] at g0_3; subst g0_3
  exact fnExactValidFog_walk (w := W) a0_0 w0_0 a0_1 w0_1 a0_2 w0_2 a0_3 w0_3

theorem over : Rows.fnExactValidFogRow.holds Try.pinned (OpenSpec.ofChange Rows.fnExactValidFogSpec) :=
  OpenClaim.holds_of_wide 7 Try.f7 rfl rfl rfl rfl rfl rfl rfl ⟨rfl, rfl, rfl, rfl, rfl⟩ rfl rfl rfl rfl rfl (by kernel_rfl) Try.func7 (by kernel_rfl)
    (of_decide_eq_true (by kernel_rfl)) (by unfold Func.isWrapper; first | (rw [if_pos (by decide +kernel)]; kernel_rfl) | (rw [if_neg (by decide +kernel)]; exact ⟨rfl, rfl⟩))
    (fun os started H enc _ => lifted os started H enc)

theorem proved : Rows.FnExactValidFogSaid := over
#print axioms proved
end fnExactValidFogDone
theorem blastZ_eq (k : Int) : (blastZ k == 0) = !inR k 1 4 := by
  have h := inR_iff (n := k) (lo := 1) (hi := 4)
  cases hv : inR k 1 4
  · have hn : ¬ (1 ≤ k ∧ k ≤ 4) := fun g => by rw [h.2 g] at hv; cases hv
    have : blastZ k = 0 := by unfold blastZ; omega
    simp [this]
  · have g := h.1 hv
    have : blastZ k ≠ 0 := by unfold blastZ; omega
    simpa using this
set_option maxHeartbeats 1000000 in
theorem specBlastLength_no (a : Int) (h : inR a 1 4 = false) (w : World) :
    Calls Try.prog 21 #[.int .i64 a] w fun e w' => e = .returned (.tuple #[.int .i64 0, .int .i64 2]) ∧ Below w.heap.size w w' := by
  go_enter Try.func21, Try.ntmps21
  go_wp2_with (go_at_call 44; refine (l10Kind_c _ _).mono ?_; rintro e w' ⟨rfl, rfl⟩)
  go_ret2
  exact ⟨rfl, (by repeat (first | exact Below.refl _ _ | refine Below.alloc ?_ (by simp; try omega) _ | refine Below.drew ?_))⟩
set_option maxHeartbeats 1000000 in
theorem specBlastLength_yes (a : Int) (h : inR a 1 4 = true) (w : World) :
    Calls Try.prog 21 #[.int .i64 a] w fun e w' => e = .returned (.tuple #[.int .i64 (blastZ a), .int .i64 0]) ∧ Below w.heap.size w w' := by
  have hk := inR_iff.1 h
  go_enter Try.func21, Try.ntmps21
  go_wp2_with (first
    | (go_at_call 44; refine (l10Kind_c _ _).mono ?_; rintro e w' ⟨rfl, rfl⟩)
    | (go_at_call 47; refine (l10Length_c _ hk _).mono ?_; rintro e w' ⟨rfl, hb1⟩))
  go_ret2
  exact ⟨rfl, by assumption⟩
set_option maxHeartbeats 1000000 in
theorem implBlastLength_no (a : Int) (h : inR a 1 4 = false) (w : World) :
    Calls Try.prog 22 #[.int .i64 a] w fun e w' => e = .returned (.tuple #[.int .i64 0, .int .i64 2]) ∧ w = w' := by
  have hz : (blastZ a == 0) = true := by rw [blastZ_eq, h]; rfl
  go_enter Try.func22, Try.ntmps22
  go_wp2_with (go_at_call 48; refine (blast_c _ _).mono ?_; rintro e w' ⟨rfl, rfl⟩)
  go_ret2
  exact ⟨rfl, rfl⟩
set_option maxHeartbeats 1000000 in
theorem implBlastLength_yes (a : Int) (h : inR a 1 4 = true) (w : World) :
    Calls Try.prog 22 #[.int .i64 a] w fun e w' => e = .returned (.tuple #[.int .i64 (blastZ a), .int .i64 0]) ∧ w = w' := by
  have hz : (blastZ a == 0) = false := by rw [blastZ_eq, h]; rfl
  go_enter Try.func22, Try.ntmps22
  go_wp2_with (go_at_call 48; refine (blast_c _ _).mono ?_; rintro e w' ⟨rfl, rfl⟩)
  go_ret2
  exact ⟨rfl, rfl⟩
set_option maxHeartbeats 1000000 in
theorem fnExactBlastLength_walk (a : Int) (_wf : (Lit.int .i64 a).wf = true) (w : World) :
    Calls Try.prog 6 #[.int .i64 a] w fun e w' => e = .returned (.bool true) ∧ Below w.heap.size w w' := by
  clear _wf
  cases h : inR a 1 4
  · have H := Lib.hid h
    clear h
    go_enter Try.func6, Try.ntmps6
    go_wp2_with (first
      | (go_at_call 21; refine (specBlastLength_no _ H.out _).mono ?_; rintro e w' ⟨rfl, hb1⟩)
      | (go_at_call 22; refine (implBlastLength_no _ H.out _).mono ?_; rintro e w' ⟨rfl, rfl⟩))
    go_ret
    exact ⟨rfl, by assumption⟩
  · have H := Lib.hid h
    clear h
    go_enter Try.func6, Try.ntmps6
    go_wp2_with (first
      | (go_at_call 21; refine (specBlastLength_yes _ H.out _).mono ?_; rintro e w' ⟨rfl, hb1⟩)
      | (go_at_call 22; refine (implBlastLength_yes _ H.out _).mono ?_; rintro e w' ⟨rfl, rfl⟩))
    go_ret
    exact ⟨rfl, by assumption⟩
namespace fnExactBlastLengthDone
open Go.ChangeShapes Go.WideShapes Go.ChangeAt Go.RowKit Go.Joins
open Go.ChangeMaps (open_string shut_string)
set_option maxRecDepth 100000 in
theorem lifted (os : Os) (started : os.Started) (H : Type) (enc : TypeId × Value → H) :
    ReturnsInHanded {} Try.checked os 6 .any (Rows.fnExactBlastLengthSpec.pre6 enc Try.prog Try.f6 Rows.fnExactBlastLengthRow.domain false) (Rows.fnExactBlastLengthSpec.post enc Try.prog Try.f6 false true false false) := by
  refine returnsInHanded_of_change (C := Try.checked) lawOwn started (by kernel_rfl) Try.func6
    (ChangeSpec.witness6 (enc := enc) (C := Try.checked) false ⟨#[], #[.int .i64 0], []⟩ 8 (by kernel_rfl) (by kernel_rfl) (by kernel_rfl) (by kernel_rfl)) ?_
  intro W base args ds gs before hval0 hW hcnd _
  have hval : ∀ (j : Nat) t v, Try.f6.params[j]? = some t → args[j]? = some v → Value.okWide Try.prog W .any base t v := hval0
  have hW' := hW
  obtain ⟨p, q, hA0, hV, rfl, hfz, hnd⟩ := hW
  have hA : DataW.TrodAll enc Try.prog W 0 (fun _ => true) true Try.f6.params.toList args.toList ds p := hA0
  rw [Try.params6] at hA hval
  obtain ⟨v0, vs0, d0, ds0, p0, q0, hargs, rfl, rfl, h0, r0⟩ := trodAll_cons hA
  obtain ⟨rfl, rfl, rfl⟩ := trodAll_nil r0
  obtain rfl : args = #[v0] := by cases args; simp_all
  obtain ⟨rfl, rfl⟩ := trodVars_none hV
  have k0 := h0
  have lt0 : ∀ x ∈ p0, x.block < W.heap.size := by obtain ⟨m, hm⟩ := k0; exact DataW.trod_lt m _ _ _ hm
  suffices hwalk : Calls Try.prog 6 #[v0] W fun e w' => e = .returned (.bool true) ∧ Below W.heap.size W w' by
    refine hwalk.mono fun e W' ⟨he, bel⟩ => ?_
    subst he
    exact ⟨_, rfl, _, _, _, [], _, [], hW', trodAll_mk1 (shut_bool Try.underlying4 _), (trodAll_cons_mk (Below.trod lawLaid (by kernel_rfl) (of_decide_eq_true (by kernel_rfl)) k0 bel lt0) trodAll_mk0), rfl, bel.frame _, fun h => by cases h⟩
  clear hA0 hval0
  obtain ⟨a0, rfl, rfl, rfl, w0⟩ := open_int Try.underlying2 (hval 0 2 v0 rfl rfl) h0
  exact fnExactBlastLength_walk (w := W) a0 w0

theorem over : Rows.fnExactBlastLengthRow.holds Try.pinned (OpenSpec.ofChange Rows.fnExactBlastLengthSpec) :=
  OpenClaim.holds_of_wide 6 Try.f6 rfl rfl rfl rfl rfl rfl rfl ⟨rfl, rfl, rfl, rfl, rfl⟩ rfl rfl rfl rfl rfl (by kernel_rfl) Try.func6 (by kernel_rfl)
    (of_decide_eq_true (by kernel_rfl)) (by unfold Func.isWrapper; first | (rw [if_pos (by decide +kernel)]; kernel_rfl) | (rw [if_neg (by decide +kernel)]; exact ⟨rfl, rfl⟩))
    (fun os started H enc _ => lifted os started H enc)

theorem proved : Rows.FnExactBlastLengthSaid := over
#print axioms proved
end fnExactBlastLengthDone
set_option maxHeartbeats 1000000 in
theorem specLeastFogPeriod_c (k b p pw : Int) (w : World) :
    Calls Try.prog 28 #[.agg #[.int .i64 k, .int .i64 b, .int .i64 p, .int .i64 pw]] w fun e w' => e = .returned (if shapeFog k b = true then .tuple #[.int .i64 (2 * b * blastZ k), .int .i64 0] else .tuple #[.int .i64 0, .int .i64 2]) ∧ Below w.heap.size w w' := by
  cases h : shapeFog k b
  · rw [if_neg (by simp)]
    go_enter Try.func28, Try.ntmps28
    go_wp2_with (go_at_call 56; refine (l10Shape_c _ k b _ h _ (by simp [go_sem]) (by simp [go_sem])).mono ?_; rintro e w' ⟨rfl, rfl⟩)
    go_ret2
    exact ⟨rfl, (by repeat (first | exact Below.refl _ _ | refine Below.alloc ?_ (by simp; try omega) _ | refine Below.drew ?_))⟩
  · rw [if_pos rfl]
    obtain ⟨hk, hb⟩ := shapeFog_yes h
    go_enter Try.func28, Try.ntmps28
    go_wp2_with (first
      | (go_at_call 56; refine (l10Shape_c _ k b _ h _ (by simp [go_sem]) (by simp [go_sem])).mono ?_; rintro e w' ⟨rfl, rfl⟩)
      | (go_at_call 57; refine (l10Least_c _ k b hk hb _ (by simp) (by simp [go_sem]) (by simp [go_sem])).mono ?_; rintro e w' ⟨rfl, hb1⟩))
    go_ret2
    exact ⟨rfl, below_box (by assumption)⟩
set_option maxHeartbeats 1000000 in
theorem implLeastFogPeriod_c (k b p pw : Int) (w : World) :
    Calls Try.prog 29 #[.agg #[.int .i64 k, .int .i64 b, .int .i64 p, .int .i64 pw]] w fun e w' => e = .returned (if shapeFog k b = true then .tuple #[.int .i64 (2 * b * blastZ k), .int .i64 0] else .tuple #[.int .i64 0, .int .i64 2]) ∧ Below w.heap.size w w' := by
  have k0 : ∀ x : Aft (w.alloc (.cells #[.int .i64 k, .int .i64 b, .int .i64 p, .int .i64 pw] 29)), x.w1.cell? ⟨w.heap.size, 0, none⟩ = some (.int .i64 k) := fun x => x.new rfl
  have k1 : ∀ x : Aft (w.alloc (.cells #[.int .i64 k, .int .i64 b, .int .i64 p, .int .i64 pw] 29)), x.w1.cell? ⟨w.heap.size, 1, none⟩ = some (.int .i64 b) := fun x => x.new rfl
  have k2 : ∀ x : Aft (w.alloc (.cells #[.int .i64 k, .int .i64 b, .int .i64 p, .int .i64 pw] 29)), x.w1.cell? ⟨w.heap.size, 2, none⟩ = some (.int .i64 p) := fun x => x.new rfl
  have k3 : ∀ x : Aft (w.alloc (.cells #[.int .i64 k, .int .i64 b, .int .i64 p, .int .i64 pw] 29)), x.w1.cell? ⟨w.heap.size, 3, none⟩ = some (.int .i64 pw) := fun x => x.new rfl
  cases h : shapeFog k b
  · rw [if_neg (by simp)]
    go_enter Try.func29, Try.ntmps29
    go_wp2_with (go_at_call 50; refine (Aft.first (isBlown_c k b p pw _ h _)).mono ?_; rintro e _ ⟨rfl, y, rfl⟩)
    go_ret2
    exact ⟨rfl, below_box (Aft.below _)⟩
  · rw [if_pos rfl]
    obtain ⟨hk, hb⟩ := shapeFog_yes h
    go_enter Try.func29, Try.ntmps29
    go_wp2_with (first
      | (go_at_call 50; refine (Aft.first (isBlown_c k b p pw _ h _)).mono ?_; rintro e _ ⟨rfl, y, rfl⟩)
      | (go_at_call 52; refine (Aft.call (leastPeriod_c k b p pw hk hb _)).mono ?_; rintro e _ ⟨rfl, y, rfl⟩))
    go_ret2
    exact ⟨rfl, below_box (Aft.below _)⟩
set_option maxHeartbeats 1000000 in
theorem fnExactLeastFogPeriod_walk (k : Int) (_wk : (Lit.int .i64 k).wf = true) (b : Int) (_wb : (Lit.int .i64 b).wf = true) (p : Int) (_wp : (Lit.int .i64 p).wf = true) (pw : Int) (_wpw : (Lit.int .i64 pw).wf = true) (w : World) :
    Calls Try.prog 9 #[.agg #[.int .i64 k, .int .i64 b, .int .i64 p, .int .i64 pw]] w fun e w' => e = .returned (.bool true) ∧ Below w.heap.size w w' := by
  clear _wk _wb _wp _wpw
  have k0 : ∀ x : Aft (w.alloc (.cells #[.int .i64 k, .int .i64 b, .int .i64 p, .int .i64 pw] 27)), x.w1.cell? ⟨w.heap.size, 0, none⟩ = some (.int .i64 k) := fun x => x.new rfl
  have k1 : ∀ x : Aft (w.alloc (.cells #[.int .i64 k, .int .i64 b, .int .i64 p, .int .i64 pw] 27)), x.w1.cell? ⟨w.heap.size, 1, none⟩ = some (.int .i64 b) := fun x => x.new rfl
  have k2 : ∀ x : Aft (w.alloc (.cells #[.int .i64 k, .int .i64 b, .int .i64 p, .int .i64 pw] 27)), x.w1.cell? ⟨w.heap.size, 2, none⟩ = some (.int .i64 p) := fun x => x.new rfl
  have k3 : ∀ x : Aft (w.alloc (.cells #[.int .i64 k, .int .i64 b, .int .i64 p, .int .i64 pw] 27)), x.w1.cell? ⟨w.heap.size, 3, none⟩ = some (.int .i64 pw) := fun x => x.new rfl
  have c1 := fun W => specLeastFogPeriod_c k b p pw W
  have c2 := fun W => implLeastFogPeriod_c k b p pw W
  cases h : shapeFog k b
  all_goals
    simp only [h, Bool.false_eq_true, if_true, if_false] at c1 c2
    have C1 := Lib.hid c1
    have C2 := Lib.hid c2
    clear c1 c2 h
    go_enter Try.func9, Try.ntmps9
    go_wp2_with fail
    refine (Aft.first (toFogSignal_c k b p pw _)).mono ?_
    rintro e _ ⟨rfl, y1, rfl⟩
    go_wp2_with (first
      | (go_at_call 24; refine (Aft.call (toFogSignal_c k b p pw _)).mono ?_; rintro e _ ⟨rfl, y, rfl⟩)
      | (go_at_call 28; refine (Aft.call (C1.out _)).mono ?_; rintro e _ ⟨rfl, y, rfl⟩)
      | (go_at_call 29; refine (Aft.call (C2.out _)).mono ?_; rintro e _ ⟨rfl, y, rfl⟩))
    go_ret
    exact ⟨rfl, below_box (Aft.below _)⟩
namespace fnExactLeastFogPeriodDone
open Go.ChangeShapes Go.WideShapes Go.ChangeAt Go.RowKit Go.Joins
open Go.ChangeMaps (open_string shut_string)
set_option maxRecDepth 100000 in
theorem lifted (os : Os) (started : os.Started) (H : Type) (enc : TypeId × Value → H) :
    ReturnsInHanded {} Try.checked os 9 .any (Rows.fnExactLeastFogPeriodSpec.pre6 enc Try.prog Try.f9 Rows.fnExactLeastFogPeriodRow.domain false) (Rows.fnExactLeastFogPeriodSpec.post enc Try.prog Try.f9 false true false false) := by
  refine returnsInHanded_of_change (C := Try.checked) lawOwn started (by kernel_rfl) Try.func9
    (ChangeSpec.witness6 (enc := enc) (C := Try.checked) false ⟨#[], #[.agg #[.int .i64 0, .int .i64 0, .int .i64 0, .int .i64 0]], []⟩ 8 (by kernel_rfl) (by kernel_rfl) (by kernel_rfl) (by kernel_rfl)) ?_
  intro W base args ds gs before hval0 hW hcnd _
  have hval : ∀ (j : Nat) t v, Try.f9.params[j]? = some t → args[j]? = some v → Value.okWide Try.prog W .any base t v := hval0
  have hW' := hW
  obtain ⟨p, q, hA0, hV, rfl, hfz, hnd⟩ := hW
  have hA : DataW.TrodAll enc Try.prog W 0 (fun _ => true) true Try.f9.params.toList args.toList ds p := hA0
  rw [Try.params9] at hA hval
  obtain ⟨v0, vs0, d0, ds0, p0, q0, hargs, rfl, rfl, h0, r0⟩ := trodAll_cons hA
  obtain ⟨rfl, rfl, rfl⟩ := trodAll_nil r0
  obtain rfl : args = #[v0] := by cases args; simp_all
  obtain ⟨rfl, rfl⟩ := trodVars_none hV
  have k0 := h0
  have lt0 : ∀ x ∈ p0, x.block < W.heap.size := by obtain ⟨m, hm⟩ := k0; exact DataW.trod_lt m _ _ _ hm
  suffices hwalk : Calls Try.prog 9 #[v0] W fun e w' => e = .returned (.bool true) ∧ Below W.heap.size W w' by
    refine hwalk.mono fun e W' ⟨he, bel⟩ => ?_
    subst he
    exact ⟨_, rfl, _, _, _, [], _, [], hW', trodAll_mk1 (shut_bool Try.underlying4 _), (trodAll_cons_mk (Below.trod lawLaid (by kernel_rfl) (of_decide_eq_true (by kernel_rfl)) k0 bel lt0) trodAll_mk0), rfl, bel.frame _, fun h => by cases h⟩
  clear hA0 hval0
  obtain ⟨c0_0, c0_1, c0_2, c0_3, y0_0, y0_1, y0_2, y0_3, n0, rfl, hd0, hp0, e0_0, e0_1, e0_2, e0_3⟩ := open_agg4 Try.underlying27 (by kernel_rfl) (by kernel_rfl) (hval 0 27 v0 rfl rfl) h0
  obtain ⟨a0_0, g0_0, x0_0, w0_0⟩ := DataW.trod_int Try.underlying2 e0_0
  simp only [List.cons.injEq, and_true] at g0_0; subst g0_0
  obtain ⟨a0_1, g0_1, x0_1, w0_1⟩ := DataW.trod_int Try.underlying2 e0_1
  simp only [List.cons.injEq, and_true] at g0_1; subst g0_1
  obtain ⟨a0_2, g0_2, x0_2, w0_2⟩ := DataW.trod_int Try.underlying2 e0_2
  simp only [List.cons.injEq, and_true] at g0_2; subst g0_2
  obtain ⟨a0_3, g0_3, x0_3, w0_3⟩ := DataW.trod_int Try.underlying2 e0_3
  simp only [List.cons.injEq, and_true] at g0_3; subst g0_3
  exact fnExactLeastFogPeriod_walk (w := W) a0_0 w0_0 a0_1 w0_1 a0_2 w0_2 a0_3 w0_3

theorem over : Rows.fnExactLeastFogPeriodRow.holds Try.pinned (OpenSpec.ofChange Rows.fnExactLeastFogPeriodSpec) :=
  OpenClaim.holds_of_wide 9 Try.f9 rfl rfl rfl rfl rfl rfl rfl ⟨rfl, rfl, rfl, rfl, rfl⟩ rfl rfl rfl rfl rfl (by kernel_rfl) Try.func9 (by kernel_rfl)
    (of_decide_eq_true (by kernel_rfl)) (by unfold Func.isWrapper; first | (rw [if_pos (by decide +kernel)]; kernel_rfl) | (rw [if_neg (by decide +kernel)]; exact ⟨rfl, rfl⟩))
    (fun os started H enc _ => lifted os started H enc)

theorem proved : Rows.FnExactLeastFogPeriodSaid := over
#print axioms proved
end fnExactLeastFogPeriodDone
end Go.Proofs.Ytnbnkabooggoiaa
