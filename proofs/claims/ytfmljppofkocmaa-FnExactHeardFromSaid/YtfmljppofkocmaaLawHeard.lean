/- The program's HeardFrom answers as the reference's, for all arguments. -/
import Derived.Test.YtfmljppofkocmaaHeardImpl
import Derived.Test.YtfmljppofkocmaaFogLaws
namespace Go.Proofs.Ytfmljppofkocmaa
open Go.RowKit
set_option linter.unusedVariables false
/-- What both answer. -/
theorem heard_same (k b p pw a c x y v : Int) : ∃ r n, (∀ W, Calls Try.prog 48 #[.agg #[.int .i64 k, .int .i64 b, .int .i64 p, .int .i64 pw], .agg #[.int .i64 a, .int .i64 c], .agg #[.int .i64 x, .int .i64 y], .int .i64 v] W fun e w' => e = .returned (.tuple #[.bool r, .int .i64 n]) ∧ Below W.heap.size W w') ∧ (∀ W, Calls Try.prog 50 #[.agg #[.int .i64 k, .int .i64 b, .int .i64 p, .int .i64 pw], .agg #[.int .i64 a, .int .i64 c], .agg #[.int .i64 x, .int .i64 y], .int .i64 v] W fun e w' => e = .returned (.tuple #[.bool r, .int .i64 n]) ∧ Below W.heap.size W w') := by
  cases h : (okFog k b p pw && (okP a c && okP x y))
  · exact ⟨_, _, fun W => specHeard_no k b p pw a c x y v h W, fun W => implHeard_no k b p pw a c x y v h W⟩
  · simp only [Bool.and_eq_true] at h
    obtain ⟨h1, h2, h3⟩ := h
    cases h4 : inR v (-3) 3
    · exact ⟨_, _, fun W => specHeard_wind k b p pw a c x y v h1 h2 h3 h4 W, fun W => implHeard_wind k b p pw a c x y v h1 h2 h3 h4 W⟩
    · exact ⟨_, _, fun W => specHeard_yes k b p pw a c x y v h1 h2 h3 h4 W, fun W => implHeard_yes k b p pw a c x y v h1 h2 h3 h4 W⟩
set_option maxHeartbeats 1000000 in
theorem toPoint_c (x y : Int) (w : World) :
    Calls Try.prog 49 #[.agg #[.int .i64 x, .int .i64 y]] w fun e w' => e = .returned (.agg #[.int .i64 x, .int .i64 y]) ∧ Below w.heap.size w w' := by
  go_enter Try.func49, Try.ntmps49
  go_wp2
  refine bodyPost_ret (v := .agg #[.int .i64 x, .int .i64 y]) (by simp [results, Try.results49, go_sem]) rfl ⟨rfl, (by repeat (first | exact Below.refl _ _ | refine Below.alloc ?_ (by simp; try omega) _ | refine Below.drew ?_))⟩
set_option maxHeartbeats 4000000 in
theorem fnExactHeardFrom_walk (k : Int) (_wk : (Lit.int .i64 k).wf = true) (b : Int) (_wb : (Lit.int .i64 b).wf = true) (p : Int) (_wp : (Lit.int .i64 p).wf = true) (pw : Int) (_wpw : (Lit.int .i64 pw).wf = true) (a : Int) (_wa : (Lit.int .i64 a).wf = true) (c : Int) (_wc : (Lit.int .i64 c).wf = true) (x : Int) (_wx : (Lit.int .i64 x).wf = true) (y : Int) (_wy : (Lit.int .i64 y).wf = true) (v : Int) (_wv : (Lit.int .i64 v).wf = true) (w : World) :
    Calls Try.prog 12 #[.agg #[.int .i64 k, .int .i64 b, .int .i64 p, .int .i64 pw], .agg #[.int .i64 a, .int .i64 c], .agg #[.int .i64 x, .int .i64 y], .int .i64 v] w fun e w' => e = .returned (.bool true) ∧ Below w.heap.size w w' := by
  clear _wk _wb _wp _wpw _wa _wc _wx _wy _wv
  obtain ⟨r, n, HS, HI⟩ := heard_same k b p pw a c x y v
  have HS := Lib.hid HS
  have HI := Lib.hid HI
  have k0 : ∀ z : Aft (((w.alloc (.cells #[.int .i64 k, .int .i64 b, .int .i64 p, .int .i64 pw] 51)).alloc (.cells #[.int .i64 a, .int .i64 c] 70)).alloc (.cells #[.int .i64 x, .int .i64 y] 70)), z.w1.cell? ⟨w.heap.size, 0, none⟩ = some (.int .i64 k) := fun z => z.cell (by simp; try omega) (by simp [go_sem])
  have k1 : ∀ z : Aft (((w.alloc (.cells #[.int .i64 k, .int .i64 b, .int .i64 p, .int .i64 pw] 51)).alloc (.cells #[.int .i64 a, .int .i64 c] 70)).alloc (.cells #[.int .i64 x, .int .i64 y] 70)), z.w1.cell? ⟨w.heap.size, 1, none⟩ = some (.int .i64 b) := fun z => z.cell (by simp; try omega) (by simp [go_sem])
  have k2 : ∀ z : Aft (((w.alloc (.cells #[.int .i64 k, .int .i64 b, .int .i64 p, .int .i64 pw] 51)).alloc (.cells #[.int .i64 a, .int .i64 c] 70)).alloc (.cells #[.int .i64 x, .int .i64 y] 70)), z.w1.cell? ⟨w.heap.size, 2, none⟩ = some (.int .i64 p) := fun z => z.cell (by simp; try omega) (by simp [go_sem])
  have k3 : ∀ z : Aft (((w.alloc (.cells #[.int .i64 k, .int .i64 b, .int .i64 p, .int .i64 pw] 51)).alloc (.cells #[.int .i64 a, .int .i64 c] 70)).alloc (.cells #[.int .i64 x, .int .i64 y] 70)), z.w1.cell? ⟨w.heap.size, 3, none⟩ = some (.int .i64 pw) := fun z => z.cell (by simp; try omega) (by simp [go_sem])
  have k4 : ∀ z : Aft (((w.alloc (.cells #[.int .i64 k, .int .i64 b, .int .i64 p, .int .i64 pw] 51)).alloc (.cells #[.int .i64 a, .int .i64 c] 70)).alloc (.cells #[.int .i64 x, .int .i64 y] 70)), z.w1.cell? ⟨w.heap.size + 1, 0, none⟩ = some (.int .i64 a) := fun z => z.cell (by simp; try omega) (by simp [go_sem])
  have k5 : ∀ z : Aft (((w.alloc (.cells #[.int .i64 k, .int .i64 b, .int .i64 p, .int .i64 pw] 51)).alloc (.cells #[.int .i64 a, .int .i64 c] 70)).alloc (.cells #[.int .i64 x, .int .i64 y] 70)), z.w1.cell? ⟨w.heap.size + 1, 1, none⟩ = some (.int .i64 c) := fun z => z.cell (by simp; try omega) (by simp [go_sem])
  have k6 : ∀ z : Aft (((w.alloc (.cells #[.int .i64 k, .int .i64 b, .int .i64 p, .int .i64 pw] 51)).alloc (.cells #[.int .i64 a, .int .i64 c] 70)).alloc (.cells #[.int .i64 x, .int .i64 y] 70)), z.w1.cell? ⟨w.heap.size + 1 + 1, 0, none⟩ = some (.int .i64 x) := fun z => z.cell (by simp; try omega) (by simp [go_sem])
  have k7 : ∀ z : Aft (((w.alloc (.cells #[.int .i64 k, .int .i64 b, .int .i64 p, .int .i64 pw] 51)).alloc (.cells #[.int .i64 a, .int .i64 c] 70)).alloc (.cells #[.int .i64 x, .int .i64 y] 70)), z.w1.cell? ⟨w.heap.size + 1 + 1, 1, none⟩ = some (.int .i64 y) := fun z => z.cell (by simp; try omega) (by simp [go_sem])
  go_enter Try.func12, Try.ntmps12
  go_wp2
  refine wp_region_aft (by kernel_rfl) (by kernel_rfl) ?_
  repeat (go_big_quiet_step (first
    | (go_at_call 37; exact Aft.call (toFogSignal_c k b p pw _))
    | (go_at_call 49; exact Aft.call (toPoint_c _ _ _))
    | (go_at_call 48; exact Aft.call (HS.out _))))
  refine wpQuiet_nil ?_
  intro w1 hb1
  obtain ⟨z, rfl⟩ : ∃ z : Aft _, w1 = z.w1 := ⟨⟨w1, hb1⟩, rfl⟩
  go_wp2
  refine wp_region_aftx _ (by kernel_rfl) (by kernel_rfl) ?_
  repeat (go_big_quiet_step (first
    | (go_at_call 37; exact Aft.call (toFogSignal_c k b p pw _))
    | (go_at_call 49; exact Aft.call (toPoint_c _ _ _))
    | (go_at_call 50; exact Aft.call (HI.out _))))
  refine wpQuiet_nil ?_
  intro z1
  go_wp2
  go_ret
  exact ⟨rfl, below_box (below_box (below_box (Aft.below _)))⟩
namespace fnExactHeardFromDone
open Go.ChangeShapes Go.WideShapes Go.ChangeAt Go.RowKit Go.Joins
open Go.ChangeMaps (open_string shut_string)
set_option maxRecDepth 100000 in
theorem lifted (os : Os) (started : os.Started) (H : Type) (enc : TypeId × Value → H) :
    ReturnsInHanded {} Try.checked os 12 .any (Rows.fnExactHeardFromSpec.pre6 enc Try.prog Try.f12 Rows.fnExactHeardFromRow.domain false) (Rows.fnExactHeardFromSpec.post enc Try.prog Try.f12 false true false false) := by
  refine returnsInHanded_of_change (C := Try.checked) lawOwn started (by kernel_rfl) Try.func12
    (ChangeSpec.witness6 (enc := enc) (C := Try.checked) false ⟨#[], #[.agg #[.int .i64 0, .int .i64 0, .int .i64 0, .int .i64 0], .agg #[.int .i64 0, .int .i64 0], .agg #[.int .i64 0, .int .i64 0], .int .i64 0], []⟩ 8 (by kernel_rfl) (by kernel_rfl) (by kernel_rfl) (by kernel_rfl)) ?_
  intro W base args ds gs before hval0 hW hcnd _
  have hval : ∀ (j : Nat) t v, Try.f12.params[j]? = some t → args[j]? = some v → Value.okWide Try.prog W .any base t v := hval0
  have hW' := hW
  obtain ⟨p, q, hA0, hV, rfl, hfz, hnd⟩ := hW
  have hA : DataW.TrodAll enc Try.prog W 0 (fun _ => true) true Try.f12.params.toList args.toList ds p := hA0
  rw [Try.params12] at hA hval
  obtain ⟨v0, vs0, d0, ds0, p0, q0, hargs, rfl, rfl, h0, r0⟩ := trodAll_cons hA
  obtain ⟨v1, vs1, d1, ds1, p1, q1, rfl, rfl, rfl, h1, r1⟩ := trodAll_cons r0
  obtain ⟨v2, vs2, d2, ds2, p2, q2, rfl, rfl, rfl, h2, r2⟩ := trodAll_cons r1
  obtain ⟨v3, vs3, d3, ds3, p3, q3, rfl, rfl, rfl, h3, r3⟩ := trodAll_cons r2
  obtain ⟨rfl, rfl, rfl⟩ := trodAll_nil r3
  obtain rfl : args = #[v0, v1, v2, v3] := by cases args; simp_all
  obtain ⟨rfl, rfl⟩ := trodVars_none hV
  have k0 := h0
  have lt0 : ∀ x ∈ p0, x.block < W.heap.size := by obtain ⟨m, hm⟩ := k0; exact DataW.trod_lt m _ _ _ hm
  have k1 := h1
  have lt1 : ∀ x ∈ p1, x.block < W.heap.size := by obtain ⟨m, hm⟩ := k1; exact DataW.trod_lt m _ _ _ hm
  have k2 := h2
  have lt2 : ∀ x ∈ p2, x.block < W.heap.size := by obtain ⟨m, hm⟩ := k2; exact DataW.trod_lt m _ _ _ hm
  have k3 := h3
  have lt3 : ∀ x ∈ p3, x.block < W.heap.size := by obtain ⟨m, hm⟩ := k3; exact DataW.trod_lt m _ _ _ hm
  suffices hwalk : Calls Try.prog 12 #[v0, v1, v2, v3] W fun e w' => e = .returned (.bool true) ∧ Below W.heap.size W w' by
    refine hwalk.mono fun e W' ⟨he, bel⟩ => ?_
    subst he
    exact ⟨_, rfl, _, _, _, [], _, [], hW', trodAll_mk1 (shut_bool Try.underlying4 _), (trodAll_cons_mk (Below.trod lawLaid (by kernel_rfl) (of_decide_eq_true (by kernel_rfl)) k0 bel lt0) (trodAll_cons_mk (Below.trod lawLaid (by kernel_rfl) (of_decide_eq_true (by kernel_rfl)) k1 bel lt1) (trodAll_cons_mk (Below.trod lawLaid (by kernel_rfl) (of_decide_eq_true (by kernel_rfl)) k2 bel lt2) (trodAll_cons_mk (Below.trod lawLaid (by kernel_rfl) (of_decide_eq_true (by kernel_rfl)) k3 bel lt3) trodAll_mk0)))), rfl, bel.frame _, fun h => by cases h⟩
  clear hA0 hval0
  obtain ⟨c0_0, c0_1, c0_2, c0_3, y0_0, y0_1, y0_2, y0_3, n0, rfl, hd0, hp0, e0_0, e0_1, e0_2, e0_3⟩ := open_agg4 Try.underlying51 (by kernel_rfl) (by kernel_rfl) (hval 0 51 v0 rfl rfl) h0
  obtain ⟨a0_0, g0_0, x0_0, w0_0⟩ := DataW.trod_int Try.underlying2 e0_0
  simp only [List.cons.injEq, and_true] at g0_0; subst g0_0
  obtain ⟨a0_1, g0_1, x0_1, w0_1⟩ := DataW.trod_int Try.underlying2 e0_1
  simp only [List.cons.injEq, and_true] at g0_1; subst g0_1
  obtain ⟨a0_2, g0_2, x0_2, w0_2⟩ := DataW.trod_int Try.underlying2 e0_2
  simp only [List.cons.injEq, and_true] at g0_2; subst g0_2
  obtain ⟨a0_3, g0_3, x0_3, w0_3⟩ := DataW.trod_int Try.underlying2 e0_3
  simp only [List.cons.injEq, and_true] at g0_3; subst g0_3
  obtain ⟨c1_0, c1_1, y1_0, y1_1, n1, rfl, hd1, hp1, e1_0, e1_1⟩ := open_agg2 Try.underlying70 (by kernel_rfl) (by kernel_rfl) (hval 1 70 v1 rfl rfl) h1
  obtain ⟨a1_0, g1_0, x1_0, w1_0⟩ := DataW.trod_int Try.underlying2 e1_0
  simp only [List.cons.injEq, and_true] at g1_0; subst g1_0
  obtain ⟨a1_1, g1_1, x1_1, w1_1⟩ := DataW.trod_int Try.underlying2 e1_1
  simp only [List.cons.injEq, and_true] at g1_1; subst g1_1
  obtain ⟨c2_0, c2_1, y2_0, y2_1, n2, rfl, hd2, hp2, e2_0, e2_1⟩ := open_agg2 Try.underlying70 (by kernel_rfl) (by kernel_rfl) (hval 2 70 v2 rfl rfl) h2
  obtain ⟨a2_0, g2_0, x2_0, w2_0⟩ := DataW.trod_int Try.underlying2 e2_0
  simp only [List.cons.injEq, and_true] at g2_0; subst g2_0
  obtain ⟨a2_1, g2_1, x2_1, w2_1⟩ := DataW.trod_int Try.underlying2 e2_1
  simp only [List.cons.injEq, and_true] at g2_1; subst g2_1
  obtain ⟨a3, rfl, rfl, rfl, w3⟩ := open_int Try.underlying2 (hval 3 2 v3 rfl rfl) h3
  exact fnExactHeardFrom_walk (w := W) a0_0 w0_0 a0_1 w0_1 a0_2 w0_2 a0_3 w0_3 a1_0 w1_0 a1_1 w1_1 a2_0 w2_0 a2_1 w2_1 a3 w3

theorem over : Rows.fnExactHeardFromRow.holds Try.pinned (OpenSpec.ofChange Rows.fnExactHeardFromSpec) :=
  OpenClaim.holds_of_wide 12 Try.f12 rfl rfl rfl rfl rfl rfl rfl ⟨rfl, rfl, rfl, rfl, rfl⟩ rfl rfl rfl rfl rfl (by kernel_rfl) Try.func12 (by kernel_rfl)
    (of_decide_eq_true (by kernel_rfl)) (by unfold Func.isWrapper; first | (rw [if_pos (by decide +kernel)]; kernel_rfl) | (rw [if_neg (by decide +kernel)]; exact ⟨rfl, rfl⟩))
    (fun os started H enc _ => lifted os started H enc)

theorem proved : Rows.FnExactHeardFromSaid := over
#print axioms proved
end fnExactHeardFromDone
end Go.Proofs.Ytfmljppofkocmaa
