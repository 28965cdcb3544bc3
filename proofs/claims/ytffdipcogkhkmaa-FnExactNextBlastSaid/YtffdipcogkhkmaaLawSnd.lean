/- SoundAt and NextBlast: the laws. -/
import Derived.Test.YtffdipcogkhkmaaSoundAt
namespace Go.Proofs.Ytffdipcogkhkmaa
open Go Go.RowKit

set_option maxHeartbeats 2000000 in
theorem fnExactSoundAt_walk {w : World} (k : Int) (_wk : (Lit.int .i64 k).wf = true) (b : Int) (_wb : (Lit.int .i64 b).wf = true) (p : Int) (_wp : (Lit.int .i64 p).wf = true) (pw : Int) (_wpw : (Lit.int .i64 pw).wf = true) (t : Int) (_wt : (Lit.int .i64 t).wf = true) :
    Calls Try.prog 13 #[.agg #[.int .i64 k, .int .i64 b, .int .i64 p, .int .i64 pw], .int .i64 t] w fun e w' => e = .returned (.bool true) ∧ Below w.heap.size w w' := by
  clear _wk _wb _wp _wpw _wt
  obtain ⟨r, HS, HI⟩ : ∃ r : Bool × Int, Hid (∀ W : World, Calls Try.prog 36 #[.agg #[.int .i64 k, .int .i64 b, .int .i64 p, .int .i64 pw], .int .i64 t] W fun e w' => e = .returned (.tuple #[.bool r.1, .int .i64 r.2]) ∧ Below W.heap.size W w') ∧ Hid (∀ W : World, Calls Try.prog 38 #[.agg #[.int .i64 k, .int .i64 b, .int .i64 p, .int .i64 pw], .int .i64 t] W fun e w' => e = .returned (.tuple #[.bool r.1, .int .i64 r.2]) ∧ Below W.heap.size W w') := by
    by_cases h : askZ k b p pw t = 0
    · exact ⟨(snB (blastZ k) b.toNat (t % p), 0), Lib.hid (fun W => specSoundAt_yes k b p pw t h W), Lib.hid (fun W => implSoundAt_yes k b p pw t h W)⟩
    · exact ⟨(false, askZ k b p pw t), Lib.hid (fun W => specSoundAt_no k b p pw t h W), Lib.hid (fun W => implSoundAt_no k b p pw t h W)⟩
  obtain ⟨v, z⟩ := r
  dsimp only at HS HI
  have k0 : ∀ x : Aft (w.alloc (.cells #[.int .i64 k, .int .i64 b, .int .i64 p, .int .i64 pw] 33)), x.w1.cell? ⟨w.heap.size, 0, none⟩ = some (.int .i64 k) := fun x => x.new rfl
  have k1 : ∀ x : Aft (w.alloc (.cells #[.int .i64 k, .int .i64 b, .int .i64 p, .int .i64 pw] 33)), x.w1.cell? ⟨w.heap.size, 1, none⟩ = some (.int .i64 b) := fun x => x.new rfl
  have k2 : ∀ x : Aft (w.alloc (.cells #[.int .i64 k, .int .i64 b, .int .i64 p, .int .i64 pw] 33)), x.w1.cell? ⟨w.heap.size, 2, none⟩ = some (.int .i64 p) := fun x => x.new rfl
  have k3 : ∀ x : Aft (w.alloc (.cells #[.int .i64 k, .int .i64 b, .int .i64 p, .int .i64 pw] 33)), x.w1.cell? ⟨w.heap.size, 3, none⟩ = some (.int .i64 pw) := fun x => x.new rfl
  go_enter Try.func13, Try.ntmps13
  go_wp2_with fail
  refine (Aft.first (toFogSignal_c k b p pw _)).mono ?_
  rintro e _ ⟨rfl, y1, rfl⟩
  go_wp2_with (first
    | (go_at_call 37; refine (Aft.call (toFogSignal_c k b p pw _)).mono ?_; rintro e _ ⟨rfl, y, rfl⟩)
    | (go_at_call 36; refine (Aft.call (HS.out _)).mono ?_; rintro e _ ⟨rfl, y, rfl⟩)
    | (go_at_call 38; refine (Aft.call (HI.out _)).mono ?_; rintro e _ ⟨rfl, y, rfl⟩))
  go_ret
  exact ⟨rfl, below_box (Aft.below _)⟩
namespace fnExactSoundAtDone
open Go.ChangeShapes Go.WideShapes Go.ChangeAt Go.RowKit Go.Joins
open Go.ChangeMaps (open_string shut_string)
set_option maxRecDepth 100000 in
theorem lifted (os : Os) (started : os.Started) (H : Type) (enc : TypeId × Value → H) :
    ReturnsInHanded {} Try.checked os 13 .any (Rows.fnExactSoundAtSpec.pre6 enc Try.prog Try.f13 Rows.fnExactSoundAtRow.domain false) (Rows.fnExactSoundAtSpec.post enc Try.prog Try.f13 false true false false) := by
  refine returnsInHanded_of_change (C := Try.checked) lawOwn started (by kernel_rfl) Try.func13
    (ChangeSpec.witness6 (enc := enc) (C := Try.checked) false ⟨#[], #[.agg #[.int .i64 0, .int .i64 0, .int .i64 0, .int .i64 0], .int .i64 0], []⟩ 8 (by kernel_rfl) (by kernel_rfl) (by kernel_rfl) (by kernel_rfl)) ?_
  intro W base args ds gs before hval0 hW hcnd _
  have hval : ∀ (j : Nat) t v, Try.f13.params[j]? = some t → args[j]? = some v → Value.okWide Try.prog W .any base t v := hval0
  have hW' := hW
  obtain ⟨p, q, hA0, hV, rfl, hfz, hnd⟩ := hW
  have hA : DataW.TrodAll enc Try.prog W 0 (fun _ => true) true Try.f13.params.toList args.toList ds p := hA0
  rw [Try.params13] at hA hval
  obtain ⟨v0, vs0, d0, ds0, p0, q0, hargs, rfl, rfl, h0, r0⟩ := trodAll_cons hA
  obtain ⟨v1, vs1, d1, ds1, p1, q1, rfl, rfl, rfl, h1, r1⟩ := trodAll_cons r0
  obtain ⟨rfl, rfl, rfl⟩ := trodAll_nil r1
  obtain rfl : args = #[v0, v1] := by cases args; simp_all
  obtain ⟨rfl, rfl⟩ := trodVars_none hV
  have k0 := h0
  have lt0 : ∀ x ∈ p0, x.block < W.heap.size := by obtain ⟨m, hm⟩ := k0; exact DataW.trod_lt m _ _ _ hm
  have k1 := h1
  have lt1 : ∀ x ∈ p1, x.block < W.heap.size := by obtain ⟨m, hm⟩ := k1; exact DataW.trod_lt m _ _ _ hm
  suffices hwalk : Calls Try.prog 13 #[v0, v1] W fun e w' => e = .returned (.bool true) ∧ Below W.heap.size W w' by
    refine hwalk.mono fun e W' ⟨he, bel⟩ => ?_
    subst he
    exact ⟨_, rfl, _, _, _, [], _, [], hW', trodAll_mk1 (shut_bool Try.underlying4 _), (trodAll_cons_mk (Below.trod lawLaid (by kernel_rfl) (of_decide_eq_true (by kernel_rfl)) k0 bel lt0) (trodAll_cons_mk (Below.trod lawLaid (by kernel_rfl) (of_decide_eq_true (by kernel_rfl)) k1 bel lt1) trodAll_mk0)), rfl, bel.frame _, fun h => by cases h⟩
  clear hA0 hval0
  obtain ⟨c0_0, c0_1, c0_2, c0_3, y0_0, y0_1, y0_2, y0_3, n0, rfl, hd0, hp0, e0_0, e0_1, e0_2, e0_3⟩ := open_agg4 Try.underlying33 (by kernel_rfl) (by kernel_rfl) (hval 0 33 v0 rfl rfl) h0
  obtain ⟨a0_0, g0_0, x0_0, w0_0⟩ := DataW.trod_int Try.underlying2 e0_0
  simp only [List.cons.injEq, and_true] at g0_0; subst g0_0
  obtain ⟨a0_1, g0_1, x0_1, w0_1⟩ := DataW.trod_int Try.underlying2 e0_1
  simp only [List.cons.injEq, and_true] at g0_1; subst g0_1
  obtain ⟨a0_2, g0_2, x0_2, w0_2⟩ := DataW.trod_int Try.underlying2 e0_2
  simp only [List.cons.injEq, and_true] at g0_2; subst g0_2
  obtain ⟨a0_3, g0_3, x0_3, w0_3⟩ := DataW.trod_int Try.underlying2 e0_3
  simp only [List.cons.injEq, and_true] at g0_3; subst g0_3
  obtain ⟨a1, rfl, rfl, rfl, w1⟩ := open_int Try.underlying2 (hval 1 2 v1 rfl rfl) h1
  exact fnExactSoundAt_walk (w := W) a0_0 w0_0 a0_1 w0_1 a0_2 w0_2 a0_3 w0_3 a1 w1

theorem over : Rows.fnExactSoundAtRow.holds Try.pinned (OpenSpec.ofChange Rows.fnExactSoundAtSpec) :=
  OpenClaim.holds_of_wide 13 Try.f13 rfl rfl rfl rfl rfl rfl rfl ⟨rfl, rfl, rfl, rfl, rfl⟩ rfl rfl rfl rfl rfl (by kernel_rfl) Try.func13 (by kernel_rfl)
    (of_decide_eq_true (by kernel_rfl)) (by unfold Func.isWrapper; first | (rw [if_pos (by decide +kernel)]; kernel_rfl) | (rw [if_neg (by decide +kernel)]; exact ⟨rfl, rfl⟩))
    (fun os started H enc _ => lifted os started H enc)

theorem proved : Rows.FnExactSoundAtSaid := over
#print axioms proved
end fnExactSoundAtDone

set_option maxHeartbeats 2000000 in
theorem fnExactNextBlast_walk {w : World} (k : Int) (_wk : (Lit.int .i64 k).wf = true) (b : Int) (_wb : (Lit.int .i64 b).wf = true) (p : Int) (_wp : (Lit.int .i64 p).wf = true) (pw : Int) (_wpw : (Lit.int .i64 pw).wf = true) (t : Int) (_wt : (Lit.int .i64 t).wf = true) :
    Calls Try.prog 14 #[.agg #[.int .i64 k, .int .i64 b, .int .i64 p, .int .i64 pw], .int .i64 t] w fun e w' => e = .returned (.bool true) ∧ Below w.heap.size w w' := by
  clear _wk _wb _wp _wpw _wt
  obtain ⟨r, HS, HI⟩ : ∃ r : Int × Int, Hid (∀ W : World, Calls Try.prog 39 #[.agg #[.int .i64 k, .int .i64 b, .int .i64 p, .int .i64 pw], .int .i64 t] W fun e w' => e = .returned (.tuple #[.int .i64 r.1, .int .i64 r.2]) ∧ Below W.heap.size W w') ∧ Hid (∀ W : World, Calls Try.prog 40 #[.agg #[.int .i64 k, .int .i64 b, .int .i64 p, .int .i64 pw], .int .i64 t] W fun e w' => e = .returned (.tuple #[.int .i64 r.1, .int .i64 r.2]) ∧ Below W.heap.size W w') := by
    by_cases h : askZ k b p pw t = 0
    · exact ⟨(nbF (blastZ k) b.toNat (t - t % p) t p, 0), Lib.hid (fun W => specNextBlast_yes k b p pw t h W), Lib.hid (fun W => implNextBlast_yes k b p pw t h W)⟩
    · exact ⟨(0, askZ k b p pw t), Lib.hid (fun W => specNextBlast_no k b p pw t h W), Lib.hid (fun W => implNextBlast_no k b p pw t h W)⟩
  obtain ⟨v, z⟩ := r
  dsimp only at HS HI
  have k0 : ∀ x : Aft (w.alloc (.cells #[.int .i64 k, .int .i64 b, .int .i64 p, .int .i64 pw] 33)), x.w1.cell? ⟨w.heap.size, 0, none⟩ = some (.int .i64 k) := fun x => x.new rfl
  have k1 : ∀ x : Aft (w.alloc (.cells #[.int .i64 k, .int .i64 b, .int .i64 p, .int .i64 pw] 33)), x.w1.cell? ⟨w.heap.size, 1, none⟩ = some (.int .i64 b) := fun x => x.new rfl
  have k2 : ∀ x : Aft (w.alloc (.cells #[.int .i64 k, .int .i64 b, .int .i64 p, .int .i64 pw] 33)), x.w1.cell? ⟨w.heap.size, 2, none⟩ = some (.int .i64 p) := fun x => x.new rfl
  have k3 : ∀ x : Aft (w.alloc (.cells #[.int .i64 k, .int .i64 b, .int .i64 p, .int .i64 pw] 33)), x.w1.cell? ⟨w.heap.size, 3, none⟩ = some (.int .i64 pw) := fun x => x.new rfl
  go_enter Try.func14, Try.ntmps14
  go_wp2_with fail
  refine (Aft.first (toFogSignal_c k b p pw _)).mono ?_
  rintro e _ ⟨rfl, y1, rfl⟩
  go_wp2_with (first
    | (go_at_call 37; refine (Aft.call (toFogSignal_c k b p pw _)).mono ?_; rintro e _ ⟨rfl, y, rfl⟩)
    | (go_at_call 39; refine (Aft.call (HS.out _)).mono ?_; rintro e _ ⟨rfl, y, rfl⟩)
    | (go_at_call 40; refine (Aft.call (HI.out _)).mono ?_; rintro e _ ⟨rfl, y, rfl⟩))
  go_ret
  exact ⟨rfl, below_box (Aft.below _)⟩
namespace fnExactNextBlastDone
open Go.ChangeShapes Go.WideShapes Go.ChangeAt Go.RowKit Go.Joins
open Go.ChangeMaps (open_string shut_string)
set_option maxRecDepth 100000 in
theorem lifted (os : Os) (started : os.Started) (H : Type) (enc : TypeId × Value → H) :
    ReturnsInHanded {} Try.checked os 14 .any (Rows.fnExactNextBlastSpec.pre6 enc Try.prog Try.f14 Rows.fnExactNextBlastRow.domain false) (Rows.fnExactNextBlastSpec.post enc Try.prog Try.f14 false true false false) := by
  refine returnsInHanded_of_change (C := Try.checked) lawOwn started (by kernel_rfl) Try.func14
    (ChangeSpec.witness6 (enc := enc) (C := Try.checked) false ⟨#[], #[.agg #[.int .i64 0, .int .i64 0, .int .i64 0, .int .i64 0], .int .i64 0], []⟩ 8 (by kernel_rfl) (by kernel_rfl) (by kernel_rfl) (by kernel_rfl)) ?_
  intro W base args ds gs before hval0 hW hcnd _
  have hval : ∀ (j : Nat) t v, Try.f14.params[j]? = some t → args[j]? = some v → Value.okWide Try.prog W .any base t v := hval0
  have hW' := hW
  obtain ⟨p, q, hA0, hV, rfl, hfz, hnd⟩ := hW
  have hA : DataW.TrodAll enc Try.prog W 0 (fun _ => true) true Try.f14.params.toList args.toList ds p := hA0
  rw [Try.params14] at hA hval
  obtain ⟨v0, vs0, d0, ds0, p0, q0, hargs, rfl, rfl, h0, r0⟩ := trodAll_cons hA
  obtain ⟨v1, vs1, d1, ds1, p1, q1, rfl, rfl, rfl, h1, r1⟩ := trodAll_cons r0
  obtain ⟨rfl, rfl, rfl⟩ := trodAll_nil r1
  obtain rfl : args = #[v0, v1] := by cases args; simp_all
  obtain ⟨rfl, rfl⟩ := trodVars_none hV
  have k0 := h0
  have lt0 : ∀ x ∈ p0, x.block < W.heap.size := by obtain ⟨m, hm⟩ := k0; exact DataW.trod_lt m _ _ _ hm
  have k1 := h1
  have lt1 : ∀ x ∈ p1, x.block < W.heap.size := by obtain ⟨m, hm⟩ := k1; exact DataW.trod_lt m _ _ _ hm
  suffices hwalk : Calls Try.prog 14 #[v0, v1] W fun e w' => e = .returned (.bool true) ∧ Below W.heap.size W w' by
    refine hwalk.mono fun e W' ⟨he, bel⟩ => ?_
    subst he
    exact ⟨_, rfl, _, _, _, [], _, [], hW', trodAll_mk1 (shut_bool Try.underlying4 _), (trodAll_cons_mk (Below.trod lawLaid (by kernel_rfl) (of_decide_eq_true (by kernel_rfl)) k0 bel lt0) (trodAll_cons_mk (Below.trod lawLaid (by kernel_rfl) (of_decide_eq_true (by kernel_rfl)) k1 bel lt1) trodAll_mk0)), rfl, bel.frame _, fun h => by cases h⟩
  clear hA0 hval0
  obtain ⟨c0_0, c0_1, c0_2, c0_3, y0_0, y0_1, y0_2, y0_3, n0, rfl, hd0, hp0, e0_0, e0_1, e0_2, e0_3⟩ := open_agg4 Try.underlying33 (by kernel_rfl) (by kernel_rfl) (hval 0 33 v0 rfl rfl) h0
  obtain ⟨a0_0, g0_0, x0_0, w0_0⟩ := DataW.trod_int Try.underlying2 e0_0
  simp only [List.cons.injEq, and_true] at g0_0; subst g0_0
  obtain ⟨a0_1, g0_1, x0_1, w0_1⟩ := DataW.trod_int Try.underlying2 e0_1
  simp only [List.cons.injEq, and_true] at g0_1; subst g0_1
  obtain ⟨a0_2, g0_2, x0_2, w0_2⟩ := DataW.trod_int Try.underlying2 e0_2
  simp only [List.cons.injEq, and_true] at g0_2; subst g0_2
  obtain ⟨a0_3, g0_3, x0_3, w0_3⟩ := DataW.trod_int Try.underlying2 e0_3
  simp only [List.cons.injEq, and_true] at g0_3; subst g0_3
  obtain ⟨a1, rfl, rfl, rfl, w1⟩ := open_int Try.underlying2 (hval 1 2 v1 rfl rfl) h1
  exact fnExactNextBlast_walk (w := W) a0_0 w0_0 a0_1 w0_1 a0_2 w0_2 a0_3 w0_3 a1 w1

theorem over : Rows.fnExactNextBlastRow.holds Try.pinned (OpenSpec.ofChange Rows.fnExactNextBlastSpec) :=
  OpenClaim.holds_of_wide 14 Try.f14 rfl rfl rfl rfl rfl rfl rfl ⟨rfl, rfl, rfl, rfl, rfl⟩ rfl rfl rfl rfl rfl (by kernel_rfl) Try.func14 (by kernel_rfl)
    (of_decide_eq_true (by kernel_rfl)) (by unfold Func.isWrapper; first | (rw [if_pos (by decide +kernel)]; kernel_rfl) | (rw [if_neg (by decide +kernel)]; exact ⟨rfl, rfl⟩))
    (fun os started H enc _ => lifted os started H enc)

theorem proved : Rows.FnExactNextBlastSaid := over
#print axioms proved
end fnExactNextBlastDone
end Go.Proofs.Ytffdipcogkhkmaa
