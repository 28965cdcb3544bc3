/- The program's FogText answers as the reference's, for all arguments, where the listed tables of Go's library hold what its text lays (the card ties them). -/
import Derived.Test.YtimfpnmcdicldaaDoorFogU
namespace Go.Proofs.YtimfpnmcdicldaaDoor
open Go Go.RowKit Go.Shelf
set_option maxHeartbeats 1000000 in
theorem toFogS_c (k b p pw : Int) (w : World) :
    Calls Tryd.prog 14 #[.agg #[.int .i64 k, .int .i64 b, .int .i64 p, .int .i64 pw]] w fun e w' => e = .returned (.agg #[.int .i64 k, .int .i64 b, .int .i64 p, .int .i64 pw]) ∧ Below w.heap.size w w' := by
  go_enter Tryd.func14, Tryd.ntmps14
  go_wp2
  refine bodyPost_ret (v := .agg #[.int .i64 k, .int .i64 b, .int .i64 p, .int .i64 pw]) (by simp [results, Tryd.results14, go_sem]) rfl ⟨rfl, (by repeat (first | exact Below.refl _ _ | refine Below.alloc ?_ (by simp; try omega) _ | refine Below.drew ?_))⟩
set_option maxHeartbeats 2000000 in
theorem fnExactFogText_walk {w : World} (k : Int) (_wk : (Lit.int .i64 k).wf = true) (b : Int) (_wb : (Lit.int .i64 b).wf = true) (p : Int) (_wp : (Lit.int .i64 p).wf = true) (pw : Int) (_wpw : (Lit.int .i64 pw).wf = true) (hT : Pows w) :
    Calls Tryd.prog 4 #[.agg #[.int .i64 k, .int .i64 b, .int .i64 p, .int .i64 pw]] w fun e w' => e = .returned (.bool true) ∧ Below w.heap.size w w' := by
  clear _wk _wb _wp _wpw
  have HI := Lib.hid (fun W hW => implFogText_c k b p pw W hW)
  have HP := Lib.hid (fun W => specFogText_c k b p pw W)
  generalize fogTextS k b p pw = v at *
  go_enter Tryd.func4, Tryd.ntmps4
  go_wp2_with fail
  generalize hW : w.alloc (.cells #[.int .i64 k, .int .i64 b, .int .i64 p, .int .i64 pw] 34) = W at *
  have hbW : Below w.heap.size w W := hW ▸ (by repeat (first | exact Below.refl _ _ | refine Below.alloc ?_ (by simp; try omega) _ | refine Below.drew ?_))
  have hTW := hT.below hbW
  have k0 : ∀ y : Aft W, y.w1.cell? ⟨w.heap.size, 0, none⟩ = some (.int .i64 k) := by subst hW; exact fun y => y.new rfl
  have k1 : ∀ y : Aft W, y.w1.cell? ⟨w.heap.size, 1, none⟩ = some (.int .i64 b) := by subst hW; exact fun y => y.new rfl
  have k2 : ∀ y : Aft W, y.w1.cell? ⟨w.heap.size, 2, none⟩ = some (.int .i64 p) := by subst hW; exact fun y => y.new rfl
  have k3 : ∀ y : Aft W, y.w1.cell? ⟨w.heap.size, 3, none⟩ = some (.int .i64 pw) := by subst hW; exact fun y => y.new rfl
  clear hW hT
  refine (Aft.first (w := W) (toFogS_c k b p pw W)).mono ?_
  rintro e _ ⟨rfl, y, rfl⟩
  go_wp2_with (first
    | (go_at_call 14; refine (Aft.call (toFogS_c k b p pw _)).mono ?_; rintro e _ ⟨rfl, y, rfl⟩)
    | (go_at_call 13; refine (Aft.call (HP.out _)).mono ?_; rintro e _ ⟨rfl, y, rfl⟩)
    | (go_at_call 15; refine (Aft.call (HI.out _ (hTW.below (Aft.below _)))).mono ?_; rintro e _ ⟨rfl, y, rfl⟩))
  go_ret
  exact ⟨rfl, held_next hbW (Aft.below _)⟩
namespace fnExactFogTextDone
open Go.ChangeShapes Go.WideShapes Go.ChangeAt Go.RowKit Go.Joins
open Go.ChangeMaps (open_string shut_string)
set_option maxRecDepth 100000 in
theorem lifted (os : Os) (started : os.Started) (H : Type) (enc : TypeId × Value → H) :
    ReturnsInHanded {} Tryd.checked os 4 .any (fun w args => (Rows.fnExactFogTextSpec.pre enc Tryd.prog Tryd.f4 Rows.fnExactFogTextRow.domain false w args ∧ laidMetH Tryd.prog Rows.fnExactFogTextRow.laid w) ∧ sizedMet enc Tryd.prog Tryd.f4 (OpenSpec.ofChange Rows.fnExactFogTextSpec) false w args)
      (Rows.fnExactFogTextSpec.post enc Tryd.prog Tryd.f4 false true false false) := by
  refine returnsInHanded_of_change_and (C := Tryd.checked) (X := fun w _ => laidMetH Tryd.prog Rows.fnExactFogTextRow.laid w) (fun _ _ _ hh h => h.of_heap hh) lawOwn started (by kernel_rfl) Tryd.func4
    (ChangeSpec.witness_shaped (enc := enc) (C := Tryd.checked) (os := os) (X := fun w _ => laidMetH Tryd.prog Rows.fnExactFogTextRow.laid w) false (World.laidAll Tryd.prog os Rows.fnExactFogTextRow.laid) #[.agg #[.int .i64 0, .int .i64 0, .int .i64 0, .int .i64 0]] 8 (World.laidAll_os _ _ _)
      (World.shaped_of_ZipB (by kernel_rfl) (by kernel_rfl)) (by kernel_rfl) (by kernel_rfl) (by kernel_rfl)
      (by rw [MakeChecks.laidMetH_plain _ _ _ (by kernel_rfl)]; exact laidMet_laidAll _ (by kernel_rfl) (by kernel_rfl))) ?_
  intro W base args ds gs before hval0 hW _ _ hL _
  have hval : ∀ (j : Nat) t v, Tryd.f4.params[j]? = some t → args[j]? = some v → Value.okWide Tryd.prog W .any base t v := hval0
  have hW' := hW
  obtain ⟨p, q, hA0, hV, rfl, hfz, hnd⟩ := hW
  have hA : DataW.TrodAll enc Tryd.prog W 0 (fun _ => true) true Tryd.f4.params.toList args.toList ds p := hA0
  rw [Tryd.params4] at hA hval
  obtain ⟨v0, vs0, d0, ds0, p0, q0, hargs, rfl, rfl, h0, r0⟩ := trodAll_cons hA
  obtain ⟨rfl, rfl, rfl⟩ := trodAll_nil r0
  obtain rfl : args = #[v0] := by cases args; simp_all
  obtain ⟨rfl, rfl⟩ := trodVars_none hV
  have k0 := h0
  have lt0 : ∀ x ∈ p0, x.block < W.heap.size := by obtain ⟨m, hm⟩ := k0; exact DataW.trod_lt m _ _ _ hm
  suffices hwalk : Calls Tryd.prog 4 #[v0] W fun e w' => e = .returned (.bool true) ∧ Below W.heap.size W w' by
    refine hwalk.mono fun e W' ⟨he, bel⟩ => ?_
    subst he
    exact ⟨_, rfl, _, _, _, [], _, [], hW', trodAll_mk1 (shut_bool Tryd.underlying4 _), (trodAll_cons_mk (Below.trod lawLaid (by kernel_rfl) (of_decide_eq_true (by kernel_rfl)) k0 bel lt0) trodAll_mk0), rfl, bel.frame _, fun h => by cases h⟩
  clear hA0 hval0
  obtain ⟨c0_0, c0_1, c0_2, c0_3, y0_0, y0_1, y0_2, y0_3, n0, rfl, hd0, hp0, e0_0, e0_1, e0_2, e0_3⟩ := open_agg4 Tryd.underlying34 (by kernel_rfl) (by kernel_rfl) (hval 0 34 v0 rfl rfl) h0
  obtain ⟨a0_0, g0_0, x0_0, w0_0⟩ := DataW.trod_int Tryd.underlying2 e0_0
  simp only [List.cons.injEq, and_true] at g0_0; subst g0_0
  obtain ⟨a0_1, g0_1, x0_1, w0_1⟩ := DataW.trod_int Tryd.underlying2 e0_1
  simp only [List.cons.injEq, and_true] at g0_1; subst g0_1
  obtain ⟨a0_2, g0_2, x0_2, w0_2⟩ := DataW.trod_int Tryd.underlying2 e0_2
  simp only [List.cons.injEq, and_true] at g0_2; subst g0_2
  obtain ⟨a0_3, g0_3, x0_3, w0_3⟩ := DataW.trod_int Tryd.underlying2 e0_3
  simp only [List.cons.injEq, and_true] at g0_3; subst g0_3
  rw [MakeChecks.laidMetH_plain _ _ _ (by kernel_rfl)] at hL
  have hTab := powTab_of (Lib.laidMet.reads hL (.tail _ (.tail _ (.head _))))
  exact fnExactFogText_walk (w := W) a0_0 w0_0 a0_1 w0_1 a0_2 w0_2 a0_3 w0_3 hTab

theorem over : Rows.fnExactFogTextRow.holds Tryd.pinned (OpenSpec.ofChange Rows.fnExactFogTextSpec) :=
  OpenClaim.holds_of_wide 4 Tryd.f4 rfl rfl rfl rfl rfl rfl rfl ⟨rfl, rfl, rfl, rfl, rfl⟩ rfl rfl rfl rfl rfl (by kernel_rfl) Tryd.func4 (by kernel_rfl)
    (of_decide_eq_true (by kernel_rfl)) (by unfold Func.isWrapper; first | (rw [if_pos (by decide +kernel)]; kernel_rfl) | (rw [if_neg (by decide +kernel)]; exact ⟨rfl, rfl⟩))
    (fun os started H enc _ => lifted os started H enc)

theorem proved : Rows.FnExactFogTextCardSaid :=
  Claim7.holds_tied_plain_at .later [] [.data, .data, .data] true (true, "3c5d1abde885b458624fa97d3f925a85800a0aa273fad69290f9f40679c14aa5") true over (fun _ h => by cases h) (by kernel_rfl) (fun _ h => by cases h) fnExactFogText_row_tie rfl ⟨rfl, rfl⟩ (by kernel_rfl) rfl
    (fun f fn hf hfn => by
      obtain rfl : f = 4 := Option.some.inj ((show Tryd.prog.funcNamed "loop.example/g00953/laws.FnExactFogText" = some 4 by kernel_rfl).symm.trans hf) |>.symm
      obtain rfl : fn = Tryd.f4 := (Option.some.inj (Tryd.func4.symm.trans hfn)).symm
      exact ⟨by kernel_rfl, fun j t ht => by
        rw [Tryd.params4] at ht
        have hm : t ∈ [34] := by simpa using Array.mem_of_getElem? ht
        have hall : ([34].all fun u => !Tryd.prog.wantsStandIn u) = true := by kernel_rfl
        exact (show Tryd.prog.wantsStandIn t = false by simpa using List.all_eq_true.1 hall t hm)⟩)
    (by kernel_rfl)
#print axioms proved
end fnExactFogTextDone
end Go.Proofs.YtimfpnmcdicldaaDoor
