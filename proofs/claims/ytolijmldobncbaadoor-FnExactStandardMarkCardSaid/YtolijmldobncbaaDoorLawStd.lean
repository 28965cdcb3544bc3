/- The program's StandardMark answers as the reference's, for all numbers, where the listed tables of Go's library hold what its text lays (the card ties them). -/
import Derived.Test.YtolijmldobncbaaDoorMarkD
namespace Go.Proofs.YtolijmldobncbaaDoor
open Go Go.RowKit
set_option maxHeartbeats 2000000 in
set_option maxRecDepth 100000 in
theorem fnExactStandardMark_walk {w : World} (k : Int) (_wk : (Lit.int .i64 k).wf = true) (hT : Spaces w) :
    Calls Tryd.prog 3 #[.int .i64 k] w fun e w' => e = .returned (.bool true) ∧ Below w.heap.size w w' := by
  clear _wk
  by_cases h : 1 ≤ k ∧ k ≤ 9
  · have HI := Lib.hid (fun W hW => implStandard_in k h W hW)
    have HP := Lib.hid (fun W => specStandard_in k h W)
    generalize (shapes k).getD 0 ⟨#[]⟩ = s0 at *
    generalize pickS markCols k = col at *
    generalize pickS markTops k = top at *
    clear h
    go_enter Tryd.func3, Tryd.ntmps3
    go_wp2_with fail
    refine (HP.out _).mono ?_
    rintro e w1 ⟨rfl, b1⟩
    go_wp2_with fail
    generalize hW1 : w1.alloc (.cells #[.int .i64 k, .string col, .string s0, .string top] 23) = W1 at *
    have bW1 : Below w.heap.size w W1 := hW1 ▸ b1.alloc b1.size _
    have l0 : w1.heap.size < W1.heap.size := by subst hW1; simp
    have c0 : ∀ y : Aft W1, y.w1.cell? ⟨w1.heap.size, 0, none⟩ = some (.int .i64 k) := by subst hW1; exact fun y => y.new rfl
    have c1 : ∀ y : Aft W1, y.w1.cell? ⟨w1.heap.size, 1, none⟩ = some (.string col) := by subst hW1; exact fun y => y.new rfl
    have c2 : ∀ y : Aft W1, y.w1.cell? ⟨w1.heap.size, 2, none⟩ = some (.string s0) := by subst hW1; exact fun y => y.new rfl
    have c3 : ∀ y : Aft W1, y.w1.cell? ⟨w1.heap.size, 3, none⟩ = some (.string top) := by subst hW1; exact fun y => y.new rfl
    clear hW1
    refine (HI.out _ (hT.below bW1)).mono ?_
    rintro e w2 ⟨rfl, b2⟩
    obtain ⟨x2, rfl⟩ : ∃ x : Aft W1, w2 = x.w1 := ⟨⟨w2, b2⟩, rfl⟩
    clear b2
    have l1 : w1.heap.size < x2.w1.heap.size := x2.lt l0
    have g0 : x2.w1.cell? ⟨w1.heap.size, 0, none⟩ = some (.int .i64 k) := c0 x2
    have g1 : x2.w1.cell? ⟨w1.heap.size, 1, none⟩ = some (.string col) := c1 x2
    have g2 : x2.w1.cell? ⟨w1.heap.size, 2, none⟩ = some (.string s0) := c2 x2
    have g3 : x2.w1.cell? ⟨w1.heap.size, 3, none⟩ = some (.string top) := c3 x2
    clear c0 c1 c2 c3
    go_wp2_with (go_at_call 14; refine (Aft.first (eqMark_same k col s0 top _)).mono ?_; rintro e _ ⟨rfl, y3, rfl⟩)
    go_ret
    exact ⟨rfl, held_next bW1 (held_next x2.below (below_box (Aft.below _)))⟩
  · have HI := Lib.hid (fun W => implStandard_out k h W)
    have HP := Lib.hid (fun W => specStandard_out k h W)
    clear h
    go_enter Tryd.func3, Tryd.ntmps3
    go_wp2_with fail
    refine (HP.out _).mono ?_
    rintro e w1 ⟨rfl, b1⟩
    go_wp2_with fail
    generalize hW1 : w1.alloc (.cells #[.int .i64 0, .string ⟨#[]⟩, .string ⟨#[]⟩, .string ⟨#[]⟩] 23) = W1 at *
    have bW1 : Below w.heap.size w W1 := hW1 ▸ b1.alloc b1.size _
    have l0 : w1.heap.size < W1.heap.size := by subst hW1; simp
    have c0 : ∀ y : Aft W1, y.w1.cell? ⟨w1.heap.size, 0, none⟩ = some (.int .i64 0) := by subst hW1; exact fun y => y.new rfl
    have c1 : ∀ y : Aft W1, y.w1.cell? ⟨w1.heap.size, 1, none⟩ = some (.string ⟨#[]⟩) := by subst hW1; exact fun y => y.new rfl
    have c2 : ∀ y : Aft W1, y.w1.cell? ⟨w1.heap.size, 2, none⟩ = some (.string ⟨#[]⟩) := by subst hW1; exact fun y => y.new rfl
    have c3 : ∀ y : Aft W1, y.w1.cell? ⟨w1.heap.size, 3, none⟩ = some (.string ⟨#[]⟩) := by subst hW1; exact fun y => y.new rfl
    clear hW1
    refine (HI.out _).mono ?_
    rintro e w2 ⟨rfl, b2⟩
    obtain ⟨x2, rfl⟩ : ∃ x : Aft W1, w2 = x.w1 := ⟨⟨w2, b2⟩, rfl⟩
    clear b2
    have l1 : w1.heap.size < x2.w1.heap.size := x2.lt l0
    have g0 : x2.w1.cell? ⟨w1.heap.size, 0, none⟩ = some (.int .i64 0) := c0 x2
    have g1 : x2.w1.cell? ⟨w1.heap.size, 1, none⟩ = some (.string ⟨#[]⟩) := c1 x2
    have g2 : x2.w1.cell? ⟨w1.heap.size, 2, none⟩ = some (.string ⟨#[]⟩) := c2 x2
    have g3 : x2.w1.cell? ⟨w1.heap.size, 3, none⟩ = some (.string ⟨#[]⟩) := c3 x2
    clear c0 c1 c2 c3
    go_wp2_with (go_at_call 14; refine (Aft.first (eqMark_same 0 ⟨#[]⟩ ⟨#[]⟩ ⟨#[]⟩ _)).mono ?_; rintro e _ ⟨rfl, y3, rfl⟩)
    go_ret
    exact ⟨rfl, held_next bW1 (held_next x2.below (below_box (Aft.below _)))⟩
namespace fnExactStandardMarkDone
open Go.ChangeShapes Go.WideShapes Go.ChangeAt Go.RowKit Go.Joins
open Go.ChangeMaps (open_string shut_string)
set_option maxRecDepth 100000 in
theorem lifted (os : Os) (started : os.Started) (H : Type) (enc : TypeId × Value → H) :
    ReturnsInHanded {} Tryd.checked os 3 .any (fun w args => (Rows.fnExactStandardMarkSpec.pre enc Tryd.prog Tryd.f3 Rows.fnExactStandardMarkRow.domain false w args ∧ laidMetH Tryd.prog Rows.fnExactStandardMarkRow.laid w) ∧ sizedMet enc Tryd.prog Tryd.f3 (OpenSpec.ofChange Rows.fnExactStandardMarkSpec) false w args)
      (Rows.fnExactStandardMarkSpec.post enc Tryd.prog Tryd.f3 false true false false) := by
  refine returnsInHanded_of_change_and (C := Tryd.checked) (X := fun w _ => laidMetH Tryd.prog Rows.fnExactStandardMarkRow.laid w) (fun _ _ _ hh h => h.of_heap hh) lawOwn started (by kernel_rfl) Tryd.func3
    (ChangeSpec.witness_shaped (enc := enc) (C := Tryd.checked) (os := os) (X := fun w _ => laidMetH Tryd.prog Rows.fnExactStandardMarkRow.laid w) false (World.laidAll Tryd.prog os Rows.fnExactStandardMarkRow.laid) #[.int .i64 0] 8 (World.laidAll_os _ _ _)
      (World.shaped_of_ZipB (by kernel_rfl) (by kernel_rfl)) (by kernel_rfl) (by kernel_rfl) (by kernel_rfl)
      (by rw [MakeChecks.laidMetH_plain _ _ _ (by kernel_rfl)]; exact laidMet_laidAll _ (by kernel_rfl) (by kernel_rfl))) ?_
  intro W base args ds gs before hval0 hW _ _ hL _
  have hval : ∀ (j : Nat) t v, Tryd.f3.params[j]? = some t → args[j]? = some v → Value.okWide Tryd.prog W .any base t v := hval0
  have hW' := hW
  obtain ⟨p, q, hA0, hV, rfl, hfz, hnd⟩ := hW
  have hA : DataW.TrodAll enc Tryd.prog W 0 (fun _ => true) true Tryd.f3.params.toList args.toList ds p := hA0
  rw [Tryd.params3] at hA hval
  obtain ⟨v0, vs0, d0, ds0, p0, q0, hargs, rfl, rfl, h0, r0⟩ := trodAll_cons hA
  obtain ⟨rfl, rfl, rfl⟩ := trodAll_nil r0
  obtain rfl : args = #[v0] := by cases args; simp_all
  obtain ⟨rfl, rfl⟩ := trodVars_none hV
  have k0 := h0
  have lt0 : ∀ x ∈ p0, x.block < W.heap.size := by obtain ⟨m, hm⟩ := k0; exact DataW.trod_lt m _ _ _ hm
  suffices hwalk : Calls Tryd.prog 3 #[v0] W fun e w' => e = .returned (.bool true) ∧ Below W.heap.size W w' by
    refine hwalk.mono fun e W' ⟨he, bel⟩ => ?_
    subst he
    exact ⟨_, rfl, _, _, _, [], _, [], hW', trodAll_mk1 (shut_bool Tryd.underlying4 _), (trodAll_cons_mk (Below.trod lawLaid (by kernel_rfl) (of_decide_eq_true (by kernel_rfl)) k0 bel lt0) trodAll_mk0), rfl, bel.frame _, fun h => by cases h⟩
  clear hA0 hval0
  obtain ⟨a0, rfl, rfl, rfl, w0⟩ := open_int Tryd.underlying2 (hval 0 2 v0 rfl rfl) h0
  rw [MakeChecks.laidMetH_plain _ _ _ (by kernel_rfl)] at hL
  have hTab := asciiTab_of (Lib.laidMet.reads hL (.tail _ (.head _)))
  exact fnExactStandardMark_walk (w := W) a0 w0 hTab

theorem over : Rows.fnExactStandardMarkRow.holds Tryd.pinned (OpenSpec.ofChange Rows.fnExactStandardMarkSpec) :=
  OpenClaim.holds_of_wide 3 Tryd.f3 rfl rfl rfl rfl rfl rfl rfl ⟨rfl, rfl, rfl, rfl, rfl⟩ rfl rfl rfl rfl rfl (by kernel_rfl) Tryd.func3 (by kernel_rfl)
    (of_decide_eq_true (by kernel_rfl)) (by unfold Func.isWrapper; first | (rw [if_pos (by decide +kernel)]; kernel_rfl) | (rw [if_neg (by decide +kernel)]; exact ⟨rfl, rfl⟩))
    (fun os started H enc _ => lifted os started H enc)

theorem proved : Rows.FnExactStandardMarkCardSaid :=
  Claim7.holds_tied_plain_at .later [] [.listed, .data] true (true, "a6357595bf9999fd0109d346879aa51bdc7c32d128cba37b7695526da005853e") false over (fun _ h => by cases h) (by kernel_rfl) (fun _ h => by cases h) fnExactStandardMark_row_tie rfl ⟨rfl, rfl⟩ (by kernel_rfl) rfl
    (fun f fn hf hfn => by
      obtain rfl : f = 3 := Option.some.inj ((show Tryd.prog.funcNamed "loop.example/g00953/laws.FnExactStandardMark" = some 3 by kernel_rfl).symm.trans hf) |>.symm
      obtain rfl : fn = Tryd.f3 := (Option.some.inj (Tryd.func3.symm.trans hfn)).symm
      exact ⟨by kernel_rfl, fun j t ht => by
        rw [Tryd.params3] at ht
        have hm : t ∈ [2] := by simpa using Array.mem_of_getElem? ht
        have hall : ([2].all fun u => !Tryd.prog.wantsStandIn u) = true := by kernel_rfl
        exact (show Tryd.prog.wantsStandIn t = false by simpa using List.all_eq_true.1 hall t hm)⟩)
    (by kernel_rfl)
#print axioms proved
end fnExactStandardMarkDone
end Go.Proofs.YtolijmldobncbaaDoor
