/- The program's BuoysFor answers as the reference's, for all arguments, and keeps nothing of what it hands out. -/
import Derived.Test.YtimfpnmcdicldaaGateB
import Derived.Deep.RegionHeld3
namespace Go.Proofs.Ytimfpnmcdicldaa
open Go Go.RowKit
set_option maxRecDepth 100000 in
set_option maxHeartbeats 8000000 in
theorem fnExactBuoysFor_walk {w : World} (nmA : ByteArray) (hsA : nmA.size ≤ maxLen) (A : Option Addr) (nA capA : Nat) (hnA : nA ≤ maxLen) (hrA : Rows0 [0, 0] w A nA) (wdA : Int) (_wwA : (Lit.int .i64 wdA).wf = true) (D : Int) (_wD : (Lit.int .i64 D).wf = true) :
    Calls Try.prog 7 #[.agg #[.string nmA, .slice A nA capA, .int .i64 wdA], .int .i64 D] w fun e w' => e = .returned (.bool true) ∧ Below w.heap.size w w' := by
  obtain ⟨A0, A1, hA, hwA⟩ := rowsPoint hrA
  clear hrA
  have hA := hA.below (w' := (w.alloc (.cells #[.string nmA, .slice A nA capA, .int .i64 wdA] 24))) (by repeat (first | exact Below.refl _ _ | refine Below.alloc ?_ (by simp; try omega) _ | refine Below.drew ?_))
  have k0_0 : ∀ y : Aft (w.alloc (.cells #[.string nmA, .slice A nA capA, .int .i64 wdA] 24)), y.w1.cell? ⟨w.heap.size, 0, none⟩ = some (.string nmA) := fun y => y.cell (by simp; try omega) (by simp [go_sem])
  have k0_1 : ∀ y : Aft (w.alloc (.cells #[.string nmA, .slice A nA capA, .int .i64 wdA] 24)), y.w1.cell? ⟨w.heap.size, 1, none⟩ = some (.slice A nA capA) := fun y => y.cell (by simp; try omega) (by simp [go_sem])
  have k0_2 : ∀ y : Aft (w.alloc (.cells #[.string nmA, .slice A nA capA, .int .i64 wdA] 24)), y.w1.cell? ⟨w.heap.size, 2, none⟩ = some (.int .i64 wdA) := fun y => y.cell (by simp; try omega) (by simp [go_sem])
  go_enter Try.func7, Try.ntmps7
  go_wp2_with fail
  generalize hW : (w.alloc (.cells #[.string nmA, .slice A nA capA, .int .i64 wdA] 24)) = W0 at *
  have hb0 : Below w.heap.size w W0 := hW ▸ (by repeat (first | exact Below.refl _ _ | refine Below.alloc ?_ (by simp; try omega) _ | refine Below.drew ?_))
  clear hW
  refine (szChannel_c nmA A nA _ wdA _ hsA hnA (by omega) (by omega) _).mono ?_
  rintro e w1 ⟨rfl | ⟨r, r0, r1, rfl⟩, b1⟩
  · go_wp2
    go_ret
    exact ⟨rfl, held_next hb0 b1⟩
  · skip
    obtain ⟨x1, rfl⟩ : ∃ x : Aft W0, w1 = x.w1 := ⟨⟨w1, b1⟩, rfl⟩
    have nA2 : nA ≤ 1048576 := by omega
    clear r1
    obtain ⟨rn, code, f1, f2, f3, hrn, HP, HI⟩ := bu_same nmA nA wdA D A0 A1 hsA nA2
    have HP := Lib.hid HP
    have HI := Lib.hid HI
    go_wp2_with fail
    refine (toChannel_c nmA A nA _ wdA A0 A1 _ nA2 (hA.aft x1)).mono ?_
    rintro e w2 ⟨g2, rfl, F⟩
    have ra := Lib.hid (F.so)
    obtain ⟨x2, rfl⟩ : ∃ x : Aft W0, w2 = x.w1 := ⟨⟨w2, (held_next x1.below F.bel)⟩, rfl⟩
    clear F
    have orw_ra : ∀ k, (.slice (some ⟨g2, 0, none⟩) nA nA : Value).ownBlock = some k → k < x2.w1.heap.size := fun k hk => (ra.out.lt k hk).2
    go_wp2_with fail
    refine (HP.out _ _ _ ra.out.rec).mono ?_
    rintro e w3 ⟨B3, c3, rfl, S, b⟩
    have rw := Lib.hid (S)
    replace ra := Lib.hid (ra.out.below b)
    obtain ⟨x3, rfl⟩ : ∃ x : Aft W0, w3 = x.w1 := ⟨⟨w3, (held_next x2.below b)⟩, rfl⟩
    clear ra
    have orx_rw : ∀ k, (.slice B3 rn c3 : Value).ownBlock = some k → k < x3.w1.heap.size := fun k hk => (rw.out.lt k hk).2
    go_wp2_with fail
    refine (toChannel_c nmA A nA _ wdA A0 A1 _ nA2 (hA.aft x3)).mono ?_
    rintro e w4 ⟨g4, rfl, F⟩
    have rx := Lib.hid (F.so)
    replace rw := Lib.hid (rw.out.below F.bel)
    obtain ⟨x4, rfl⟩ : ∃ x : Aft W0, w4 = x.w1 := ⟨⟨w4, (held_next x3.below F.bel)⟩, rfl⟩
    clear F
    have ak0_0 : ∀ o, (x4.w1.alloc o).cell? ⟨w.heap.size, 0, none⟩ = some (.string nmA) := fun o => (cell_past (cell_lt (k0_0 x4)) o 0).trans (k0_0 x4)
    have ak0_1 : ∀ o, (x4.w1.alloc o).cell? ⟨w.heap.size, 1, none⟩ = some (.slice A nA capA) := fun o => (cell_past (cell_lt (k0_1 x4)) o 1).trans (k0_1 x4)
    have ak0_2 : ∀ o, (x4.w1.alloc o).cell? ⟨w.heap.size, 2, none⟩ = some (.int .i64 wdA) := fun o => (cell_past (cell_lt (k0_2 x4)) o 2).trans (k0_2 x4)
    go_wp2_with fail
    clear ak0_0 ak0_1 ak0_2
    have obx_rw : ∀ k, (.slice B3 rn c3 : Value).ownBlock = some k → k < x4.w1.heap.size := fun k hk => (rw.out.lt k hk).2
    have obx_rx : ∀ k, (.slice (some ⟨g4, 0, none⟩) nA nA : Value).ownBlock = some k → k < x4.w1.heap.size := fun k hk => (rx.out.lt k hk).2
    generalize hW : x4.w1.alloc (.cells #[.string nmA, .slice (some ⟨g4, 0, none⟩) nA nA, .int .i64 wdA] 32) = w5 at *
    have bb : Below x4.w1.heap.size x4.w1 w5 := hW ▸ (by repeat (first | exact Below.refl _ _ | refine Below.alloc ?_ (by simp; try omega) _ | refine Below.drew ?_))
    have bx : Hid (Holds w5 x4.w1.heap.size [.string nmA, .slice (some ⟨g4, 0, none⟩) nA nA, .int .i64 wdA]) := Lib.hid (hW ▸ Holds.new _ _ _)
    clear hW
    replace rw := Lib.hid (rw.out.below bb)
    replace rx := Lib.hid (rx.out.below bb)
    obtain ⟨x5, rfl⟩ : ∃ x : Aft W0, w5 = x.w1 := ⟨⟨w5, (held_next x4.below bb)⟩, rfl⟩
    clear bb
    have org_rw : ∀ k, (.slice B3 rn c3 : Value).ownBlock = some k → k < x5.w1.heap.size := fun k hk => (rw.out.lt k hk).2
    have org_rx : ∀ k, (.slice (some ⟨g4, 0, none⟩) nA nA : Value).ownBlock = some k → k < x5.w1.heap.size := fun k hk => (rx.out.lt k hk).2
    have org_bx : x4.w1.heap.size < x5.w1.heap.size := bx.out.1
    refine (HI.out _ _ _ rx.out.rec).mono ?_
    rintro e w6 ⟨B6, c6, rfl, S, b⟩
    have rg := Lib.hid (S)
    replace rw := Lib.hid (rw.out.below b)
    replace rx := Lib.hid (rx.out.below b)
    replace bx := Lib.hid (bx.out.below b)
    obtain ⟨x6, rfl⟩ : ∃ x : Aft W0, w6 = x.w1 := ⟨⟨w6, (held_next x5.below b)⟩, rfl⟩
    have lbx_0 : x6.w1.cell? ⟨x4.w1.heap.size, 0, none⟩ = some (.string nmA) := bx.out.2 0 _ rfl
    have lbx_1 : x6.w1.cell? ⟨x4.w1.heap.size, 1, none⟩ = some (.slice (some ⟨g4, 0, none⟩) nA nA) := bx.out.2 1 _ rfl
    have lbx_2 : x6.w1.cell? ⟨x4.w1.heap.size, 2, none⟩ = some (.int .i64 wdA) := bx.out.2 2 _ rfl
    go_wp2_with fail
    clear lbx_0 lbx_1 lbx_2
    refine (eqBuoyS_same _ _ rn _ _ f1 f2 f3 _ hrn rg.out.rec rw.out.rec).mono ?_
    rintro e w7 ⟨rfl, b7⟩
    replace rw := Lib.hid (rw.out.below b7)
    replace rx := Lib.hid (rx.out.below b7)
    replace bx := Lib.hid (bx.out.below b7)
    replace rg := Lib.hid (rg.out.below b7)
    obtain ⟨x7, rfl⟩ : ∃ x : Aft W0, w7 = x.w1 := ⟨⟨w7, (held_next x6.below b7)⟩, rfl⟩
    have lbx_0 : x7.w1.cell? ⟨x4.w1.heap.size, 0, none⟩ = some (.string nmA) := bx.out.2 0 _ rfl
    have lbx_1 : x7.w1.cell? ⟨x4.w1.heap.size, 1, none⟩ = some (.slice (some ⟨g4, 0, none⟩) nA nA) := bx.out.2 1 _ rfl
    have lbx_2 : x7.w1.cell? ⟨x4.w1.heap.size, 2, none⟩ = some (.int .i64 wdA) := bx.out.2 2 _ rfl
    go_wp2_with fail
    have tk0_0 := k0_0 x7
    have tk0_1 := k0_1 x7
    have tk0_2 := k0_2 x7
    go_region_held3 (fun w' => w'.cell? ⟨x4.w1.heap.size, 0, none⟩ = some (.string nmA) ∧ w'.cell? ⟨x4.w1.heap.size, 1, none⟩ = some (.slice (some ⟨g4, 0, none⟩) nA nA) ∧ w'.cell? ⟨x4.w1.heap.size, 2, none⟩ = some (.int .i64 wdA) ∧ w'.cell? ⟨w.heap.size, 0, none⟩ = some (.string nmA) ∧ w'.cell? ⟨w.heap.size, 1, none⟩ = some (.slice A nA capA) ∧ w'.cell? ⟨w.heap.size, 2, none⟩ = some (.int .i64 wdA))
      (first | go_keep | exact ⟨v0, v1, v2, vk0_0, vk0_1, vk0_2⟩)
      (first
        | (go_at_call_of 12 nmA; refine (toChannel_c nmA A nA _ wdA A0 A1 _ nA2 (hA.below x7.below.drew)).mono ?_; rintro e u8 ⟨g8, rfl, F⟩; have hr8 := F.rec; have bb : Below x7.w1.heap.size x7.w1 u8 := held_next (Below.refl _ _).drew F.bel; obtain ⟨y8, rfl⟩ : ∃ x : Aft W0, u8 = x.w1 := ⟨⟨u8, held_next x7.below bb⟩, rfl⟩; clear F; have v0 : y8.w1.cell? ⟨x4.w1.heap.size, 0, none⟩ = some (.string nmA) := (bx.out.below bb).2 0 _ rfl; have v1 : y8.w1.cell? ⟨x4.w1.heap.size, 1, none⟩ = some (.slice (some ⟨g4, 0, none⟩) nA nA) := (bx.out.below bb).2 1 _ rfl; have v2 : y8.w1.cell? ⟨x4.w1.heap.size, 2, none⟩ = some (.int .i64 wdA) := (bx.out.below bb).2 2 _ rfl; have vk0_0 := k0_0 y8; have vk0_1 := k0_1 y8; have vk0_2 := k0_2 y8)
        | (go_at_call 15; refine (eqChannel_same nmA _ _ nA _ _ wdA A0 A1 _ nA2 (rx.out.below bb).rec hr8).mono ?_; rintro e u8 ⟨rfl, b8⟩; have bb := held_next bb b8; obtain ⟨y8, rfl⟩ : ∃ x : Aft W0, u8 = x.w1 := ⟨⟨u8, held_next y8.below b8⟩, rfl⟩; have v0 : y8.w1.cell? ⟨x4.w1.heap.size, 0, none⟩ = some (.string nmA) := (bx.out.below bb).2 0 _ rfl; have v1 : y8.w1.cell? ⟨x4.w1.heap.size, 1, none⟩ = some (.slice (some ⟨g4, 0, none⟩) nA nA) := (bx.out.below bb).2 1 _ rfl; have v2 : y8.w1.cell? ⟨x4.w1.heap.size, 2, none⟩ = some (.int .i64 wdA) := (bx.out.below bb).2 2 _ rfl; have vk0_0 := k0_0 y8; have vk0_1 := k0_1 y8; have vk0_2 := k0_2 y8))
    clear tk0_0 tk0_1 tk0_2 lbx_0 lbx_1 lbx_2
    clear v0 v1 v2 vk0_0 vk0_1 vk0_2
    replace rw := Lib.hid (rw.out.below bb)
    replace rx := Lib.hid (rx.out.below bb)
    replace bx := Lib.hid (bx.out.below bb)
    replace rg := Lib.hid (rg.out.below bb)
    clear bb
    have lbx_0 : y8.w1.cell? ⟨x4.w1.heap.size, 0, none⟩ = some (.string nmA) := bx.out.2 0 _ rfl
    have lbx_1 : y8.w1.cell? ⟨x4.w1.heap.size, 1, none⟩ = some (.slice (some ⟨g4, 0, none⟩) nA nA) := bx.out.2 1 _ rfl
    have lbx_2 : y8.w1.cell? ⟨x4.w1.heap.size, 2, none⟩ = some (.int .i64 wdA) := bx.out.2 2 _ rfl
    go_wp2_with fail
    clear lbx_0 lbx_1 lbx_2
    refine (markChannel_c nmA _ nA _ wdA 1 _ _ _ nA2 (by omega) (by omega) rx.out).mono ?_
    rintro e w9 ⟨rfl, b9, S9⟩
    replace rw := Lib.hid (rw.out.far b9 (rows_apart orx_rw (fun k hk => (rx.out.lt k hk).1)))
    replace bx := Lib.hid (bx.out.far b9 (fun e => by have h1 := obx_rx _ e; omega))
    replace rg := Lib.hid (rg.out.far b9 (rows_apart2 org_rx (fun k hk => (rg.out.lt k hk).1)))
    have hb9 : Below W0.heap.size W0 w9 := grown_below y8.below b9 (fun k hk => Nat.le_trans x3.below.size (rx.out.lt k hk).1)
    replace rx := Lib.hid S9
    clear S9
    obtain ⟨x9, rfl⟩ : ∃ x : Aft W0, w9 = x.w1 := ⟨⟨w9, hb9⟩, rfl⟩
    have lbx_0 : x9.w1.cell? ⟨x4.w1.heap.size, 0, none⟩ = some (.string nmA) := bx.out.2 0 _ rfl
    have lbx_1 : x9.w1.cell? ⟨x4.w1.heap.size, 1, none⟩ = some (.slice (some ⟨g4, 0, none⟩) nA nA) := bx.out.2 1 _ rfl
    have lbx_2 : x9.w1.cell? ⟨x4.w1.heap.size, 2, none⟩ = some (.int .i64 wdA) := bx.out.2 2 _ rfl
    go_wp2_with fail
    clear lbx_0 lbx_1 lbx_2
    refine (eqBuoyS_same _ _ rn _ _ f1 f2 f3 _ hrn rg.out.rec rw.out.rec).mono ?_
    rintro e w10 ⟨rfl, b10⟩
    replace rw := Lib.hid (rw.out.below b10)
    replace rx := Lib.hid (rx.out.below b10)
    replace bx := Lib.hid (bx.out.below b10)
    replace rg := Lib.hid (rg.out.below b10)
    obtain ⟨x10, rfl⟩ : ∃ x : Aft W0, w10 = x.w1 := ⟨⟨w10, (held_next x9.below b10)⟩, rfl⟩
    have lbx_0 : x10.w1.cell? ⟨x4.w1.heap.size, 0, none⟩ = some (.string nmA) := bx.out.2 0 _ rfl
    have lbx_1 : x10.w1.cell? ⟨x4.w1.heap.size, 1, none⟩ = some (.slice (some ⟨g4, 0, none⟩) nA nA) := bx.out.2 1 _ rfl
    have lbx_2 : x10.w1.cell? ⟨x4.w1.heap.size, 2, none⟩ = some (.int .i64 wdA) := bx.out.2 2 _ rfl
    go_wp2_with fail
    clear lbx_0 lbx_1 lbx_2
    refine (markBuoyS_c _ rn _ 1 _ _ _ hrn (by omega) (by omega) rg.out).mono ?_
    rintro e w11 ⟨rfl, b11, S11⟩
    replace rw := Lib.hid (rw.out.far b11 (rows_apart org_rw (fun k hk => (rg.out.lt k hk).1)))
    replace rx := Lib.hid (rx.out.far b11 (rows_apart org_rx (fun k hk => (rg.out.lt k hk).1)))
    replace bx := Lib.hid (bx.out.far b11 (fun e => by have h1 := (rg.out.lt _ e).1; have h2 := org_bx; omega))
    have hb11 : Below W0.heap.size W0 w11 := grown_below x10.below b11 (fun k hk => Nat.le_trans x5.below.size (rg.out.lt k hk).1)
    replace rg := Lib.hid S11
    clear S11
    obtain ⟨x11, rfl⟩ : ∃ x : Aft W0, w11 = x.w1 := ⟨⟨w11, hb11⟩, rfl⟩
    have lbx_0 : x11.w1.cell? ⟨x4.w1.heap.size, 0, none⟩ = some (.string nmA) := bx.out.2 0 _ rfl
    have lbx_1 : x11.w1.cell? ⟨x4.w1.heap.size, 1, none⟩ = some (.slice (some ⟨g4, 0, none⟩) nA nA) := bx.out.2 1 _ rfl
    have lbx_2 : x11.w1.cell? ⟨x4.w1.heap.size, 2, none⟩ = some (.int .i64 wdA) := bx.out.2 2 _ rfl
    go_wp2_with fail
    clear lbx_0 lbx_1 lbx_2
    refine (heldBuoy_c _ rn _ 1 _ hrn (by omega) (by omega) rg.out.rec).mono ?_
    rintro e w12 ⟨rfl, b12⟩
    replace rw := Lib.hid (rw.out.below b12)
    replace rx := Lib.hid (rx.out.below b12)
    replace bx := Lib.hid (bx.out.below b12)
    replace rg := Lib.hid (rg.out.below b12)
    obtain ⟨x12, rfl⟩ : ∃ x : Aft W0, w12 = x.w1 := ⟨⟨w12, (held_next x11.below b12)⟩, rfl⟩
    have ory_rw : ∀ k, (.slice B3 rn c3 : Value).ownBlock = some k → k < x12.w1.heap.size := fun k hk => (rw.out.lt k hk).2
    have ory_rx : ∀ k, (.slice (some ⟨g4, 0, none⟩) nA nA : Value).ownBlock = some k → k < x12.w1.heap.size := fun k hk => (rx.out.lt k hk).2
    have ory_bx : x4.w1.heap.size < x12.w1.heap.size := bx.out.1
    have ory_rg : ∀ k, (.slice B6 rn c6 : Value).ownBlock = some k → k < x12.w1.heap.size := fun k hk => (rg.out.lt k hk).2
    have lbx_0 : x12.w1.cell? ⟨x4.w1.heap.size, 0, none⟩ = some (.string nmA) := bx.out.2 0 _ rfl
    have lbx_1 : x12.w1.cell? ⟨x4.w1.heap.size, 1, none⟩ = some (.slice (some ⟨g4, 0, none⟩) nA nA) := bx.out.2 1 _ rfl
    have lbx_2 : x12.w1.cell? ⟨x4.w1.heap.size, 2, none⟩ = some (.int .i64 wdA) := bx.out.2 2 _ rfl
    go_wp2_with fail
    clear lbx_0 lbx_1 lbx_2
    refine (toChannel_c nmA A nA _ wdA A0 A1 _ nA2 (hA.aft x12)).mono ?_
    rintro e w13 ⟨g13, rfl, F⟩
    have ry := Lib.hid (F.so)
    replace rw := Lib.hid (rw.out.below F.bel)
    replace rx := Lib.hid (rx.out.below F.bel)
    replace bx := Lib.hid (bx.out.below F.bel)
    replace rg := Lib.hid (rg.out.below F.bel)
    obtain ⟨x13, rfl⟩ : ∃ x : Aft W0, w13 = x.w1 := ⟨⟨w13, (held_next x12.below F.bel)⟩, rfl⟩
    clear F
    have orh_rw : ∀ k, (.slice B3 rn c3 : Value).ownBlock = some k → k < x13.w1.heap.size := fun k hk => (rw.out.lt k hk).2
    have orh_rx : ∀ k, (.slice (some ⟨g4, 0, none⟩) nA nA : Value).ownBlock = some k → k < x13.w1.heap.size := fun k hk => (rx.out.lt k hk).2
    have orh_bx : x4.w1.heap.size < x13.w1.heap.size := bx.out.1
    have orh_rg : ∀ k, (.slice B6 rn c6 : Value).ownBlock = some k → k < x13.w1.heap.size := fun k hk => (rg.out.lt k hk).2
    have orh_ry : ∀ k, (.slice (some ⟨g13, 0, none⟩) nA nA : Value).ownBlock = some k → k < x13.w1.heap.size := fun k hk => (ry.out.lt k hk).2
    have lbx_0 : x13.w1.cell? ⟨x4.w1.heap.size, 0, none⟩ = some (.string nmA) := bx.out.2 0 _ rfl
    have lbx_1 : x13.w1.cell? ⟨x4.w1.heap.size, 1, none⟩ = some (.slice (some ⟨g4, 0, none⟩) nA nA) := bx.out.2 1 _ rfl
    have lbx_2 : x13.w1.cell? ⟨x4.w1.heap.size, 2, none⟩ = some (.int .i64 wdA) := bx.out.2 2 _ rfl
    go_wp2_with fail
    clear lbx_0 lbx_1 lbx_2
    refine (HI.out _ _ _ ry.out.rec).mono ?_
    rintro e w14 ⟨B14, c14, rfl, S, b⟩
    have rh := Lib.hid (S)
    replace rw := Lib.hid (rw.out.below b)
    replace rx := Lib.hid (rx.out.below b)
    replace bx := Lib.hid (bx.out.below b)
    replace rg := Lib.hid (rg.out.below b)
    replace ry := Lib.hid (ry.out.below b)
    obtain ⟨x14, rfl⟩ : ∃ x : Aft W0, w14 = x.w1 := ⟨⟨w14, (held_next x13.below b)⟩, rfl⟩
    have lbx_0 : x14.w1.cell? ⟨x4.w1.heap.size, 0, none⟩ = some (.string nmA) := bx.out.2 0 _ rfl
    have lbx_1 : x14.w1.cell? ⟨x4.w1.heap.size, 1, none⟩ = some (.slice (some ⟨g4, 0, none⟩) nA nA) := bx.out.2 1 _ rfl
    have lbx_2 : x14.w1.cell? ⟨x4.w1.heap.size, 2, none⟩ = some (.int .i64 wdA) := bx.out.2 2 _ rfl
    go_wp2_with fail
    clear lbx_0 lbx_1 lbx_2
    refine (eqBuoyS_same _ _ rn _ _ f1 f2 f3 _ hrn rh.out.rec rw.out.rec).mono ?_
    rintro e w15 ⟨rfl, b15⟩
    replace rw := Lib.hid (rw.out.below b15)
    replace rx := Lib.hid (rx.out.below b15)
    replace bx := Lib.hid (bx.out.below b15)
    replace rg := Lib.hid (rg.out.below b15)
    replace ry := Lib.hid (ry.out.below b15)
    replace rh := Lib.hid (rh.out.below b15)
    obtain ⟨x15, rfl⟩ : ∃ x : Aft W0, w15 = x.w1 := ⟨⟨w15, (held_next x14.below b15)⟩, rfl⟩
    have lbx_0 : x15.w1.cell? ⟨x4.w1.heap.size, 0, none⟩ = some (.string nmA) := bx.out.2 0 _ rfl
    have lbx_1 : x15.w1.cell? ⟨x4.w1.heap.size, 1, none⟩ = some (.slice (some ⟨g4, 0, none⟩) nA nA) := bx.out.2 1 _ rfl
    have lbx_2 : x15.w1.cell? ⟨x4.w1.heap.size, 2, none⟩ = some (.int .i64 wdA) := bx.out.2 2 _ rfl
    go_wp2_with fail
    clear lbx_0 lbx_1 lbx_2
    refine (heldBuoy_c _ rn _ 1 _ hrn (by omega) (by omega) rg.out.rec).mono ?_
    rintro e w16 ⟨rfl, b16⟩
    replace rw := Lib.hid (rw.out.below b16)
    replace rx := Lib.hid (rx.out.below b16)
    replace bx := Lib.hid (bx.out.below b16)
    replace rg := Lib.hid (rg.out.below b16)
    replace ry := Lib.hid (ry.out.below b16)
    replace rh := Lib.hid (rh.out.below b16)
    obtain ⟨x16, rfl⟩ : ∃ x : Aft W0, w16 = x.w1 := ⟨⟨w16, (held_next x15.below b16)⟩, rfl⟩
    have lbx_0 : x16.w1.cell? ⟨x4.w1.heap.size, 0, none⟩ = some (.string nmA) := bx.out.2 0 _ rfl
    have lbx_1 : x16.w1.cell? ⟨x4.w1.heap.size, 1, none⟩ = some (.slice (some ⟨g4, 0, none⟩) nA nA) := bx.out.2 1 _ rfl
    have lbx_2 : x16.w1.cell? ⟨x4.w1.heap.size, 2, none⟩ = some (.int .i64 wdA) := bx.out.2 2 _ rfl
    go_wp2
    go_ret
    exact ⟨rfl, held_next hb0 x16.below⟩
namespace fnExactBuoysForDone
open Go.ChangeShapes Go.WideShapes Go.ChangeAt Go.RowKit Go.Joins
open Go.ChangeMaps (open_string shut_string)
theorem arr3 {cs : Array Value} (h : cs.size = 3) : ∃ c0 c1 c2, cs = #[c0, c1, c2] := by
  obtain ⟨l⟩ := cs
  match l, h with
  | [c0, c1, c2], _ => exact ⟨c0, c1, c2, rfl⟩
set_option maxRecDepth 100000 in
theorem lifted (os : Os) (started : os.Started) (H : Type) (enc : TypeId × Value → H) :
    ReturnsInHanded {} Try.checked os 7 .any (Rows.fnExactBuoysForSpec.pre6 enc Try.prog Try.f7 Rows.fnExactBuoysForRow.domain false) (Rows.fnExactBuoysForSpec.post enc Try.prog Try.f7 false true false false) := by
  refine returnsInHanded_of_change (C := Try.checked) lawOwn started (by kernel_rfl) Try.func7
    (ChangeSpec.witness6 (enc := enc) (C := Try.checked) false ⟨#[], #[.agg #[.string ByteArray.empty, .slice none 0 0, .int .i64 0], .int .i64 0], []⟩ 8 (by kernel_rfl) (by kernel_rfl) (by kernel_rfl) (by kernel_rfl)) ?_
  intro W base args ds gs before hval0 hW hcnd _
  have hval : ∀ (j : Nat) t v, Try.f7.params[j]? = some t → args[j]? = some v → Value.okWide Try.prog W .any base t v := hval0
  have hW' := hW
  obtain ⟨p, q, hA0, hV, rfl, hfz, hnd⟩ := hW
  have hA : DataW.TrodAll enc Try.prog W 0 (fun _ => true) true Try.f7.params.toList args.toList ds p := hA0
  rw [Try.params7] at hA hval
  obtain ⟨v0, vs0, d0, ds0, p0, q0, hargs, rfl, rfl, h0, r0⟩ := trodAll_cons hA
  obtain ⟨v1, vs1, d1, ds1, p1, q1, rfl, rfl, rfl, h1, r1⟩ := trodAll_cons r0
  obtain ⟨rfl, rfl, rfl⟩ := trodAll_nil r1
  obtain rfl : args = #[v0, v1] := by cases args; simp_all
  obtain ⟨rfl, rfl⟩ := trodVars_none hV
  have k0 := h0
  have lt0 : ∀ x ∈ p0, x.block < W.heap.size := by obtain ⟨m, hm⟩ := k0; exact DataW.trod_lt m _ _ _ hm
  have k1 := h1
  have lt1 : ∀ x ∈ p1, x.block < W.heap.size := by obtain ⟨m, hm⟩ := k1; exact DataW.trod_lt m _ _ _ hm
  suffices hwalk : Calls Try.prog 7 #[v0, v1] W fun e w' => e = .returned (.bool true) ∧ Below W.heap.size W w' by
    refine hwalk.mono fun e W' ⟨he, bel⟩ => ?_
    subst he
    exact ⟨_, rfl, _, _, _, [], _, [], hW', trodAll_mk1 (shut_bool Try.underlying4 _), (trodAll_cons_mk (Below.trod lawLaid (by kernel_rfl) (of_decide_eq_true (by kernel_rfl)) k0 bel lt0) (trodAll_cons_mk (Below.trod lawLaid (by kernel_rfl) (of_decide_eq_true (by kernel_rfl)) k1 bel lt1) trodAll_mk0)), rfl, bel.frame _, fun h => by cases h⟩
  clear hA0 hval0
  obtain ⟨cs0, rfl, hz0⟩ := okWide_struct Try.underlying24 (hval 0 24 v0 rfl rfl)
  have hq0 := agg_leaves (ks := [1, 24, 0]) 6 (by kernel_rfl) (by kernel_rfl) h0
  obtain ⟨c0_0, c0_1, c0_2, rfl⟩ := arr3 (hz0.trans (by kernel_rfl))
  obtain ⟨u0_0, e0_0, l0_0⟩ := hq0 0 _ rfl
  obtain rfl : c0_0 = u0_0 := Option.some.inj e0_0
  obtain ⟨a0_0, rfl, w0_0⟩ := l0_0.1.2 rfl
  obtain ⟨u0_1, e0_1, l0_1⟩ := hq0 1 _ rfl
  obtain rfl : c0_1 = u0_1 := Option.some.inj e0_1
  obtain ⟨a0_1, len0_1, cap0_1, rfl, w0_1, g0_1⟩ := l0_1.2 22 rfl
  have r0_1 := g0_1 37 [0, 0] Try.underlying22 (by kernel_rfl) (by kernel_rfl) (by decide)
  obtain ⟨u0_2, e0_2, l0_2⟩ := hq0 2 _ rfl
  obtain rfl : c0_2 = u0_2 := Option.some.inj e0_2
  obtain ⟨a0_2, rfl, w0_2⟩ := l0_2.1.1 rfl
  obtain ⟨a1, rfl, rfl, rfl, w1⟩ := open_int Try.underlying2 (hval 1 2 v1 rfl rfl) h1
  exact fnExactBuoysFor_walk (w := W) a0_0 w0_0 a0_1 len0_1 cap0_1 w0_1 r0_1 a0_2 w0_2 a1 w1

theorem over : Rows.fnExactBuoysForRow.holds Try.pinned (OpenSpec.ofChange Rows.fnExactBuoysForSpec) :=
  OpenClaim.holds_of_wide 7 Try.f7 rfl rfl rfl rfl rfl rfl rfl ⟨rfl, rfl, rfl, rfl, rfl⟩ rfl rfl rfl rfl rfl (by kernel_rfl) Try.func7 (by kernel_rfl)
    (of_decide_eq_true (by kernel_rfl)) (by unfold Func.isWrapper; first | (rw [if_pos (by decide +kernel)]; kernel_rfl) | (rw [if_neg (by decide +kernel)]; exact ⟨rfl, rfl⟩))
    (fun os started H enc _ => lifted os started H enc)

theorem proved : Rows.FnExactBuoysForSaid := over
#print axioms proved
end fnExactBuoysForDone
end Go.Proofs.Ytimfpnmcdicldaa
