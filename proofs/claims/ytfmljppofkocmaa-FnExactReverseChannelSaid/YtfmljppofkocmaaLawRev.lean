/- The program's ReverseChannel answers as the reference's, for all arguments, and keeps nothing of what it hands out. -/
import Derived.Test.YtfmljppofkocmaaRevC
import Derived.Deep.RegionHeld3
namespace Go.Proofs.Ytfmljppofkocmaa
open Go Go.RowKit
set_option maxRecDepth 100000 in
set_option maxHeartbeats 8000000 in
theorem fnExactReverseChannel_walk {w : World} (nmA : ByteArray) (hsA : nmA.size ≤ maxLen) (A : Option Addr) (nA capA : Nat) (hnA : nA ≤ maxLen) (hrA : Rows0 [0, 0] w A nA) (wdA : Int) (_wwA : (Lit.int .i64 wdA).wf = true) :
    Calls Try.prog 13 #[.agg #[.string nmA, .slice A nA capA, .int .i64 wdA]] w fun e w' => e = .returned (.bool true) ∧ Below w.heap.size w w' := by
  obtain ⟨A0, A1, hA, hwA⟩ := rowsPoint hrA
  clear hrA
  have hA := hA.below (w' := (w.alloc (.cells #[.string nmA, .slice A nA capA, .int .i64 wdA] 42))) (by repeat (first | exact Below.refl _ _ | refine Below.alloc ?_ (by simp; try omega) _ | refine Below.drew ?_))
  have k0_0 : ∀ y : Aft (w.alloc (.cells #[.string nmA, .slice A nA capA, .int .i64 wdA] 42)), y.w1.cell? ⟨w.heap.size, 0, none⟩ = some (.string nmA) := fun y => y.cell (by simp; try omega) (by simp [go_sem])
  have k0_1 : ∀ y : Aft (w.alloc (.cells #[.string nmA, .slice A nA capA, .int .i64 wdA] 42)), y.w1.cell? ⟨w.heap.size, 1, none⟩ = some (.slice A nA capA) := fun y => y.cell (by simp; try omega) (by simp [go_sem])
  have k0_2 : ∀ y : Aft (w.alloc (.cells #[.string nmA, .slice A nA capA, .int .i64 wdA] 42)), y.w1.cell? ⟨w.heap.size, 2, none⟩ = some (.int .i64 wdA) := fun y => y.cell (by simp; try omega) (by simp [go_sem])
  go_enter Try.func13, Try.ntmps13
  go_wp2_with fail
  generalize hW : (w.alloc (.cells #[.string nmA, .slice A nA capA, .int .i64 wdA] 42)) = W0 at *
  have hb0 : Below w.heap.size w W0 := hW ▸ (by repeat (first | exact Below.refl _ _ | refine Below.alloc ?_ (by simp; try omega) _ | refine Below.drew ?_))
  clear hW
  refine (szChannel_c nmA A nA _ wdA _ hsA hnA (by omega) (by omega) _).mono ?_
  rintro e w1 ⟨rfl | ⟨r, r0, r1, rfl⟩, b1⟩
  · go_wp2
    go_ret
    exact ⟨rfl, held_next hb0 b1⟩
  · skip
    obtain ⟨x1, rfl⟩ : ∃ x : Aft W0, w1 = x.w1 := ⟨⟨w1, b1⟩, rfl⟩
    have nA2 : nA ≤ 1048576 := by omega
    clear r1
    obtain ⟨nm, rn, wd, code, X, Y, hrn, HP, HI⟩ := rev_same nmA nA wdA A0 A1 hsA nA2
    have HP := Lib.hid HP
    have HI := Lib.hid HI
    go_wp2_with fail
    refine (toChannel_c nmA A nA _ wdA A0 A1 _ nA2 (hA.aft x1)).mono ?_
    rintro e w2 ⟨g2, rfl, F⟩
    have ra := Lib.hid (F.so)
    obtain ⟨x2, rfl⟩ : ∃ x : Aft W0, w2 = x.w1 := ⟨⟨w2, (held_next x1.below F.bel)⟩, rfl⟩
    clear F
    have orw_ra : ∀ k, (.slice (some ⟨g2, 0, none⟩) nA nA : Value).ownBlock = some k → k < x2.w1.heap.size := fun k hk => (ra.out.lt k hk).2
    go_wp2_with fail
    refine (HP.out _ _ _ ra.out.rec).mono ?_
    rintro e w3 ⟨B3, c3, rfl, S, b⟩
    have rw := Lib.hid (S)
    replace ra := Lib.hid (ra.out.below b)
    obtain ⟨x3, rfl⟩ : ∃ x : Aft W0, w3 = x.w1 := ⟨⟨w3, (held_next x2.below b)⟩, rfl⟩
    clear ra
    have ak0_0 : ∀ o, (x3.w1.alloc o).cell? ⟨w.heap.size, 0, none⟩ = some (.string nmA) := fun o => (cell_past (cell_lt (k0_0 x3)) o 0).trans (k0_0 x3)
    have ak0_1 : ∀ o, (x3.w1.alloc o).cell? ⟨w.heap.size, 1, none⟩ = some (.slice A nA capA) := fun o => (cell_past (cell_lt (k0_1 x3)) o 1).trans (k0_1 x3)
    have ak0_2 : ∀ o, (x3.w1.alloc o).cell? ⟨w.heap.size, 2, none⟩ = some (.int .i64 wdA) := fun o => (cell_past (cell_lt (k0_2 x3)) o 2).trans (k0_2 x3)
    go_wp2_with fail
    clear ak0_0 ak0_1 ak0_2
    have obw_rw : ∀ k, (.slice B3 rn c3 : Value).ownBlock = some k → k < x3.w1.heap.size := fun k hk => (rw.out.lt k hk).2
    generalize hW : x3.w1.alloc (.cells #[.string nm, .slice B3 rn c3, .int .i64 wd] 47) = w4 at *
    have bb : Below x3.w1.heap.size x3.w1 w4 := hW ▸ (by repeat (first | exact Below.refl _ _ | refine Below.alloc ?_ (by simp; try omega) _ | refine Below.drew ?_))
    have bw : Hid (Holds w4 x3.w1.heap.size [.string nm, .slice B3 rn c3, .int .i64 wd]) := Lib.hid (hW ▸ Holds.new _ _ _)
    clear hW
    replace rw := Lib.hid (rw.out.below bb)
    obtain ⟨x4, rfl⟩ : ∃ x : Aft W0, w4 = x.w1 := ⟨⟨w4, (held_next x3.below bb)⟩, rfl⟩
    clear bb
    have orx_rw : ∀ k, (.slice B3 rn c3 : Value).ownBlock = some k → k < x4.w1.heap.size := fun k hk => (rw.out.lt k hk).2
    have orx_bw : x3.w1.heap.size < x4.w1.heap.size := bw.out.1
    refine (toChannel_c nmA A nA _ wdA A0 A1 _ nA2 (hA.aft x4)).mono ?_
    rintro e w5 ⟨g5, rfl, F⟩
    have rx := Lib.hid (F.so)
    replace rw := Lib.hid (rw.out.below F.bel)
    replace bw := Lib.hid (bw.out.below F.bel)
    obtain ⟨x5, rfl⟩ : ∃ x : Aft W0, w5 = x.w1 := ⟨⟨w5, (held_next x4.below F.bel)⟩, rfl⟩
    clear F
    have ak0_0 : ∀ o, (x5.w1.alloc o).cell? ⟨w.heap.size, 0, none⟩ = some (.string nmA) := fun o => (cell_past (cell_lt (k0_0 x5)) o 0).trans (k0_0 x5)
    have ak0_1 : ∀ o, (x5.w1.alloc o).cell? ⟨w.heap.size, 1, none⟩ = some (.slice A nA capA) := fun o => (cell_past (cell_lt (k0_1 x5)) o 1).trans (k0_1 x5)
    have ak0_2 : ∀ o, (x5.w1.alloc o).cell? ⟨w.heap.size, 2, none⟩ = some (.int .i64 wdA) := fun o => (cell_past (cell_lt (k0_2 x5)) o 2).trans (k0_2 x5)
    have abw_0 : ∀ o, (x5.w1.alloc o).cell? ⟨x3.w1.heap.size, 0, none⟩ = some (.string nm) := fun o => (cell_past bw.out.1 o 0).trans (bw.out.2 0 _ rfl)
    have abw_1 : ∀ o, (x5.w1.alloc o).cell? ⟨x3.w1.heap.size, 1, none⟩ = some (.slice B3 rn c3) := fun o => (cell_past bw.out.1 o 1).trans (bw.out.2 1 _ rfl)
    have abw_2 : ∀ o, (x5.w1.alloc o).cell? ⟨x3.w1.heap.size, 2, none⟩ = some (.int .i64 wd) := fun o => (cell_past bw.out.1 o 2).trans (bw.out.2 2 _ rfl)
    have lbw_0 : x5.w1.cell? ⟨x3.w1.heap.size, 0, none⟩ = some (.string nm) := bw.out.2 0 _ rfl
    have lbw_1 : x5.w1.cell? ⟨x3.w1.heap.size, 1, none⟩ = some (.slice B3 rn c3) := bw.out.2 1 _ rfl
    have lbw_2 : x5.w1.cell? ⟨x3.w1.heap.size, 2, none⟩ = some (.int .i64 wd) := bw.out.2 2 _ rfl
    go_wp2_with fail
    clear lbw_0 lbw_1 lbw_2
    clear ak0_0 ak0_1 ak0_2 abw_0 abw_1 abw_2
    have obx_rw : ∀ k, (.slice B3 rn c3 : Value).ownBlock = some k → k < x5.w1.heap.size := fun k hk => (rw.out.lt k hk).2
    have obx_rx : ∀ k, (.slice (some ⟨g5, 0, none⟩) nA nA : Value).ownBlock = some k → k < x5.w1.heap.size := fun k hk => (rx.out.lt k hk).2
    generalize hW : x5.w1.alloc (.cells #[.string nmA, .slice (some ⟨g5, 0, none⟩) nA nA, .int .i64 wdA] 47) = w6 at *
    have bb : Below x5.w1.heap.size x5.w1 w6 := hW ▸ (by repeat (first | exact Below.refl _ _ | refine Below.alloc ?_ (by simp; try omega) _ | refine Below.drew ?_))
    have bx : Hid (Holds w6 x5.w1.heap.size [.string nmA, .slice (some ⟨g5, 0, none⟩) nA nA, .int .i64 wdA]) := Lib.hid (hW ▸ Holds.new _ _ _)
    clear hW
    replace rw := Lib.hid (rw.out.below bb)
    replace bw := Lib.hid (bw.out.below bb)
    replace rx := Lib.hid (rx.out.below bb)
    obtain ⟨x6, rfl⟩ : ∃ x : Aft W0, w6 = x.w1 := ⟨⟨w6, (held_next x5.below bb)⟩, rfl⟩
    clear bb
    have org_rw : ∀ k, (.slice B3 rn c3 : Value).ownBlock = some k → k < x6.w1.heap.size := fun k hk => (rw.out.lt k hk).2
    have org_bw : x3.w1.heap.size < x6.w1.heap.size := bw.out.1
    have org_rx : ∀ k, (.slice (some ⟨g5, 0, none⟩) nA nA : Value).ownBlock = some k → k < x6.w1.heap.size := fun k hk => (rx.out.lt k hk).2
    have org_bx : x5.w1.heap.size < x6.w1.heap.size := bx.out.1
    refine (HI.out _ _ _ rx.out.rec).mono ?_
    rintro e w7 ⟨B7, c7, rfl, S, b⟩
    have rg := Lib.hid (S)
    replace rw := Lib.hid (rw.out.below b)
    replace bw := Lib.hid (bw.out.below b)
    replace rx := Lib.hid (rx.out.below b)
    replace bx := Lib.hid (bx.out.below b)
    obtain ⟨x7, rfl⟩ : ∃ x : Aft W0, w7 = x.w1 := ⟨⟨w7, (held_next x6.below b)⟩, rfl⟩
    have ak0_0 : ∀ o, (x7.w1.alloc o).cell? ⟨w.heap.size, 0, none⟩ = some (.string nmA) := fun o => (cell_past (cell_lt (k0_0 x7)) o 0).trans (k0_0 x7)
    have ak0_1 : ∀ o, (x7.w1.alloc o).cell? ⟨w.heap.size, 1, none⟩ = some (.slice A nA capA) := fun o => (cell_past (cell_lt (k0_1 x7)) o 1).trans (k0_1 x7)
    have ak0_2 : ∀ o, (x7.w1.alloc o).cell? ⟨w.heap.size, 2, none⟩ = some (.int .i64 wdA) := fun o => (cell_past (cell_lt (k0_2 x7)) o 2).trans (k0_2 x7)
    have abw_0 : ∀ o, (x7.w1.alloc o).cell? ⟨x3.w1.heap.size, 0, none⟩ = some (.string nm) := fun o => (cell_past bw.out.1 o 0).trans (bw.out.2 0 _ rfl)
    have abw_1 : ∀ o, (x7.w1.alloc o).cell? ⟨x3.w1.heap.size, 1, none⟩ = some (.slice B3 rn c3) := fun o => (cell_past bw.out.1 o 1).trans (bw.out.2 1 _ rfl)
    have abw_2 : ∀ o, (x7.w1.alloc o).cell? ⟨x3.w1.heap.size, 2, none⟩ = some (.int .i64 wd) := fun o => (cell_past bw.out.1 o 2).trans (bw.out.2 2 _ rfl)
    have abx_0 : ∀ o, (x7.w1.alloc o).cell? ⟨x5.w1.heap.size, 0, none⟩ = some (.string nmA) := fun o => (cell_past bx.out.1 o 0).trans (bx.out.2 0 _ rfl)
    have abx_1 : ∀ o, (x7.w1.alloc o).cell? ⟨x5.w1.heap.size, 1, none⟩ = some (.slice (some ⟨g5, 0, none⟩) nA nA) := fun o => (cell_past bx.out.1 o 1).trans (bx.out.2 1 _ rfl)
    have abx_2 : ∀ o, (x7.w1.alloc o).cell? ⟨x5.w1.heap.size, 2, none⟩ = some (.int .i64 wdA) := fun o => (cell_past bx.out.1 o 2).trans (bx.out.2 2 _ rfl)
    have lbw_0 : x7.w1.cell? ⟨x3.w1.heap.size, 0, none⟩ = some (.string nm) := bw.out.2 0 _ rfl
    have lbw_1 : x7.w1.cell? ⟨x3.w1.heap.size, 1, none⟩ = some (.slice B3 rn c3) := bw.out.2 1 _ rfl
    have lbw_2 : x7.w1.cell? ⟨x3.w1.heap.size, 2, none⟩ = some (.int .i64 wd) := bw.out.2 2 _ rfl
    have lbx_0 : x7.w1.cell? ⟨x5.w1.heap.size, 0, none⟩ = some (.string nmA) := bx.out.2 0 _ rfl
    have lbx_1 : x7.w1.cell? ⟨x5.w1.heap.size, 1, none⟩ = some (.slice (some ⟨g5, 0, none⟩) nA nA) := bx.out.2 1 _ rfl
    have lbx_2 : x7.w1.cell? ⟨x5.w1.heap.size, 2, none⟩ = some (.int .i64 wdA) := bx.out.2 2 _ rfl
    go_wp2_with fail
    clear lbw_0 lbw_1 lbw_2 lbx_0 lbx_1 lbx_2
    clear ak0_0 ak0_1 ak0_2 abw_0 abw_1 abw_2 abx_0 abx_1 abx_2
    have obg_rw : ∀ k, (.slice B3 rn c3 : Value).ownBlock = some k → k < x7.w1.heap.size := fun k hk => (rw.out.lt k hk).2
    have obg_rx : ∀ k, (.slice (some ⟨g5, 0, none⟩) nA nA : Value).ownBlock = some k → k < x7.w1.heap.size := fun k hk => (rx.out.lt k hk).2
    have obg_rg : ∀ k, (.slice B7 rn c7 : Value).ownBlock = some k → k < x7.w1.heap.size := fun k hk => (rg.out.lt k hk).2
    generalize hW : x7.w1.alloc (.cells #[.string nm, .slice B7 rn c7, .int .i64 wd] 47) = w8 at *
    have bb : Below x7.w1.heap.size x7.w1 w8 := hW ▸ (by repeat (first | exact Below.refl _ _ | refine Below.alloc ?_ (by simp; try omega) _ | refine Below.drew ?_))
    have bg : Hid (Holds w8 x7.w1.heap.size [.string nm, .slice B7 rn c7, .int .i64 wd]) := Lib.hid (hW ▸ Holds.new _ _ _)
    clear hW
    replace rw := Lib.hid (rw.out.below bb)
    replace bw := Lib.hid (bw.out.below bb)
    replace rx := Lib.hid (rx.out.below bb)
    replace bx := Lib.hid (bx.out.below bb)
    replace rg := Lib.hid (rg.out.below bb)
    obtain ⟨x8, rfl⟩ : ∃ x : Aft W0, w8 = x.w1 := ⟨⟨w8, (held_next x7.below bb)⟩, rfl⟩
    clear bb
    refine (eqChannel_same nm _ _ rn _ _ wd X Y _ hrn rg.out.rec rw.out.rec).mono ?_
    rintro e w9 ⟨rfl, b9⟩
    replace rw := Lib.hid (rw.out.below b9)
    replace bw := Lib.hid (bw.out.below b9)
    replace rx := Lib.hid (rx.out.below b9)
    replace bx := Lib.hid (bx.out.below b9)
    replace rg := Lib.hid (rg.out.below b9)
    replace bg := Lib.hid (bg.out.below b9)
    obtain ⟨x9, rfl⟩ : ∃ x : Aft W0, w9 = x.w1 := ⟨⟨w9, (held_next x8.below b9)⟩, rfl⟩
    have lbw_0 : x9.w1.cell? ⟨x3.w1.heap.size, 0, none⟩ = some (.string nm) := bw.out.2 0 _ rfl
    have lbw_1 : x9.w1.cell? ⟨x3.w1.heap.size, 1, none⟩ = some (.slice B3 rn c3) := bw.out.2 1 _ rfl
    have lbw_2 : x9.w1.cell? ⟨x3.w1.heap.size, 2, none⟩ = some (.int .i64 wd) := bw.out.2 2 _ rfl
    have lbx_0 : x9.w1.cell? ⟨x5.w1.heap.size, 0, none⟩ = some (.string nmA) := bx.out.2 0 _ rfl
    have lbx_1 : x9.w1.cell? ⟨x5.w1.heap.size, 1, none⟩ = some (.slice (some ⟨g5, 0, none⟩) nA nA) := bx.out.2 1 _ rfl
    have lbx_2 : x9.w1.cell? ⟨x5.w1.heap.size, 2, none⟩ = some (.int .i64 wdA) := bx.out.2 2 _ rfl
    have lbg_0 : x9.w1.cell? ⟨x7.w1.heap.size, 0, none⟩ = some (.string nm) := bg.out.2 0 _ rfl
    have lbg_1 : x9.w1.cell? ⟨x7.w1.heap.size, 1, none⟩ = some (.slice B7 rn c7) := bg.out.2 1 _ rfl
    have lbg_2 : x9.w1.cell? ⟨x7.w1.heap.size, 2, none⟩ = some (.int .i64 wd) := bg.out.2 2 _ rfl
    go_wp2_with fail
    have tk0_0 := k0_0 x9
    have tk0_1 := k0_1 x9
    have tk0_2 := k0_2 x9
    go_region_held3 (fun w' => w'.cell? ⟨x5.w1.heap.size, 0, none⟩ = some (.string nmA) ∧ w'.cell? ⟨x5.w1.heap.size, 1, none⟩ = some (.slice (some ⟨g5, 0, none⟩) nA nA) ∧ w'.cell? ⟨x5.w1.heap.size, 2, none⟩ = some (.int .i64 wdA) ∧ w'.cell? ⟨w.heap.size, 0, none⟩ = some (.string nmA) ∧ w'.cell? ⟨w.heap.size, 1, none⟩ = some (.slice A nA capA) ∧ w'.cell? ⟨w.heap.size, 2, none⟩ = some (.int .i64 wdA))
      (first | go_keep | exact ⟨v0, v1, v2, vk0_0, vk0_1, vk0_2⟩)
      (first
        | (go_at_call_of 33 nmA; refine (toChannel_c nmA A nA _ wdA A0 A1 _ nA2 (hA.below x9.below.drew)).mono ?_; rintro e u10 ⟨g10, rfl, F⟩; have hr10 := F.rec; have bb : Below x9.w1.heap.size x9.w1 u10 := held_next (Below.refl _ _).drew F.bel; obtain ⟨y10, rfl⟩ : ∃ x : Aft W0, u10 = x.w1 := ⟨⟨u10, held_next x9.below bb⟩, rfl⟩; clear F; have v0 : y10.w1.cell? ⟨x5.w1.heap.size, 0, none⟩ = some (.string nmA) := (bx.out.below bb).2 0 _ rfl; have v1 : y10.w1.cell? ⟨x5.w1.heap.size, 1, none⟩ = some (.slice (some ⟨g5, 0, none⟩) nA nA) := (bx.out.below bb).2 1 _ rfl; have v2 : y10.w1.cell? ⟨x5.w1.heap.size, 2, none⟩ = some (.int .i64 wdA) := (bx.out.below bb).2 2 _ rfl; have vk0_0 := k0_0 y10; have vk0_1 := k0_1 y10; have vk0_2 := k0_2 y10)
        | (go_at_call 35; refine (eqChannel_same nmA _ _ nA _ _ wdA A0 A1 _ nA2 (rx.out.below bb).rec hr10).mono ?_; rintro e u10 ⟨rfl, b10⟩; have bb := held_next bb b10; obtain ⟨y10, rfl⟩ : ∃ x : Aft W0, u10 = x.w1 := ⟨⟨u10, held_next y10.below b10⟩, rfl⟩; have v0 : y10.w1.cell? ⟨x5.w1.heap.size, 0, none⟩ = some (.string nmA) := (bx.out.below bb).2 0 _ rfl; have v1 : y10.w1.cell? ⟨x5.w1.heap.size, 1, none⟩ = some (.slice (some ⟨g5, 0, none⟩) nA nA) := (bx.out.below bb).2 1 _ rfl; have v2 : y10.w1.cell? ⟨x5.w1.heap.size, 2, none⟩ = some (.int .i64 wdA) := (bx.out.below bb).2 2 _ rfl; have vk0_0 := k0_0 y10; have vk0_1 := k0_1 y10; have vk0_2 := k0_2 y10))
    clear tk0_0 tk0_1 tk0_2 lbw_0 lbw_1 lbw_2 lbx_0 lbx_1 lbx_2 lbg_0 lbg_1 lbg_2
    clear v0 v1 v2 vk0_0 vk0_1 vk0_2
    replace rw := Lib.hid (rw.out.below bb)
    replace bw := Lib.hid (bw.out.below bb)
    replace rx := Lib.hid (rx.out.below bb)
    replace bx := Lib.hid (bx.out.below bb)
    replace rg := Lib.hid (rg.out.below bb)
    replace bg := Lib.hid (bg.out.below bb)
    clear bb
    have lbw_0 : y10.w1.cell? ⟨x3.w1.heap.size, 0, none⟩ = some (.string nm) := bw.out.2 0 _ rfl
    have lbw_1 : y10.w1.cell? ⟨x3.w1.heap.size, 1, none⟩ = some (.slice B3 rn c3) := bw.out.2 1 _ rfl
    have lbw_2 : y10.w1.cell? ⟨x3.w1.heap.size, 2, none⟩ = some (.int .i64 wd) := bw.out.2 2 _ rfl
    have lbx_0 : y10.w1.cell? ⟨x5.w1.heap.size, 0, none⟩ = some (.string nmA) := bx.out.2 0 _ rfl
    have lbx_1 : y10.w1.cell? ⟨x5.w1.heap.size, 1, none⟩ = some (.slice (some ⟨g5, 0, none⟩) nA nA) := bx.out.2 1 _ rfl
    have lbx_2 : y10.w1.cell? ⟨x5.w1.heap.size, 2, none⟩ = some (.int .i64 wdA) := bx.out.2 2 _ rfl
    have lbg_0 : y10.w1.cell? ⟨x7.w1.heap.size, 0, none⟩ = some (.string nm) := bg.out.2 0 _ rfl
    have lbg_1 : y10.w1.cell? ⟨x7.w1.heap.size, 1, none⟩ = some (.slice B7 rn c7) := bg.out.2 1 _ rfl
    have lbg_2 : y10.w1.cell? ⟨x7.w1.heap.size, 2, none⟩ = some (.int .i64 wd) := bg.out.2 2 _ rfl
    go_wp2_with fail
    clear lbw_0 lbw_1 lbw_2 lbx_0 lbx_1 lbx_2 lbg_0 lbg_1 lbg_2
    refine (markChannel_c nmA _ nA _ wdA 1 _ _ _ nA2 (by omega) (by omega) rx.out).mono ?_
    rintro e w11 ⟨rfl, b11, S11⟩
    replace rw := Lib.hid (rw.out.far b11 (rows_apart orx_rw (fun k hk => (rx.out.lt k hk).1)))
    replace bw := Lib.hid (bw.out.far b11 (fun e => by have h1 := (rx.out.lt _ e).1; have h2 := orx_bw; omega))
    replace bx := Lib.hid (bx.out.far b11 (fun e => by have h1 := obx_rx _ e; omega))
    replace rg := Lib.hid (rg.out.far b11 (rows_apart2 org_rx (fun k hk => (rg.out.lt k hk).1)))
    replace bg := Lib.hid (bg.out.far b11 (fun e => by have h1 := obg_rx _ e; omega))
    have hb11 : Below W0.heap.size W0 w11 := grown_below y10.below b11 (fun k hk => Nat.le_trans x4.below.size (rx.out.lt k hk).1)
    replace rx := Lib.hid S11
    clear S11
    obtain ⟨x11, rfl⟩ : ∃ x : Aft W0, w11 = x.w1 := ⟨⟨w11, hb11⟩, rfl⟩
    have lbw_0 : x11.w1.cell? ⟨x3.w1.heap.size, 0, none⟩ = some (.string nm) := bw.out.2 0 _ rfl
    have lbw_1 : x11.w1.cell? ⟨x3.w1.heap.size, 1, none⟩ = some (.slice B3 rn c3) := bw.out.2 1 _ rfl
    have lbw_2 : x11.w1.cell? ⟨x3.w1.heap.size, 2, none⟩ = some (.int .i64 wd) := bw.out.2 2 _ rfl
    have lbx_0 : x11.w1.cell? ⟨x5.w1.heap.size, 0, none⟩ = some (.string nmA) := bx.out.2 0 _ rfl
    have lbx_1 : x11.w1.cell? ⟨x5.w1.heap.size, 1, none⟩ = some (.slice (some ⟨g5, 0, none⟩) nA nA) := bx.out.2 1 _ rfl
    have lbx_2 : x11.w1.cell? ⟨x5.w1.heap.size, 2, none⟩ = some (.int .i64 wdA) := bx.out.2 2 _ rfl
    have lbg_0 : x11.w1.cell? ⟨x7.w1.heap.size, 0, none⟩ = some (.string nm) := bg.out.2 0 _ rfl
    have lbg_1 : x11.w1.cell? ⟨x7.w1.heap.size, 1, none⟩ = some (.slice B7 rn c7) := bg.out.2 1 _ rfl
    have lbg_2 : x11.w1.cell? ⟨x7.w1.heap.size, 2, none⟩ = some (.int .i64 wd) := bg.out.2 2 _ rfl
    go_wp2_with fail
    clear lbw_0 lbw_1 lbw_2 lbx_0 lbx_1 lbx_2 lbg_0 lbg_1 lbg_2
    refine (eqChannel_same nm _ _ rn _ _ wd X Y _ hrn rg.out.rec rw.out.rec).mono ?_
    rintro e w12 ⟨rfl, b12⟩
    replace rw := Lib.hid (rw.out.below b12)
    replace bw := Lib.hid (bw.out.below b12)
    replace rx := Lib.hid (rx.out.below b12)
    replace bx := Lib.hid (bx.out.below b12)
    replace rg := Lib.hid (rg.out.below b12)
    replace bg := Lib.hid (bg.out.below b12)
    obtain ⟨x12, rfl⟩ : ∃ x : Aft W0, w12 = x.w1 := ⟨⟨w12, (held_next x11.below b12)⟩, rfl⟩
    have lbw_0 : x12.w1.cell? ⟨x3.w1.heap.size, 0, none⟩ = some (.string nm) := bw.out.2 0 _ rfl
    have lbw_1 : x12.w1.cell? ⟨x3.w1.heap.size, 1, none⟩ = some (.slice B3 rn c3) := bw.out.2 1 _ rfl
    have lbw_2 : x12.w1.cell? ⟨x3.w1.heap.size, 2, none⟩ = some (.int .i64 wd) := bw.out.2 2 _ rfl
    have lbx_0 : x12.w1.cell? ⟨x5.w1.heap.size, 0, none⟩ = some (.string nmA) := bx.out.2 0 _ rfl
    have lbx_1 : x12.w1.cell? ⟨x5.w1.heap.size, 1, none⟩ = some (.slice (some ⟨g5, 0, none⟩) nA nA) := bx.out.2 1 _ rfl
    have lbx_2 : x12.w1.cell? ⟨x5.w1.heap.size, 2, none⟩ = some (.int .i64 wdA) := bx.out.2 2 _ rfl
    have lbg_0 : x12.w1.cell? ⟨x7.w1.heap.size, 0, none⟩ = some (.string nm) := bg.out.2 0 _ rfl
    have lbg_1 : x12.w1.cell? ⟨x7.w1.heap.size, 1, none⟩ = some (.slice B7 rn c7) := bg.out.2 1 _ rfl
    have lbg_2 : x12.w1.cell? ⟨x7.w1.heap.size, 2, none⟩ = some (.int .i64 wd) := bg.out.2 2 _ rfl
    go_wp2_with fail
    clear lbw_0 lbw_1 lbw_2 lbx_0 lbx_1 lbx_2 lbg_0 lbg_1 lbg_2
    refine (markChannel_c nm _ rn _ wd 1 _ _ _ hrn (by omega) (by omega) rg.out).mono ?_
    rintro e w13 ⟨rfl, b13, S13⟩
    replace rw := Lib.hid (rw.out.far b13 (rows_apart org_rw (fun k hk => (rg.out.lt k hk).1)))
    replace bw := Lib.hid (bw.out.far b13 (fun e => by have h1 := (rg.out.lt _ e).1; have h2 := org_bw; omega))
    replace rx := Lib.hid (rx.out.far b13 (rows_apart org_rx (fun k hk => (rg.out.lt k hk).1)))
    replace bx := Lib.hid (bx.out.far b13 (fun e => by have h1 := (rg.out.lt _ e).1; have h2 := org_bx; omega))
    replace bg := Lib.hid (bg.out.far b13 (fun e => by have h1 := obg_rg _ e; omega))
    have hb13 : Below W0.heap.size W0 w13 := grown_below x12.below b13 (fun k hk => Nat.le_trans x6.below.size (rg.out.lt k hk).1)
    replace rg := Lib.hid S13
    clear S13
    obtain ⟨x13, rfl⟩ : ∃ x : Aft W0, w13 = x.w1 := ⟨⟨w13, hb13⟩, rfl⟩
    have lbw_0 : x13.w1.cell? ⟨x3.w1.heap.size, 0, none⟩ = some (.string nm) := bw.out.2 0 _ rfl
    have lbw_1 : x13.w1.cell? ⟨x3.w1.heap.size, 1, none⟩ = some (.slice B3 rn c3) := bw.out.2 1 _ rfl
    have lbw_2 : x13.w1.cell? ⟨x3.w1.heap.size, 2, none⟩ = some (.int .i64 wd) := bw.out.2 2 _ rfl
    have lbx_0 : x13.w1.cell? ⟨x5.w1.heap.size, 0, none⟩ = some (.string nmA) := bx.out.2 0 _ rfl
    have lbx_1 : x13.w1.cell? ⟨x5.w1.heap.size, 1, none⟩ = some (.slice (some ⟨g5, 0, none⟩) nA nA) := bx.out.2 1 _ rfl
    have lbx_2 : x13.w1.cell? ⟨x5.w1.heap.size, 2, none⟩ = some (.int .i64 wdA) := bx.out.2 2 _ rfl
    have lbg_0 : x13.w1.cell? ⟨x7.w1.heap.size, 0, none⟩ = some (.string nm) := bg.out.2 0 _ rfl
    have lbg_1 : x13.w1.cell? ⟨x7.w1.heap.size, 1, none⟩ = some (.slice B7 rn c7) := bg.out.2 1 _ rfl
    have lbg_2 : x13.w1.cell? ⟨x7.w1.heap.size, 2, none⟩ = some (.int .i64 wd) := bg.out.2 2 _ rfl
    go_wp2_with fail
    clear lbw_0 lbw_1 lbw_2 lbx_0 lbx_1 lbx_2 lbg_0 lbg_1 lbg_2
    refine (heldChannel_c nm _ rn _ wd 1 _ hrn (by omega) (by omega) rg.out.rec).mono ?_
    rintro e w14 ⟨rfl, b14⟩
    replace rw := Lib.hid (rw.out.below b14)
    replace bw := Lib.hid (bw.out.below b14)
    replace rx := Lib.hid (rx.out.below b14)
    replace bx := Lib.hid (bx.out.below b14)
    replace rg := Lib.hid (rg.out.below b14)
    replace bg := Lib.hid (bg.out.below b14)
    obtain ⟨x14, rfl⟩ : ∃ x : Aft W0, w14 = x.w1 := ⟨⟨w14, (held_next x13.below b14)⟩, rfl⟩
    have ory_rw : ∀ k, (.slice B3 rn c3 : Value).ownBlock = some k → k < x14.w1.heap.size := fun k hk => (rw.out.lt k hk).2
    have ory_bw : x3.w1.heap.size < x14.w1.heap.size := bw.out.1
    have ory_rx : ∀ k, (.slice (some ⟨g5, 0, none⟩) nA nA : Value).ownBlock = some k → k < x14.w1.heap.size := fun k hk => (rx.out.lt k hk).2
    have ory_bx : x5.w1.heap.size < x14.w1.heap.size := bx.out.1
    have ory_rg : ∀ k, (.slice B7 rn c7 : Value).ownBlock = some k → k < x14.w1.heap.size := fun k hk => (rg.out.lt k hk).2
    have ory_bg : x7.w1.heap.size < x14.w1.heap.size := bg.out.1
    have lbw_0 : x14.w1.cell? ⟨x3.w1.heap.size, 0, none⟩ = some (.string nm) := bw.out.2 0 _ rfl
    have lbw_1 : x14.w1.cell? ⟨x3.w1.heap.size, 1, none⟩ = some (.slice B3 rn c3) := bw.out.2 1 _ rfl
    have lbw_2 : x14.w1.cell? ⟨x3.w1.heap.size, 2, none⟩ = some (.int .i64 wd) := bw.out.2 2 _ rfl
    have lbx_0 : x14.w1.cell? ⟨x5.w1.heap.size, 0, none⟩ = some (.string nmA) := bx.out.2 0 _ rfl
    have lbx_1 : x14.w1.cell? ⟨x5.w1.heap.size, 1, none⟩ = some (.slice (some ⟨g5, 0, none⟩) nA nA) := bx.out.2 1 _ rfl
    have lbx_2 : x14.w1.cell? ⟨x5.w1.heap.size, 2, none⟩ = some (.int .i64 wdA) := bx.out.2 2 _ rfl
    have lbg_0 : x14.w1.cell? ⟨x7.w1.heap.size, 0, none⟩ = some (.string nm) := bg.out.2 0 _ rfl
    have lbg_1 : x14.w1.cell? ⟨x7.w1.heap.size, 1, none⟩ = some (.slice B7 rn c7) := bg.out.2 1 _ rfl
    have lbg_2 : x14.w1.cell? ⟨x7.w1.heap.size, 2, none⟩ = some (.int .i64 wd) := bg.out.2 2 _ rfl
    go_wp2_with fail
    clear lbw_0 lbw_1 lbw_2 lbx_0 lbx_1 lbx_2 lbg_0 lbg_1 lbg_2
    refine (toChannel_c nmA A nA _ wdA A0 A1 _ nA2 (hA.aft x14)).mono ?_
    rintro e w15 ⟨g15, rfl, F⟩
    have ry := Lib.hid (F.so)
    replace rw := Lib.hid (rw.out.below F.bel)
    replace bw := Lib.hid (bw.out.below F.bel)
    replace rx := Lib.hid (rx.out.below F.bel)
    replace bx := Lib.hid (bx.out.below F.bel)
    replace rg := Lib.hid (rg.out.below F.bel)
    replace bg := Lib.hid (bg.out.below F.bel)
    obtain ⟨x15, rfl⟩ : ∃ x : Aft W0, w15 = x.w1 := ⟨⟨w15, (held_next x14.below F.bel)⟩, rfl⟩
    clear F
    have orh_rw : ∀ k, (.slice B3 rn c3 : Value).ownBlock = some k → k < x15.w1.heap.size := fun k hk => (rw.out.lt k hk).2
    have orh_bw : x3.w1.heap.size < x15.w1.heap.size := bw.out.1
    have orh_rx : ∀ k, (.slice (some ⟨g5, 0, none⟩) nA nA : Value).ownBlock = some k → k < x15.w1.heap.size := fun k hk => (rx.out.lt k hk).2
    have orh_bx : x5.w1.heap.size < x15.w1.heap.size := bx.out.1
    have orh_rg : ∀ k, (.slice B7 rn c7 : Value).ownBlock = some k → k < x15.w1.heap.size := fun k hk => (rg.out.lt k hk).2
    have orh_bg : x7.w1.heap.size < x15.w1.heap.size := bg.out.1
    have orh_ry : ∀ k, (.slice (some ⟨g15, 0, none⟩) nA nA : Value).ownBlock = some k → k < x15.w1.heap.size := fun k hk => (ry.out.lt k hk).2
    have lbw_0 : x15.w1.cell? ⟨x3.w1.heap.size, 0, none⟩ = some (.string nm) := bw.out.2 0 _ rfl
    have lbw_1 : x15.w1.cell? ⟨x3.w1.heap.size, 1, none⟩ = some (.slice B3 rn c3) := bw.out.2 1 _ rfl
    have lbw_2 : x15.w1.cell? ⟨x3.w1.heap.size, 2, none⟩ = some (.int .i64 wd) := bw.out.2 2 _ rfl
    have lbx_0 : x15.w1.cell? ⟨x5.w1.heap.size, 0, none⟩ = some (.string nmA) := bx.out.2 0 _ rfl
    have lbx_1 : x15.w1.cell? ⟨x5.w1.heap.size, 1, none⟩ = some (.slice (some ⟨g5, 0, none⟩) nA nA) := bx.out.2 1 _ rfl
    have lbx_2 : x15.w1.cell? ⟨x5.w1.heap.size, 2, none⟩ = some (.int .i64 wdA) := bx.out.2 2 _ rfl
    have lbg_0 : x15.w1.cell? ⟨x7.w1.heap.size, 0, none⟩ = some (.string nm) := bg.out.2 0 _ rfl
    have lbg_1 : x15.w1.cell? ⟨x7.w1.heap.size, 1, none⟩ = some (.slice B7 rn c7) := bg.out.2 1 _ rfl
    have lbg_2 : x15.w1.cell? ⟨x7.w1.heap.size, 2, none⟩ = some (.int .i64 wd) := bg.out.2 2 _ rfl
    go_wp2_with fail
    clear lbw_0 lbw_1 lbw_2 lbx_0 lbx_1 lbx_2 lbg_0 lbg_1 lbg_2
    refine (HI.out _ _ _ ry.out.rec).mono ?_
    rintro e w16 ⟨B16, c16, rfl, S, b⟩
    have rh := Lib.hid (S)
    replace rw := Lib.hid (rw.out.below b)
    replace bw := Lib.hid (bw.out.below b)
    replace rx := Lib.hid (rx.out.below b)
    replace bx := Lib.hid (bx.out.below b)
    replace rg := Lib.hid (rg.out.below b)
    replace bg := Lib.hid (bg.out.below b)
    replace ry := Lib.hid (ry.out.below b)
    obtain ⟨x16, rfl⟩ : ∃ x : Aft W0, w16 = x.w1 := ⟨⟨w16, (held_next x15.below b)⟩, rfl⟩
    have ak0_0 : ∀ o, (x16.w1.alloc o).cell? ⟨w.heap.size, 0, none⟩ = some (.string nmA) := fun o => (cell_past (cell_lt (k0_0 x16)) o 0).trans (k0_0 x16)
    have ak0_1 : ∀ o, (x16.w1.alloc o).cell? ⟨w.heap.size, 1, none⟩ = some (.slice A nA capA) := fun o => (cell_past (cell_lt (k0_1 x16)) o 1).trans (k0_1 x16)
    have ak0_2 : ∀ o, (x16.w1.alloc o).cell? ⟨w.heap.size, 2, none⟩ = some (.int .i64 wdA) := fun o => (cell_past (cell_lt (k0_2 x16)) o 2).trans (k0_2 x16)
    have abw_0 : ∀ o, (x16.w1.alloc o).cell? ⟨x3.w1.heap.size, 0, none⟩ = some (.string nm) := fun o => (cell_past bw.out.1 o 0).trans (bw.out.2 0 _ rfl)
    have abw_1 : ∀ o, (x16.w1.alloc o).cell? ⟨x3.w1.heap.size, 1, none⟩ = some (.slice B3 rn c3) := fun o => (cell_past bw.out.1 o 1).trans (bw.out.2 1 _ rfl)
    have abw_2 : ∀ o, (x16.w1.alloc o).cell? ⟨x3.w1.heap.size, 2, none⟩ = some (.int .i64 wd) := fun o => (cell_past bw.out.1 o 2).trans (bw.out.2 2 _ rfl)
    have abx_0 : ∀ o, (x16.w1.alloc o).cell? ⟨x5.w1.heap.size, 0, none⟩ = some (.string nmA) := fun o => (cell_past bx.out.1 o 0).trans (bx.out.2 0 _ rfl)
    have abx_1 : ∀ o, (x16.w1.alloc o).cell? ⟨x5.w1.heap.size, 1, none⟩ = some (.slice (some ⟨g5, 0, none⟩) nA nA) := fun o => (cell_past bx.out.1 o 1).trans (bx.out.2 1 _ rfl)
    have abx_2 : ∀ o, (x16.w1.alloc o).cell? ⟨x5.w1.heap.size, 2, none⟩ = some (.int .i64 wdA) := fun o => (cell_past bx.out.1 o 2).trans (bx.out.2 2 _ rfl)
    have abg_0 : ∀ o, (x16.w1.alloc o).cell? ⟨x7.w1.heap.size, 0, none⟩ = some (.string nm) := fun o => (cell_past bg.out.1 o 0).trans (bg.out.2 0 _ rfl)
    have abg_1 : ∀ o, (x16.w1.alloc o).cell? ⟨x7.w1.heap.size, 1, none⟩ = some (.slice B7 rn c7) := fun o => (cell_past bg.out.1 o 1).trans (bg.out.2 1 _ rfl)
    have abg_2 : ∀ o, (x16.w1.alloc o).cell? ⟨x7.w1.heap.size, 2, none⟩ = some (.int .i64 wd) := fun o => (cell_past bg.out.1 o 2).trans (bg.out.2 2 _ rfl)
    have lbw_0 : x16.w1.cell? ⟨x3.w1.heap.size, 0, none⟩ = some (.string nm) := bw.out.2 0 _ rfl
    have lbw_1 : x16.w1.cell? ⟨x3.w1.heap.size, 1, none⟩ = some (.slice B3 rn c3) := bw.out.2 1 _ rfl
    have lbw_2 : x16.w1.cell? ⟨x3.w1.heap.size, 2, none⟩ = some (.int .i64 wd) := bw.out.2 2 _ rfl
    have lbx_0 : x16.w1.cell? ⟨x5.w1.heap.size, 0, none⟩ = some (.string nmA) := bx.out.2 0 _ rfl
    have lbx_1 : x16.w1.cell? ⟨x5.w1.heap.size, 1, none⟩ = some (.slice (some ⟨g5, 0, none⟩) nA nA) := bx.out.2 1 _ rfl
    have lbx_2 : x16.w1.cell? ⟨x5.w1.heap.size, 2, none⟩ = some (.int .i64 wdA) := bx.out.2 2 _ rfl
    have lbg_0 : x16.w1.cell? ⟨x7.w1.heap.size, 0, none⟩ = some (.string nm) := bg.out.2 0 _ rfl
    have lbg_1 : x16.w1.cell? ⟨x7.w1.heap.size, 1, none⟩ = some (.slice B7 rn c7) := bg.out.2 1 _ rfl
    have lbg_2 : x16.w1.cell? ⟨x7.w1.heap.size, 2, none⟩ = some (.int .i64 wd) := bg.out.2 2 _ rfl
    go_wp2_with fail
    clear lbw_0 lbw_1 lbw_2 lbx_0 lbx_1 lbx_2 lbg_0 lbg_1 lbg_2
    clear ak0_0 ak0_1 ak0_2 abw_0 abw_1 abw_2 abx_0 abx_1 abx_2 abg_0 abg_1 abg_2
    have obh_rw : ∀ k, (.slice B3 rn c3 : Value).ownBlock = some k → k < x16.w1.heap.size := fun k hk => (rw.out.lt k hk).2
    have obh_rx : ∀ k, (.slice (some ⟨g5, 0, none⟩) nA nA : Value).ownBlock = some k → k < x16.w1.heap.size := fun k hk => (rx.out.lt k hk).2
    have obh_rg : ∀ k, (.slice B7 rn c7 : Value).ownBlock = some k → k < x16.w1.heap.size := fun k hk => (rg.out.lt k hk).2
    have obh_ry : ∀ k, (.slice (some ⟨g15, 0, none⟩) nA nA : Value).ownBlock = some k → k < x16.w1.heap.size := fun k hk => (ry.out.lt k hk).2
    have obh_rh : ∀ k, (.slice B16 rn c16 : Value).ownBlock = some k → k < x16.w1.heap.size := fun k hk => (rh.out.lt k hk).2
    generalize hW : x16.w1.alloc (.cells #[.string nm, .slice B16 rn c16, .int .i64 wd] 47) = w17 at *
    have bb : Below x16.w1.heap.size x16.w1 w17 := hW ▸ (by repeat (first | exact Below.refl _ _ | refine Below.alloc ?_ (by simp; try omega) _ | refine Below.drew ?_))
    have bh : Hid (Holds w17 x16.w1.heap.size [.string nm, .slice B16 rn c16, .int .i64 wd]) := Lib.hid (hW ▸ Holds.new _ _ _)
    clear hW
    replace rw := Lib.hid (rw.out.below bb)
    replace bw := Lib.hid (bw.out.below bb)
    replace rx := Lib.hid (rx.out.below bb)
    replace bx := Lib.hid (bx.out.below bb)
    replace rg := Lib.hid (rg.out.below bb)
    replace bg := Lib.hid (bg.out.below bb)
    replace ry := Lib.hid (ry.out.below bb)
    replace rh := Lib.hid (rh.out.below bb)
    obtain ⟨x17, rfl⟩ : ∃ x : Aft W0, w17 = x.w1 := ⟨⟨w17, (held_next x16.below bb)⟩, rfl⟩
    clear bb
    refine (eqChannel_same nm _ _ rn _ _ wd X Y _ hrn rh.out.rec rw.out.rec).mono ?_
    rintro e w18 ⟨rfl, b18⟩
    replace rw := Lib.hid (rw.out.below b18)
    replace bw := Lib.hid (bw.out.below b18)
    replace rx := Lib.hid (rx.out.below b18)
    replace bx := Lib.hid (bx.out.below b18)
    replace rg := Lib.hid (rg.out.below b18)
    replace bg := Lib.hid (bg.out.below b18)
    replace ry := Lib.hid (ry.out.below b18)
    replace rh := Lib.hid (rh.out.below b18)
    replace bh := Lib.hid (bh.out.below b18)
    obtain ⟨x18, rfl⟩ : ∃ x : Aft W0, w18 = x.w1 := ⟨⟨w18, (held_next x17.below b18)⟩, rfl⟩
    have lbw_0 : x18.w1.cell? ⟨x3.w1.heap.size, 0, none⟩ = some (.string nm) := bw.out.2 0 _ rfl
    have lbw_1 : x18.w1.cell? ⟨x3.w1.heap.size, 1, none⟩ = some (.slice B3 rn c3) := bw.out.2 1 _ rfl
    have lbw_2 : x18.w1.cell? ⟨x3.w1.heap.size, 2, none⟩ = some (.int .i64 wd) := bw.out.2 2 _ rfl
    have lbx_0 : x18.w1.cell? ⟨x5.w1.heap.size, 0, none⟩ = some (.string nmA) := bx.out.2 0 _ rfl
    have lbx_1 : x18.w1.cell? ⟨x5.w1.heap.size, 1, none⟩ = some (.slice (some ⟨g5, 0, none⟩) nA nA) := bx.out.2 1 _ rfl
    have lbx_2 : x18.w1.cell? ⟨x5.w1.heap.size, 2, none⟩ = some (.int .i64 wdA) := bx.out.2 2 _ rfl
    have lbg_0 : x18.w1.cell? ⟨x7.w1.heap.size, 0, none⟩ = some (.string nm) := bg.out.2 0 _ rfl
    have lbg_1 : x18.w1.cell? ⟨x7.w1.heap.size, 1, none⟩ = some (.slice B7 rn c7) := bg.out.2 1 _ rfl
    have lbg_2 : x18.w1.cell? ⟨x7.w1.heap.size, 2, none⟩ = some (.int .i64 wd) := bg.out.2 2 _ rfl
    have lbh_0 : x18.w1.cell? ⟨x16.w1.heap.size, 0, none⟩ = some (.string nm) := bh.out.2 0 _ rfl
    have lbh_1 : x18.w1.cell? ⟨x16.w1.heap.size, 1, none⟩ = some (.slice B16 rn c16) := bh.out.2 1 _ rfl
    have lbh_2 : x18.w1.cell? ⟨x16.w1.heap.size, 2, none⟩ = some (.int .i64 wd) := bh.out.2 2 _ rfl
    go_wp2_with fail
    clear lbw_0 lbw_1 lbw_2 lbx_0 lbx_1 lbx_2 lbg_0 lbg_1 lbg_2 lbh_0 lbh_1 lbh_2
    refine (heldChannel_c nm _ rn _ wd 1 _ hrn (by omega) (by omega) rg.out.rec).mono ?_
    rintro e w19 ⟨rfl, b19⟩
    replace rw := Lib.hid (rw.out.below b19)
    replace bw := Lib.hid (bw.out.below b19)
    replace rx := Lib.hid (rx.out.below b19)
    replace bx := Lib.hid (bx.out.below b19)
    replace rg := Lib.hid (rg.out.below b19)
    replace bg := Lib.hid (bg.out.below b19)
    replace ry := Lib.hid (ry.out.below b19)
    replace rh := Lib.hid (rh.out.below b19)
    replace bh := Lib.hid (bh.out.below b19)
    obtain ⟨x19, rfl⟩ : ∃ x : Aft W0, w19 = x.w1 := ⟨⟨w19, (held_next x18.below b19)⟩, rfl⟩
    have lbw_0 : x19.w1.cell? ⟨x3.w1.heap.size, 0, none⟩ = some (.string nm) := bw.out.2 0 _ rfl
    have lbw_1 : x19.w1.cell? ⟨x3.w1.heap.size, 1, none⟩ = some (.slice B3 rn c3) := bw.out.2 1 _ rfl
    have lbw_2 : x19.w1.cell? ⟨x3.w1.heap.size, 2, none⟩ = some (.int .i64 wd) := bw.out.2 2 _ rfl
    have lbx_0 : x19.w1.cell? ⟨x5.w1.heap.size, 0, none⟩ = some (.string nmA) := bx.out.2 0 _ rfl
    have lbx_1 : x19.w1.cell? ⟨x5.w1.heap.size, 1, none⟩ = some (.slice (some ⟨g5, 0, none⟩) nA nA) := bx.out.2 1 _ rfl
    have lbx_2 : x19.w1.cell? ⟨x5.w1.heap.size, 2, none⟩ = some (.int .i64 wdA) := bx.out.2 2 _ rfl
    have lbg_0 : x19.w1.cell? ⟨x7.w1.heap.size, 0, none⟩ = some (.string nm) := bg.out.2 0 _ rfl
    have lbg_1 : x19.w1.cell? ⟨x7.w1.heap.size, 1, none⟩ = some (.slice B7 rn c7) := bg.out.2 1 _ rfl
    have lbg_2 : x19.w1.cell? ⟨x7.w1.heap.size, 2, none⟩ = some (.int .i64 wd) := bg.out.2 2 _ rfl
    have lbh_0 : x19.w1.cell? ⟨x16.w1.heap.size, 0, none⟩ = some (.string nm) := bh.out.2 0 _ rfl
    have lbh_1 : x19.w1.cell? ⟨x16.w1.heap.size, 1, none⟩ = some (.slice B16 rn c16) := bh.out.2 1 _ rfl
    have lbh_2 : x19.w1.cell? ⟨x16.w1.heap.size, 2, none⟩ = some (.int .i64 wd) := bh.out.2 2 _ rfl
    go_wp2
    go_ret
    exact ⟨rfl, held_next hb0 x19.below⟩
namespace fnExactReverseChannelDone
open Go.ChangeShapes Go.WideShapes Go.ChangeAt Go.RowKit Go.Joins
open Go.ChangeMaps (open_string shut_string)
theorem arr3 {cs : Array Value} (h : cs.size = 3) : ∃ c0 c1 c2, cs = #[c0, c1, c2] := by
  obtain ⟨l⟩ := cs
  match l, h with
  | [c0, c1, c2], _ => exact ⟨c0, c1, c2, rfl⟩
set_option maxRecDepth 100000 in
theorem lifted (os : Os) (started : os.Started) (H : Type) (enc : TypeId × Value → H) :
    ReturnsInHanded {} Try.checked os 13 .any (Rows.fnExactReverseChannelSpec.pre6 enc Try.prog Try.f13 Rows.fnExactReverseChannelRow.domain false) (Rows.fnExactReverseChannelSpec.post enc Try.prog Try.f13 false true false false) := by
  refine returnsInHanded_of_change (C := Try.checked) lawOwn started (by kernel_rfl) Try.func13
    (ChangeSpec.witness6 (enc := enc) (C := Try.checked) false ⟨#[], #[.agg #[.string ByteArray.empty, .slice none 0 0, .int .i64 0]], []⟩ 8 (by kernel_rfl) (by kernel_rfl) (by kernel_rfl) (by kernel_rfl)) ?_
  intro W base args ds gs before hval0 hW hcnd _
  have hval : ∀ (j : Nat) t v, Try.f13.params[j]? = some t → args[j]? = some v → Value.okWide Try.prog W .any base t v := hval0
  have hW' := hW
  obtain ⟨p, q, hA0, hV, rfl, hfz, hnd⟩ := hW
  have hA : DataW.TrodAll enc Try.prog W 0 (fun _ => true) true Try.f13.params.toList args.toList ds p := hA0
  rw [Try.params13] at hA hval
  obtain ⟨v0, vs0, d0, ds0, p0, q0, hargs, rfl, rfl, h0, r0⟩ := trodAll_cons hA
  obtain ⟨rfl, rfl, rfl⟩ := trodAll_nil r0
  obtain rfl : args = #[v0] := by cases args; simp_all
  obtain ⟨rfl, rfl⟩ := trodVars_none hV
  have k0 := h0
  have lt0 : ∀ x ∈ p0, x.block < W.heap.size := by obtain ⟨m, hm⟩ := k0; exact DataW.trod_lt m _ _ _ hm
  suffices hwalk : Calls Try.prog 13 #[v0] W fun e w' => e = .returned (.bool true) ∧ Below W.heap.size W w' by
    refine hwalk.mono fun e W' ⟨he, bel⟩ => ?_
    subst he
    exact ⟨_, rfl, _, _, _, [], _, [], hW', trodAll_mk1 (shut_bool Try.underlying4 _), (trodAll_cons_mk (Below.trod lawLaid (by kernel_rfl) (of_decide_eq_true (by kernel_rfl)) k0 bel lt0) trodAll_mk0), rfl, bel.frame _, fun h => by cases h⟩
  clear hA0 hval0
  obtain ⟨cs0, rfl, hz0⟩ := okWide_struct Try.underlying42 (hval 0 42 v0 rfl rfl)
  have hq0 := agg_leaves (ks := [1, 42, 0]) 6 (by kernel_rfl) (by kernel_rfl) h0
  obtain ⟨c0_0, c0_1, c0_2, rfl⟩ := arr3 (hz0.trans (by kernel_rfl))
  obtain ⟨u0_0, e0_0, l0_0⟩ := hq0 0 _ rfl
  obtain rfl : c0_0 = u0_0 := Option.some.inj e0_0
  obtain ⟨a0_0, rfl, w0_0⟩ := l0_0.1.2 rfl
  obtain ⟨u0_1, e0_1, l0_1⟩ := hq0 1 _ rfl
  obtain rfl : c0_1 = u0_1 := Option.some.inj e0_1
  obtain ⟨a0_1, len0_1, cap0_1, rfl, w0_1, g0_1⟩ := l0_1.2 40 rfl
  have r0_1 := g0_1 70 [0, 0] Try.underlying40 (by kernel_rfl) (by kernel_rfl) (by decide)
  obtain ⟨u0_2, e0_2, l0_2⟩ := hq0 2 _ rfl
  obtain rfl : c0_2 = u0_2 := Option.some.inj e0_2
  obtain ⟨a0_2, rfl, w0_2⟩ := l0_2.1.1 rfl
  exact fnExactReverseChannel_walk (w := W) a0_0 w0_0 a0_1 len0_1 cap0_1 w0_1 r0_1 a0_2 w0_2

theorem over : Rows.fnExactReverseChannelRow.holds Try.pinned (OpenSpec.ofChange Rows.fnExactReverseChannelSpec) :=
  OpenClaim.holds_of_wide 13 Try.f13 rfl rfl rfl rfl rfl rfl rfl ⟨rfl, rfl, rfl, rfl, rfl⟩ rfl rfl rfl rfl rfl (by kernel_rfl) Try.func13 (by kernel_rfl)
    (of_decide_eq_true (by kernel_rfl)) (by unfold Func.isWrapper; first | (rw [if_pos (by decide +kernel)]; kernel_rfl) | (rw [if_neg (by decide +kernel)]; exact ⟨rfl, rfl⟩))
    (fun os started H enc _ => lifted os started H enc)

theorem proved : Rows.FnExactReverseChannelSaid := over
#print axioms proved
end fnExactReverseChannelDone
end Go.Proofs.Ytfmljppofkocmaa
