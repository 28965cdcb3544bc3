/- The program's SameChannel answers as the reference's, for all arguments. -/
import Derived.Test.YtfmljppofkocmaaSameCh
import Derived.Deep.RegionHeld3
namespace Go.Proofs.Ytfmljppofkocmaa
open Go Go.RowKit
set_option maxHeartbeats 8000000 in
theorem fnExactSameChannel_walk {w : World} (nmA : ByteArray) (hsA : nmA.size ≤ maxLen) (A : Option Addr) (nA capA : Nat) (hnA : nA ≤ maxLen) (hrA : Rows0 [0, 0] w A nA) (wdA : Int) (_wwA : (Lit.int .i64 wdA).wf = true) (nmB : ByteArray) (hsB : nmB.size ≤ maxLen) (B : Option Addr) (nB capB : Nat) (hnB : nB ≤ maxLen) (hrB : Rows0 [0, 0] w B nB) (wdB : Int) (_wwB : (Lit.int .i64 wdB).wf = true) :
    Calls Try.prog 8 #[.agg #[.string nmA, .slice A nA capA, .int .i64 wdA], .agg #[.string nmB, .slice B nB capB, .int .i64 wdB]] w fun e w' => e = .returned (.bool true) ∧ Below w.heap.size w w' := by
  obtain ⟨A0, A1, hA, hwA⟩ := rowsPoint hrA
  clear hrA
  obtain ⟨B0, B1, hB, hwB⟩ := rowsPoint hrB
  clear hrB
  have HP := Lib.hid (fun A ca B cb W hA hB hrA hrB => specSameChannel_c nmA A nA ca wdA A0 A1 nmB B nB cb wdB B0 B1 W hA hB hrA hrB)
  have HI := Lib.hid (fun A ca B cb W hA hB hrA hrB => implSameChannel_c nmA A nA ca wdA A0 A1 nmB B nB cb wdB B0 B1 W hA hB hrA hrB)
  generalize sameChan nmA nA wdA A0 A1 nmB nB wdB B0 B1 = v at HP HI
  have hA := hA.below (w' := ((w.alloc (.cells #[.string nmA, .slice A nA capA, .int .i64 wdA] 42)).alloc (.cells #[.string nmB, .slice B nB capB, .int .i64 wdB] 42))) (by repeat (first | exact Below.refl _ _ | refine Below.alloc ?_ (by simp; try omega) _ | refine Below.drew ?_))
  have hB := hB.below (w' := ((w.alloc (.cells #[.string nmA, .slice A nA capA, .int .i64 wdA] 42)).alloc (.cells #[.string nmB, .slice B nB capB, .int .i64 wdB] 42))) (by repeat (first | exact Below.refl _ _ | refine Below.alloc ?_ (by simp; try omega) _ | refine Below.drew ?_))
  have k0_0 : ∀ y : Aft ((w.alloc (.cells #[.string nmA, .slice A nA capA, .int .i64 wdA] 42)).alloc (.cells #[.string nmB, .slice B nB capB, .int .i64 wdB] 42)), y.w1.cell? ⟨w.heap.size, 0, none⟩ = some (.string nmA) := fun y => y.cell (by simp; try omega) (by simp [go_sem])
  have k0_1 : ∀ y : Aft ((w.alloc (.cells #[.string nmA, .slice A nA capA, .int .i64 wdA] 42)).alloc (.cells #[.string nmB, .slice B nB capB, .int .i64 wdB] 42)), y.w1.cell? ⟨w.heap.size, 1, none⟩ = some (.slice A nA capA) := fun y => y.cell (by simp; try omega) (by simp [go_sem])
  have k0_2 : ∀ y : Aft ((w.alloc (.cells #[.string nmA, .slice A nA capA, .int .i64 wdA] 42)).alloc (.cells #[.string nmB, .slice B nB capB, .int .i64 wdB] 42)), y.w1.cell? ⟨w.heap.size, 2, none⟩ = some (.int .i64 wdA) := fun y => y.cell (by simp; try omega) (by simp [go_sem])
  have k1_0 : ∀ y : Aft ((w.alloc (.cells #[.string nmA, .slice A nA capA, .int .i64 wdA] 42)).alloc (.cells #[.string nmB, .slice B nB capB, .int .i64 wdB] 42)), y.w1.cell? ⟨w.heap.size + 1, 0, none⟩ = some (.string nmB) := fun y => y.cell (by simp; try omega) (by simp [go_sem])
  have k1_1 : ∀ y : Aft ((w.alloc (.cells #[.string nmA, .slice A nA capA, .int .i64 wdA] 42)).alloc (.cells #[.string nmB, .slice B nB capB, .int .i64 wdB] 42)), y.w1.cell? ⟨w.heap.size + 1, 1, none⟩ = some (.slice B nB capB) := fun y => y.cell (by simp; try omega) (by simp [go_sem])
  have k1_2 : ∀ y : Aft ((w.alloc (.cells #[.string nmA, .slice A nA capA, .int .i64 wdA] 42)).alloc (.cells #[.string nmB, .slice B nB capB, .int .i64 wdB] 42)), y.w1.cell? ⟨w.heap.size + 1, 2, none⟩ = some (.int .i64 wdB) := fun y => y.cell (by simp; try omega) (by simp [go_sem])
  go_enter Try.func8, Try.ntmps8
  go_wp2_with fail
  generalize hW : ((w.alloc (.cells #[.string nmA, .slice A nA capA, .int .i64 wdA] 42)).alloc (.cells #[.string nmB, .slice B nB capB, .int .i64 wdB] 42)) = W0 at *
  have hb : Below w.heap.size w W0 := hW ▸ (by repeat (first | exact Below.refl _ _ | refine Below.alloc ?_ (by simp; try omega) _ | refine Below.drew ?_))
  clear hW
  refine (szChannel_c nmA A nA _ wdA _ hsA hnA (by omega) (by omega) _).mono ?_
  rintro e w1 ⟨rfl | ⟨r, r0, r1, rfl⟩, b1⟩
  · go_wp2
    go_ret
    exact ⟨rfl, held_next hb b1⟩
  · skip
    obtain ⟨x1, rfl⟩ : ∃ x : Aft W0, w1 = x.w1 := ⟨⟨w1, b1⟩, rfl⟩
    have nA2 : nA ≤ 1048576 := by omega
    have q0 := r0
    have q1 : r ≤ 1048576 := by omega
    clear r0 r1
    go_wp2_with fail
    refine (szChannel_c nmB B nB _ wdB _ hsB hnB q0 q1 _).mono ?_
    rintro e w2 ⟨rfl | ⟨r, r0, r1, rfl⟩, b2⟩
    · go_wp2
      go_ret
      exact ⟨rfl, held_next hb (held_next x1.below b2)⟩
    · skip
      obtain ⟨x2, rfl⟩ : ∃ x : Aft W0, w2 = x.w1 := ⟨⟨w2, (held_next x1.below b2)⟩, rfl⟩
      have nB2 : nB ≤ 1048576 := by omega
      clear q0 q1 r1
      go_wp2_with fail
      have tk0_0 := k0_0 x2
      have tk0_1 := k0_1 x2
      have tk0_2 := k0_2 x2
      have tk1_0 := k1_0 x2
      have tk1_1 := k1_1 x2
      have tk1_2 := k1_2 x2
      go_region_held3 (fun w' => w'.cell? ⟨w.heap.size, 0, none⟩ = some (.string nmA) ∧ w'.cell? ⟨w.heap.size, 1, none⟩ = some (.slice A nA capA) ∧ w'.cell? ⟨w.heap.size, 2, none⟩ = some (.int .i64 wdA) ∧ w'.cell? ⟨w.heap.size + 1, 0, none⟩ = some (.string nmB) ∧ w'.cell? ⟨w.heap.size + 1, 1, none⟩ = some (.slice B nB capB) ∧ w'.cell? ⟨w.heap.size + 1, 2, none⟩ = some (.int .i64 wdB))
        (first | go_keep | exact ⟨k0_0 y3, k0_1 y3, k0_2 y3, k1_0 y3, k1_1 y3, k1_2 y3⟩)
        (first
          | (go_at_call_of 33 nmA; refine (toChannel_c nmA A nA _ wdA A0 A1 _ nA2 (hA.below x2.below.drew)).mono ?_; rintro e u3 ⟨g3, rfl, F⟩; have rA := F.rec; obtain ⟨y3, rfl⟩ : ∃ x : Aft W0, u3 = x.w1 := ⟨⟨u3, held_next x2.below.drew F.bel⟩, rfl⟩; clear F)
          | (go_at_call_of 33 nmB; refine (toChannel_c nmB B nB _ wdB B0 B1 _ nB2 (hB.below y3.below)).mono ?_; rintro e u3 ⟨g3, rfl, F⟩; have rB := F.rec; have rA := rA.below F.bel; obtain ⟨y3, rfl⟩ : ∃ x : Aft W0, u3 = x.w1 := ⟨⟨u3, held_next y3.below F.bel⟩, rfl⟩; clear F)
          | (go_at_call 32; refine (HP.out _ _ _ _ _ nA2 nB2 rA rB).mono ?_; rintro e u3 ⟨rfl, b3⟩; obtain ⟨y3, rfl⟩ : ∃ x : Aft W0, u3 = x.w1 := ⟨⟨u3, held_next y3.below b3⟩, rfl⟩))
      clear tk0_0
      clear tk0_1
      clear tk0_2
      clear tk1_0
      clear tk1_1
      clear tk1_2
      go_wp2_with fail
      refine (toChannel_c nmA A nA _ wdA A0 A1 _ nA2 (hA.aft y3)).mono ?_
      rintro e w4 ⟨g4, rfl, F⟩
      have xa := Lib.hid F.rec
      obtain ⟨x4, rfl⟩ : ∃ x : Aft W0, w4 = x.w1 := ⟨⟨w4, (held_next y3.below F.bel)⟩, rfl⟩
      clear F
      have ak0_0 : ∀ o, (x4.w1.alloc o).cell? ⟨w.heap.size, 0, none⟩ = some (.string nmA) := fun o => (cell_past (cell_lt (k0_0 x4)) o 0).trans (k0_0 x4)
      have ak0_1 : ∀ o, (x4.w1.alloc o).cell? ⟨w.heap.size, 1, none⟩ = some (.slice A nA capA) := fun o => (cell_past (cell_lt (k0_1 x4)) o 1).trans (k0_1 x4)
      have ak0_2 : ∀ o, (x4.w1.alloc o).cell? ⟨w.heap.size, 2, none⟩ = some (.int .i64 wdA) := fun o => (cell_past (cell_lt (k0_2 x4)) o 2).trans (k0_2 x4)
      have ak1_0 : ∀ o, (x4.w1.alloc o).cell? ⟨w.heap.size + 1, 0, none⟩ = some (.string nmB) := fun o => (cell_past (cell_lt (k1_0 x4)) o 0).trans (k1_0 x4)
      have ak1_1 : ∀ o, (x4.w1.alloc o).cell? ⟨w.heap.size + 1, 1, none⟩ = some (.slice B nB capB) := fun o => (cell_past (cell_lt (k1_1 x4)) o 1).trans (k1_1 x4)
      have ak1_2 : ∀ o, (x4.w1.alloc o).cell? ⟨w.heap.size + 1, 2, none⟩ = some (.int .i64 wdB) := fun o => (cell_past (cell_lt (k1_2 x4)) o 2).trans (k1_2 x4)
      go_wp2_with fail
      clear ak0_0 ak0_1 ak0_2 ak1_0 ak1_1 ak1_2
      generalize hW : x4.w1.alloc (.cells #[.string nmA, .slice (some ⟨g4, 0, none⟩) nA nA, .int .i64 wdA] 47) = W1 at *
      have bb : Below x4.w1.heap.size x4.w1 W1 := hW ▸ (by repeat (first | exact Below.refl _ _ | refine Below.alloc ?_ (by simp; try omega) _ | refine Below.drew ?_))
      have m1_0 : ∀ y : Aft W1, y.w1.cell? ⟨x4.w1.heap.size, 0, none⟩ = some (.string nmA) := by subst hW; exact fun y => y.new rfl
      have m1_1 : ∀ y : Aft W1, y.w1.cell? ⟨x4.w1.heap.size, 1, none⟩ = some (.slice (some ⟨g4, 0, none⟩) nA nA) := by subst hW; exact fun y => y.new rfl
      have m1_2 : ∀ y : Aft W1, y.w1.cell? ⟨x4.w1.heap.size, 2, none⟩ = some (.int .i64 wdA) := by subst hW; exact fun y => y.new rfl
      replace k0_0 : ∀ y : Aft W1, y.w1.cell? ⟨w.heap.size, 0, none⟩ = some (.string nmA) := fun y => k0_0 ⟨y.w1, held_next (held_next x4.below bb) y.below⟩
      replace k0_1 : ∀ y : Aft W1, y.w1.cell? ⟨w.heap.size, 1, none⟩ = some (.slice A nA capA) := fun y => k0_1 ⟨y.w1, held_next (held_next x4.below bb) y.below⟩
      replace k0_2 : ∀ y : Aft W1, y.w1.cell? ⟨w.heap.size, 2, none⟩ = some (.int .i64 wdA) := fun y => k0_2 ⟨y.w1, held_next (held_next x4.below bb) y.below⟩
      replace k1_0 : ∀ y : Aft W1, y.w1.cell? ⟨w.heap.size + 1, 0, none⟩ = some (.string nmB) := fun y => k1_0 ⟨y.w1, held_next (held_next x4.below bb) y.below⟩
      replace k1_1 : ∀ y : Aft W1, y.w1.cell? ⟨w.heap.size + 1, 1, none⟩ = some (.slice B nB capB) := fun y => k1_1 ⟨y.w1, held_next (held_next x4.below bb) y.below⟩
      replace k1_2 : ∀ y : Aft W1, y.w1.cell? ⟨w.heap.size + 1, 2, none⟩ = some (.int .i64 wdB) := fun y => k1_2 ⟨y.w1, held_next (held_next x4.below bb) y.below⟩
      replace hA := (hA.aft x4).below bb
      replace hB := (hB.aft x4).below bb
      replace xa := xa.out.below bb
      replace hb := held_next (held_next hb x4.below) bb
      clear hW bb
      have zk0_0 : W1.cell? ⟨w.heap.size, 0, none⟩ = some (.string nmA) := k0_0 ⟨W1, Below.refl _ _⟩
      have zk0_1 : W1.cell? ⟨w.heap.size, 1, none⟩ = some (.slice A nA capA) := k0_1 ⟨W1, Below.refl _ _⟩
      have zk0_2 : W1.cell? ⟨w.heap.size, 2, none⟩ = some (.int .i64 wdA) := k0_2 ⟨W1, Below.refl _ _⟩
      have zk1_0 : W1.cell? ⟨w.heap.size + 1, 0, none⟩ = some (.string nmB) := k1_0 ⟨W1, Below.refl _ _⟩
      have zk1_1 : W1.cell? ⟨w.heap.size + 1, 1, none⟩ = some (.slice B nB capB) := k1_1 ⟨W1, Below.refl _ _⟩
      have zk1_2 : W1.cell? ⟨w.heap.size + 1, 2, none⟩ = some (.int .i64 wdB) := k1_2 ⟨W1, Below.refl _ _⟩
      have zm1_0 : W1.cell? ⟨x4.w1.heap.size, 0, none⟩ = some (.string nmA) := m1_0 ⟨W1, Below.refl _ _⟩
      have zm1_1 : W1.cell? ⟨x4.w1.heap.size, 1, none⟩ = some (.slice (some ⟨g4, 0, none⟩) nA nA) := m1_1 ⟨W1, Below.refl _ _⟩
      have zm1_2 : W1.cell? ⟨x4.w1.heap.size, 2, none⟩ = some (.int .i64 wdA) := m1_2 ⟨W1, Below.refl _ _⟩
      refine (toChannel_c nmB B nB _ wdB B0 B1 _ nB2 hB).mono ?_
      rintro e w5 ⟨g5, rfl, F⟩
      have xb := Lib.hid F.rec
      obtain ⟨x5, rfl⟩ : ∃ x : Aft W1, w5 = x.w1 := ⟨⟨w5, F.bel⟩, rfl⟩
      clear F
      clear zk0_0 zk0_1 zk0_2 zk1_0 zk1_1 zk1_2 zm1_0 zm1_1 zm1_2
      have ak0_0 : ∀ o, (x5.w1.alloc o).cell? ⟨w.heap.size, 0, none⟩ = some (.string nmA) := fun o => (cell_past (cell_lt (k0_0 x5)) o 0).trans (k0_0 x5)
      have ak0_1 : ∀ o, (x5.w1.alloc o).cell? ⟨w.heap.size, 1, none⟩ = some (.slice A nA capA) := fun o => (cell_past (cell_lt (k0_1 x5)) o 1).trans (k0_1 x5)
      have ak0_2 : ∀ o, (x5.w1.alloc o).cell? ⟨w.heap.size, 2, none⟩ = some (.int .i64 wdA) := fun o => (cell_past (cell_lt (k0_2 x5)) o 2).trans (k0_2 x5)
      have ak1_0 : ∀ o, (x5.w1.alloc o).cell? ⟨w.heap.size + 1, 0, none⟩ = some (.string nmB) := fun o => (cell_past (cell_lt (k1_0 x5)) o 0).trans (k1_0 x5)
      have ak1_1 : ∀ o, (x5.w1.alloc o).cell? ⟨w.heap.size + 1, 1, none⟩ = some (.slice B nB capB) := fun o => (cell_past (cell_lt (k1_1 x5)) o 1).trans (k1_1 x5)
      have ak1_2 : ∀ o, (x5.w1.alloc o).cell? ⟨w.heap.size + 1, 2, none⟩ = some (.int .i64 wdB) := fun o => (cell_past (cell_lt (k1_2 x5)) o 2).trans (k1_2 x5)
      have am1_0 : ∀ o, (x5.w1.alloc o).cell? ⟨x4.w1.heap.size, 0, none⟩ = some (.string nmA) := fun o => (cell_past (cell_lt (m1_0 x5)) o 0).trans (m1_0 x5)
      have am1_1 : ∀ o, (x5.w1.alloc o).cell? ⟨x4.w1.heap.size, 1, none⟩ = some (.slice (some ⟨g4, 0, none⟩) nA nA) := fun o => (cell_past (cell_lt (m1_1 x5)) o 1).trans (m1_1 x5)
      have am1_2 : ∀ o, (x5.w1.alloc o).cell? ⟨x4.w1.heap.size, 2, none⟩ = some (.int .i64 wdA) := fun o => (cell_past (cell_lt (m1_2 x5)) o 2).trans (m1_2 x5)
      go_wp2_with fail
      clear ak0_0 ak0_1 ak0_2 ak1_0 ak1_1 ak1_2 am1_0 am1_1 am1_2
      generalize hW : x5.w1.alloc (.cells #[.string nmB, .slice (some ⟨g5, 0, none⟩) nB nB, .int .i64 wdB] 47) = W2 at *
      have bb : Below x5.w1.heap.size x5.w1 W2 := hW ▸ (by repeat (first | exact Below.refl _ _ | refine Below.alloc ?_ (by simp; try omega) _ | refine Below.drew ?_))
      have m2_0 : ∀ y : Aft W2, y.w1.cell? ⟨x5.w1.heap.size, 0, none⟩ = some (.string nmB) := by subst hW; exact fun y => y.new rfl
      have m2_1 : ∀ y : Aft W2, y.w1.cell? ⟨x5.w1.heap.size, 1, none⟩ = some (.slice (some ⟨g5, 0, none⟩) nB nB) := by subst hW; exact fun y => y.new rfl
      have m2_2 : ∀ y : Aft W2, y.w1.cell? ⟨x5.w1.heap.size, 2, none⟩ = some (.int .i64 wdB) := by subst hW; exact fun y => y.new rfl
      replace k0_0 : ∀ y : Aft W2, y.w1.cell? ⟨w.heap.size, 0, none⟩ = some (.string nmA) := fun y => k0_0 ⟨y.w1, held_next (held_next x5.below bb) y.below⟩
      replace k0_1 : ∀ y : Aft W2, y.w1.cell? ⟨w.heap.size, 1, none⟩ = some (.slice A nA capA) := fun y => k0_1 ⟨y.w1, held_next (held_next x5.below bb) y.below⟩
      replace k0_2 : ∀ y : Aft W2, y.w1.cell? ⟨w.heap.size, 2, none⟩ = some (.int .i64 wdA) := fun y => k0_2 ⟨y.w1, held_next (held_next x5.below bb) y.below⟩
      replace k1_0 : ∀ y : Aft W2, y.w1.cell? ⟨w.heap.size + 1, 0, none⟩ = some (.string nmB) := fun y => k1_0 ⟨y.w1, held_next (held_next x5.below bb) y.below⟩
      replace k1_1 : ∀ y : Aft W2, y.w1.cell? ⟨w.heap.size + 1, 1, none⟩ = some (.slice B nB capB) := fun y => k1_1 ⟨y.w1, held_next (held_next x5.below bb) y.below⟩
      replace k1_2 : ∀ y : Aft W2, y.w1.cell? ⟨w.heap.size + 1, 2, none⟩ = some (.int .i64 wdB) := fun y => k1_2 ⟨y.w1, held_next (held_next x5.below bb) y.below⟩
      replace m1_0 : ∀ y : Aft W2, y.w1.cell? ⟨x4.w1.heap.size, 0, none⟩ = some (.string nmA) := fun y => m1_0 ⟨y.w1, held_next (held_next x5.below bb) y.below⟩
      replace m1_1 : ∀ y : Aft W2, y.w1.cell? ⟨x4.w1.heap.size, 1, none⟩ = some (.slice (some ⟨g4, 0, none⟩) nA nA) := fun y => m1_1 ⟨y.w1, held_next (held_next x5.below bb) y.below⟩
      replace m1_2 : ∀ y : Aft W2, y.w1.cell? ⟨x4.w1.heap.size, 2, none⟩ = some (.int .i64 wdA) := fun y => m1_2 ⟨y.w1, held_next (held_next x5.below bb) y.below⟩
      replace hA := (hA.aft x5).below bb
      replace hB := (hB.aft x5).below bb
      replace xa := (xa.aft x5).below bb
      replace xb := xb.out.below bb
      replace hb := held_next (held_next hb x5.below) bb
      clear hW bb
      have zk0_0 : W2.cell? ⟨w.heap.size, 0, none⟩ = some (.string nmA) := k0_0 ⟨W2, Below.refl _ _⟩
      have zk0_1 : W2.cell? ⟨w.heap.size, 1, none⟩ = some (.slice A nA capA) := k0_1 ⟨W2, Below.refl _ _⟩
      have zk0_2 : W2.cell? ⟨w.heap.size, 2, none⟩ = some (.int .i64 wdA) := k0_2 ⟨W2, Below.refl _ _⟩
      have zk1_0 : W2.cell? ⟨w.heap.size + 1, 0, none⟩ = some (.string nmB) := k1_0 ⟨W2, Below.refl _ _⟩
      have zk1_1 : W2.cell? ⟨w.heap.size + 1, 1, none⟩ = some (.slice B nB capB) := k1_1 ⟨W2, Below.refl _ _⟩
      have zk1_2 : W2.cell? ⟨w.heap.size + 1, 2, none⟩ = some (.int .i64 wdB) := k1_2 ⟨W2, Below.refl _ _⟩
      have zm1_0 : W2.cell? ⟨x4.w1.heap.size, 0, none⟩ = some (.string nmA) := m1_0 ⟨W2, Below.refl _ _⟩
      have zm1_1 : W2.cell? ⟨x4.w1.heap.size, 1, none⟩ = some (.slice (some ⟨g4, 0, none⟩) nA nA) := m1_1 ⟨W2, Below.refl _ _⟩
      have zm1_2 : W2.cell? ⟨x4.w1.heap.size, 2, none⟩ = some (.int .i64 wdA) := m1_2 ⟨W2, Below.refl _ _⟩
      have zm2_0 : W2.cell? ⟨x5.w1.heap.size, 0, none⟩ = some (.string nmB) := m2_0 ⟨W2, Below.refl _ _⟩
      have zm2_1 : W2.cell? ⟨x5.w1.heap.size, 1, none⟩ = some (.slice (some ⟨g5, 0, none⟩) nB nB) := m2_1 ⟨W2, Below.refl _ _⟩
      have zm2_2 : W2.cell? ⟨x5.w1.heap.size, 2, none⟩ = some (.int .i64 wdB) := m2_2 ⟨W2, Below.refl _ _⟩
      refine (HI.out _ _ _ _ _ nA2 nB2 xa xb).mono ?_
      rintro e w6 ⟨rfl, b6⟩
      obtain ⟨x6, rfl⟩ : ∃ x : Aft W2, w6 = x.w1 := ⟨⟨w6, b6⟩, rfl⟩
      clear zk0_0 zk0_1 zk0_2 zk1_0 zk1_1 zk1_2 zm1_0 zm1_1 zm1_2 zm2_0 zm2_1 zm2_2
      go_wp2_with fail
      have tk0_0 := k0_0 x6
      have tk0_1 := k0_1 x6
      have tk0_2 := k0_2 x6
      have tk1_0 := k1_0 x6
      have tk1_1 := k1_1 x6
      have tk1_2 := k1_2 x6
      have tm1_0 := m1_0 x6
      have tm1_1 := m1_1 x6
      have tm1_2 := m1_2 x6
      have tm2_0 := m2_0 x6
      have tm2_1 := m2_1 x6
      have tm2_2 := m2_2 x6
      go_region_held3 (fun w' => w'.cell? ⟨w.heap.size, 0, none⟩ = some (.string nmA) ∧ w'.cell? ⟨w.heap.size, 1, none⟩ = some (.slice A nA capA) ∧ w'.cell? ⟨w.heap.size, 2, none⟩ = some (.int .i64 wdA) ∧ w'.cell? ⟨w.heap.size + 1, 0, none⟩ = some (.string nmB) ∧ w'.cell? ⟨w.heap.size + 1, 1, none⟩ = some (.slice B nB capB) ∧ w'.cell? ⟨w.heap.size + 1, 2, none⟩ = some (.int .i64 wdB) ∧ w'.cell? ⟨x4.w1.heap.size, 0, none⟩ = some (.string nmA) ∧ w'.cell? ⟨x4.w1.heap.size, 1, none⟩ = some (.slice (some ⟨g4, 0, none⟩) nA nA) ∧ w'.cell? ⟨x4.w1.heap.size, 2, none⟩ = some (.int .i64 wdA) ∧ w'.cell? ⟨x5.w1.heap.size, 0, none⟩ = some (.string nmB) ∧ w'.cell? ⟨x5.w1.heap.size, 1, none⟩ = some (.slice (some ⟨g5, 0, none⟩) nB nB) ∧ w'.cell? ⟨x5.w1.heap.size, 2, none⟩ = some (.int .i64 wdB))
        (first | go_keep | exact ⟨k0_0 y7, k0_1 y7, k0_2 y7, k1_0 y7, k1_1 y7, k1_2 y7, m1_0 y7, m1_1 y7, m1_2 y7, m2_0 y7, m2_1 y7, m2_2 y7⟩)
        (first
          | (go_at_call_of 33 nmA; refine (toChannel_c nmA A nA _ wdA A0 A1 _ nA2 (hA.below x6.below.drew)).mono ?_; rintro e u7 ⟨g7, rfl, F⟩; have hr7 := F.rec; obtain ⟨y7, rfl⟩ : ∃ x : Aft W2, u7 = x.w1 := ⟨⟨u7, held_next x6.below.drew F.bel⟩, rfl⟩; clear F)
          | (go_at_call 35; refine (eqChannel_same nmA _ _ nA _ _ wdA A0 A1 _ nA2 (xa.aft y7) hr7).mono ?_; rintro e u7 ⟨rfl, b7⟩; obtain ⟨y7, rfl⟩ : ∃ x : Aft W2, u7 = x.w1 := ⟨⟨u7, held_next y7.below b7⟩, rfl⟩))
      clear tk0_0
      clear tk0_1
      clear tk0_2
      clear tk1_0
      clear tk1_1
      clear tk1_2
      clear tm1_0
      clear tm1_1
      clear tm1_2
      clear tm2_0
      clear tm2_1
      clear tm2_2
      go_wp2_with fail
      have tk0_0 := k0_0 y7
      have tk0_1 := k0_1 y7
      have tk0_2 := k0_2 y7
      have tk1_0 := k1_0 y7
      have tk1_1 := k1_1 y7
      have tk1_2 := k1_2 y7
      have tm1_0 := m1_0 y7
      have tm1_1 := m1_1 y7
      have tm1_2 := m1_2 y7
      have tm2_0 := m2_0 y7
      have tm2_1 := m2_1 y7
      have tm2_2 := m2_2 y7
      go_region_held3 (fun w' => w'.cell? ⟨w.heap.size, 0, none⟩ = some (.string nmA) ∧ w'.cell? ⟨w.heap.size, 1, none⟩ = some (.slice A nA capA) ∧ w'.cell? ⟨w.heap.size, 2, none⟩ = some (.int .i64 wdA) ∧ w'.cell? ⟨w.heap.size + 1, 0, none⟩ = some (.string nmB) ∧ w'.cell? ⟨w.heap.size + 1, 1, none⟩ = some (.slice B nB capB) ∧ w'.cell? ⟨w.heap.size + 1, 2, none⟩ = some (.int .i64 wdB) ∧ w'.cell? ⟨x4.w1.heap.size, 0, none⟩ = some (.string nmA) ∧ w'.cell? ⟨x4.w1.heap.size, 1, none⟩ = some (.slice (some ⟨g4, 0, none⟩) nA nA) ∧ w'.cell? ⟨x4.w1.heap.size, 2, none⟩ = some (.int .i64 wdA) ∧ w'.cell? ⟨x5.w1.heap.size, 0, none⟩ = some (.string nmB) ∧ w'.cell? ⟨x5.w1.heap.size, 1, none⟩ = some (.slice (some ⟨g5, 0, none⟩) nB nB) ∧ w'.cell? ⟨x5.w1.heap.size, 2, none⟩ = some (.int .i64 wdB))
        (first | go_keep | exact ⟨k0_0 y8, k0_1 y8, k0_2 y8, k1_0 y8, k1_1 y8, k1_2 y8, m1_0 y8, m1_1 y8, m1_2 y8, m2_0 y8, m2_1 y8, m2_2 y8⟩)
        (first
          | (go_at_call_of 33 nmB; refine (toChannel_c nmB B nB _ wdB B0 B1 _ nB2 (hB.below y7.below.drew)).mono ?_; rintro e u8 ⟨g8, rfl, F⟩; have hr8 := F.rec; obtain ⟨y8, rfl⟩ : ∃ x : Aft W2, u8 = x.w1 := ⟨⟨u8, held_next y7.below.drew F.bel⟩, rfl⟩; clear F)
          | (go_at_call 35; refine (eqChannel_same nmB _ _ nB _ _ wdB B0 B1 _ nB2 (xb.aft y8) hr8).mono ?_; rintro e u8 ⟨rfl, b8⟩; obtain ⟨y8, rfl⟩ : ∃ x : Aft W2, u8 = x.w1 := ⟨⟨u8, held_next y8.below b8⟩, rfl⟩))
      clear tk0_0
      clear tk0_1
      clear tk0_2
      clear tk1_0
      clear tk1_1
      clear tk1_2
      clear tm1_0
      clear tm1_1
      clear tm1_2
      clear tm2_0
      clear tm2_1
      clear tm2_2
      go_wp2
      go_ret
      exact ⟨rfl, held_next hb y8.below⟩
namespace fnExactSameChannelDone
open Go.ChangeShapes Go.WideShapes Go.ChangeAt Go.RowKit Go.Joins
open Go.ChangeMaps (open_string shut_string)
theorem arr3 {cs : Array Value} (h : cs.size = 3) : ∃ c0 c1 c2, cs = #[c0, c1, c2] := by
  obtain ⟨l⟩ := cs
  match l, h with
  | [c0, c1, c2], _ => exact ⟨c0, c1, c2, rfl⟩
set_option maxRecDepth 100000 in
theorem lifted (os : Os) (started : os.Started) (H : Type) (enc : TypeId × Value → H) :
    ReturnsInHanded {} Try.checked os 8 .any (Rows.fnExactSameChannelSpec.pre6 enc Try.prog Try.f8 Rows.fnExactSameChannelRow.domain false) (Rows.fnExactSameChannelSpec.post enc Try.prog Try.f8 false true false false) := by
  refine returnsInHanded_of_change (C := Try.checked) lawOwn started (by kernel_rfl) Try.func8
    (ChangeSpec.witness6 (enc := enc) (C := Try.checked) false ⟨#[], #[.agg #[.string ByteArray.empty, .slice none 0 0, .int .i64 0], .agg #[.string ByteArray.empty, .slice none 0 0, .int .i64 0]], []⟩ 8 (by kernel_rfl) (by kernel_rfl) (by kernel_rfl) (by kernel_rfl)) ?_
  intro W base args ds gs before hval0 hW hcnd _
  have hval : ∀ (j : Nat) t v, Try.f8.params[j]? = some t → args[j]? = some v → Value.okWide Try.prog W .any base t v := hval0
  have hW' := hW
  obtain ⟨p, q, hA0, hV, rfl, hfz, hnd⟩ := hW
  have hA : DataW.TrodAll enc Try.prog W 0 (fun _ => true) true Try.f8.params.toList args.toList ds p := hA0
  rw [Try.params8] at hA hval
  obtain ⟨v0, vs0, d0, ds0, p0, q0, hargs, rfl, rfl, h0, r0⟩ := trodAll_cons hA
  obtain ⟨v1, vs1, d1, ds1, p1, q1, rfl, rfl, rfl, h1, r1⟩ := trodAll_cons r0
  obtain ⟨rfl, rfl, rfl⟩ := trodAll_nil r1
  obtain rfl : args = #[v0, v1] := by cases args; simp_all
  obtain ⟨rfl, rfl⟩ := trodVars_none hV
  have k0 := h0
  have lt0 : ∀ x ∈ p0, x.block < W.heap.size := by obtain ⟨m, hm⟩ := k0; exact DataW.trod_lt m _ _ _ hm
  have k1 := h1
  have lt1 : ∀ x ∈ p1, x.block < W.heap.size := by obtain ⟨m, hm⟩ := k1; exact DataW.trod_lt m _ _ _ hm
  suffices hwalk : Calls Try.prog 8 #[v0, v1] W fun e w' => e = .returned (.bool true) ∧ Below W.heap.size W w' by
    refine hwalk.mono fun e W' ⟨he, bel⟩ => ?_
    subst he
    exact ⟨_, rfl, _, _, _, [], _, [], hW', trodAll_mk1 (shut_bool Try.underlying4 _), (trodAll_cons_mk (Below.trod lawLaid (by kernel_rfl) (of_decide_eq_true (by kernel_rfl)) k0 bel lt0) (trodAll_cons_mk (Below.trod lawLaid (by kernel_rfl) (of_decide_eq_true (by kernel_rfl)) k1 bel lt1) trodAll_mk0)), rfl, bel.frame _, fun h => by cases h⟩
  clear hA0 hval0
  obtain ⟨cs0, rfl, hz0⟩ := okWide_struct Try.underlying42 (hval 0 42 v0 rfl rfl)
  have hq0 := agg_leaves (ks := [1, 42, 0]) 6 (by kernel_rfl) (by kernel_rfl) h0
  obtain ⟨c0_0, c0_1, c0_2, rfl⟩ := arr3 (hz0.trans (by kernel_rfl))
  obtain ⟨u0_0, e0_0, l0_0⟩ := hq0 0 _ rfl
  obtain rfl : c0_0 = u0_0 := Option.some.inj e0_0
  obtain ⟨a0_0, rfl, w0_0⟩ := l0_0.1.2 rfl
  obtain ⟨u0_1, e0_1, l0_1⟩ := hq0 1 _ rfl
  obtain rfl : c0_1 = u0_1 := Option.some.inj e0_1
  obtain ⟨a0_1, len0_1, cap0_1, rfl, w0_1, g0_1⟩ := l0_1.2 40 rfl
  have r0_1 := g0_1 70 [0, 0] Try.underlying40 (by kernel_rfl) (by kernel_rfl) (by decide)
  obtain ⟨u0_2, e0_2, l0_2⟩ := hq0 2 _ rfl
  obtain rfl : c0_2 = u0_2 := Option.some.inj e0_2
  obtain ⟨a0_2, rfl, w0_2⟩ := l0_2.1.1 rfl
  obtain ⟨cs1, rfl, hz1⟩ := okWide_struct Try.underlying42 (hval 1 42 v1 rfl rfl)
  have hq1 := agg_leaves (ks := [1, 42, 0]) 6 (by kernel_rfl) (by kernel_rfl) h1
  obtain ⟨c1_0, c1_1, c1_2, rfl⟩ := arr3 (hz1.trans (by kernel_rfl))
  obtain ⟨u1_0, e1_0, l1_0⟩ := hq1 0 _ rfl
  obtain rfl : c1_0 = u1_0 := Option.some.inj e1_0
  obtain ⟨a1_0, rfl, w1_0⟩ := l1_0.1.2 rfl
  obtain ⟨u1_1, e1_1, l1_1⟩ := hq1 1 _ rfl
  obtain rfl : c1_1 = u1_1 := Option.some.inj e1_1
  obtain ⟨a1_1, len1_1, cap1_1, rfl, w1_1, g1_1⟩ := l1_1.2 40 rfl
  have r1_1 := g1_1 70 [0, 0] Try.underlying40 (by kernel_rfl) (by kernel_rfl) (by decide)
  obtain ⟨u1_2, e1_2, l1_2⟩ := hq1 2 _ rfl
  obtain rfl : c1_2 = u1_2 := Option.some.inj e1_2
  obtain ⟨a1_2, rfl, w1_2⟩ := l1_2.1.1 rfl
  exact fnExactSameChannel_walk (w := W) a0_0 w0_0 a0_1 len0_1 cap0_1 w0_1 r0_1 a0_2 w0_2 a1_0 w1_0 a1_1 len1_1 cap1_1 w1_1 r1_1 a1_2 w1_2

theorem over : Rows.fnExactSameChannelRow.holds Try.pinned (OpenSpec.ofChange Rows.fnExactSameChannelSpec) :=
  OpenClaim.holds_of_wide 8 Try.f8 rfl rfl rfl rfl rfl rfl rfl ⟨rfl, rfl, rfl, rfl, rfl⟩ rfl rfl rfl rfl rfl (by kernel_rfl) Try.func8 (by kernel_rfl)
    (of_decide_eq_true (by kernel_rfl)) (by unfold Func.isWrapper; first | (rw [if_pos (by decide +kernel)]; kernel_rfl) | (rw [if_neg (by decide +kernel)]; exact ⟨rfl, rfl⟩))
    (fun os started H enc _ => lifted os started H enc)

theorem proved : Rows.FnExactSameChannelSaid := over
#print axioms proved
end fnExactSameChannelDone
end Go.Proofs.Ytfmljppofkocmaa
