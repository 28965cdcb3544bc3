/- The program's PlaceAlong answers as the reference's, for all arguments. -/
import Derived.Test.YtimfpnmcdicldaaPlace
import Derived.Deep.RegionHeld3
namespace Go.Proofs.Ytimfpnmcdicldaa
open Go Go.RowKit
theorem place_J (nm : ByteArray) (n : Nat) (X Y : Nat → Int) (wd d : Int) : ∃ J, okChan nm n X Y wd = true → inR d 0 (lenI X Y (n - 1)) = true → FirstSeg X Y n d J := by
  by_cases h1 : okChan nm n X Y wd = true
  · by_cases h2 : inR d 0 (lenI X Y (n - 1)) = true
    · obtain ⟨_, n2, _⟩ := okChan_yes h1
      obtain ⟨J, hJ⟩ := first_seg n2 (inR_iff.1 h2).2
      exact ⟨J, fun _ _ => hJ⟩
    · exact ⟨0, fun _ h => absurd h h2⟩
  · exact ⟨0, fun h _ => absurd h h1⟩
set_option maxHeartbeats 8000000 in
theorem fnExactPlaceAlong_walk {w : World} (nmA : ByteArray) (hsA : nmA.size ≤ maxLen) (A : Option Addr) (nA capA : Nat) (hnA : nA ≤ maxLen) (hrA : Rows0 [0, 0] w A nA) (wdA : Int) (_wwA : (Lit.int .i64 wdA).wf = true) (D : Int) (wD : (Lit.int .i64 D).wf = true) :
    Calls Try.prog 3 #[.agg #[.string nmA, .slice A nA capA, .int .i64 wdA], .int .i64 D] w fun e w' => e = .returned (.bool true) ∧ Below w.heap.size w w' := by
  obtain ⟨A0, A1, hA, hwA⟩ := rowsPoint hrA
  clear hrA
  obtain ⟨rx, ry, c, HP, HI⟩ : ∃ rx ry c : Int, Hid (∀ (A : Option Addr) (ca : Nat) (W : World), nA ≤ 1048576 → Rec 2 W A nA (vPoint A0 A1) → Calls Try.prog 11 #[.agg #[.string nmA, .slice A nA ca, .int .i64 wdA], .int .i64 D] W fun e w' => e = .returned (.tuple #[.agg #[.int .i64 rx, .int .i64 ry], .int .i64 c]) ∧ Below W.heap.size W w') ∧ Hid (∀ (A : Option Addr) (ca : Nat) (W : World), nA ≤ 1048576 → Rec 2 W A nA (vPoint A0 A1) → Calls Try.prog 13 #[.agg #[.string nmA, .slice A nA ca, .int .i64 wdA], .int .i64 D] W fun e w' => e = .returned (.tuple #[.agg #[.int .i64 rx, .int .i64 ry], .int .i64 c]) ∧ Below W.heap.size W w') := by
    obtain ⟨J, hJ⟩ := place_J nmA nA A0 A1 wdA D
    exact ⟨_, _, _, Lib.hid (fun A ca W hA hrA => specPlace_c nmA A nA ca wdA A0 A1 D J W hsA hA _ _ rfl rfl hJ hrA), Lib.hid (fun A ca W hA hrA => implPlace_c nmA A nA ca wdA A0 A1 D J W hsA hA _ _ rfl rfl hJ hrA)⟩
  have hA := hA.below (w' := (w.alloc (.cells #[.string nmA, .slice A nA capA, .int .i64 wdA] 24))) (by repeat (first | exact Below.refl _ _ | refine Below.alloc ?_ (by simp; try omega) _ | refine Below.drew ?_))
  have k0_0 : ∀ y : Aft (w.alloc (.cells #[.string nmA, .slice A nA capA, .int .i64 wdA] 24)), y.w1.cell? ⟨w.heap.size, 0, none⟩ = some (.string nmA) := fun y => y.cell (by simp; try omega) (by simp [go_sem])
  have k0_1 : ∀ y : Aft (w.alloc (.cells #[.string nmA, .slice A nA capA, .int .i64 wdA] 24)), y.w1.cell? ⟨w.heap.size, 1, none⟩ = some (.slice A nA capA) := fun y => y.cell (by simp; try omega) (by simp [go_sem])
  have k0_2 : ∀ y : Aft (w.alloc (.cells #[.string nmA, .slice A nA capA, .int .i64 wdA] 24)), y.w1.cell? ⟨w.heap.size, 2, none⟩ = some (.int .i64 wdA) := fun y => y.cell (by simp; try omega) (by simp [go_sem])
  go_enter Try.func3, Try.ntmps3
  go_wp2_with fail
  generalize hW : (w.alloc (.cells #[.string nmA, .slice A nA capA, .int .i64 wdA] 24)) = W0 at *
  have hb : Below w.heap.size w W0 := hW ▸ (by repeat (first | exact Below.refl _ _ | refine Below.alloc ?_ (by simp; try omega) _ | refine Below.drew ?_))
  clear hW
  refine (szChannel_c nmA A nA _ wdA _ hsA hnA (by omega) (by omega) _).mono ?_
  rintro e w1 ⟨rfl | ⟨r, r0, r1, rfl⟩, b1⟩
  · go_wp2
    go_ret
    exact ⟨rfl, held_next hb b1⟩
  · skip
    obtain ⟨x1, rfl⟩ : ∃ x : Aft W0, w1 = x.w1 := ⟨⟨w1, b1⟩, rfl⟩
    have nA2 : nA ≤ 1048576 := by omega
    clear r1
    go_wp2_with fail
    refine (toChannel_c nmA A nA _ wdA A0 A1 _ nA2 (hA.aft x1)).mono ?_
    rintro e w2 ⟨g2, rfl, F⟩
    have ra := Lib.hid F.rec
    obtain ⟨x2, rfl⟩ : ∃ x : Aft W0, w2 = x.w1 := ⟨⟨w2, (held_next x1.below F.bel)⟩, rfl⟩
    clear F
    go_wp2_with fail
    refine (HP.out _ _ _ nA2 ra.out).mono ?_
    rintro e w3 ⟨rfl, b3⟩
    obtain ⟨x3, rfl⟩ : ∃ x : Aft W0, w3 = x.w1 := ⟨⟨w3, (held_next x2.below b3)⟩, rfl⟩
    clear ra
    have ak0_0 : ∀ o, (x3.w1.alloc o).cell? ⟨w.heap.size, 0, none⟩ = some (.string nmA) := fun o => (cell_past (cell_lt (k0_0 x3)) o 0).trans (k0_0 x3)
    have ak0_1 : ∀ o, (x3.w1.alloc o).cell? ⟨w.heap.size, 1, none⟩ = some (.slice A nA capA) := fun o => (cell_past (cell_lt (k0_1 x3)) o 1).trans (k0_1 x3)
    have ak0_2 : ∀ o, (x3.w1.alloc o).cell? ⟨w.heap.size, 2, none⟩ = some (.int .i64 wdA) := fun o => (cell_past (cell_lt (k0_2 x3)) o 2).trans (k0_2 x3)
    go_wp2_with fail
    clear ak0_0 ak0_1 ak0_2
    generalize hW : x3.w1.alloc (.cells #[.int .i64 rx, .int .i64 ry] 27) = W1 at *
    have bb : Below x3.w1.heap.size x3.w1 W1 := hW ▸ (by repeat (first | exact Below.refl _ _ | refine Below.alloc ?_ (by simp; try omega) _ | refine Below.drew ?_))
    have m1_0 : ∀ y : Aft W1, y.w1.cell? ⟨x3.w1.heap.size, 0, none⟩ = some (.int .i64 rx) := by subst hW; exact fun y => y.new rfl
    have m1_1 : ∀ y : Aft W1, y.w1.cell? ⟨x3.w1.heap.size, 1, none⟩ = some (.int .i64 ry) := by subst hW; exact fun y => y.new rfl
    replace k0_0 : ∀ y : Aft W1, y.w1.cell? ⟨w.heap.size, 0, none⟩ = some (.string nmA) := fun y => k0_0 ⟨y.w1, held_next (held_next x3.below bb) y.below⟩
    replace k0_1 : ∀ y : Aft W1, y.w1.cell? ⟨w.heap.size, 1, none⟩ = some (.slice A nA capA) := fun y => k0_1 ⟨y.w1, held_next (held_next x3.below bb) y.below⟩
    replace k0_2 : ∀ y : Aft W1, y.w1.cell? ⟨w.heap.size, 2, none⟩ = some (.int .i64 wdA) := fun y => k0_2 ⟨y.w1, held_next (held_next x3.below bb) y.below⟩
    replace hA := (hA.aft x3).below bb
    replace hb := held_next (held_next hb x3.below) bb
    clear hW bb
    have zk0_0 : W1.cell? ⟨w.heap.size, 0, none⟩ = some (.string nmA) := k0_0 ⟨W1, Below.refl _ _⟩
    have zk0_1 : W1.cell? ⟨w.heap.size, 1, none⟩ = some (.slice A nA capA) := k0_1 ⟨W1, Below.refl _ _⟩
    have zk0_2 : W1.cell? ⟨w.heap.size, 2, none⟩ = some (.int .i64 wdA) := k0_2 ⟨W1, Below.refl _ _⟩
    have zm1_0 : W1.cell? ⟨x3.w1.heap.size, 0, none⟩ = some (.int .i64 rx) := m1_0 ⟨W1, Below.refl _ _⟩
    have zm1_1 : W1.cell? ⟨x3.w1.heap.size, 1, none⟩ = some (.int .i64 ry) := m1_1 ⟨W1, Below.refl _ _⟩
    refine (toChannel_c nmA A nA _ wdA A0 A1 _ nA2 hA).mono ?_
    rintro e w4 ⟨g4, rfl, F⟩
    have xa := Lib.hid F.rec
    obtain ⟨x4, rfl⟩ : ∃ x : Aft W1, w4 = x.w1 := ⟨⟨w4, F.bel⟩, rfl⟩
    clear F
    clear zk0_0 zk0_1 zk0_2 zm1_0 zm1_1
    have ak0_0 : ∀ o, (x4.w1.alloc o).cell? ⟨w.heap.size, 0, none⟩ = some (.string nmA) := fun o => (cell_past (cell_lt (k0_0 x4)) o 0).trans (k0_0 x4)
    have ak0_1 : ∀ o, (x4.w1.alloc o).cell? ⟨w.heap.size, 1, none⟩ = some (.slice A nA capA) := fun o => (cell_past (cell_lt (k0_1 x4)) o 1).trans (k0_1 x4)
    have ak0_2 : ∀ o, (x4.w1.alloc o).cell? ⟨w.heap.size, 2, none⟩ = some (.int .i64 wdA) := fun o => (cell_past (cell_lt (k0_2 x4)) o 2).trans (k0_2 x4)
    have am1_0 : ∀ o, (x4.w1.alloc o).cell? ⟨x3.w1.heap.size, 0, none⟩ = some (.int .i64 rx) := fun o => (cell_past (cell_lt (m1_0 x4)) o 0).trans (m1_0 x4)
    have am1_1 : ∀ o, (x4.w1.alloc o).cell? ⟨x3.w1.heap.size, 1, none⟩ = some (.int .i64 ry) := fun o => (cell_past (cell_lt (m1_1 x4)) o 1).trans (m1_1 x4)
    go_wp2_with fail
    clear ak0_0 ak0_1 ak0_2 am1_0 am1_1
    generalize hW : x4.w1.alloc (.cells #[.string nmA, .slice (some ⟨g4, 0, none⟩) nA nA, .int .i64 wdA] 32) = W2 at *
    have bb : Below x4.w1.heap.size x4.w1 W2 := hW ▸ (by repeat (first | exact Below.refl _ _ | refine Below.alloc ?_ (by simp; try omega) _ | refine Below.drew ?_))
    have m2_0 : ∀ y : Aft W2, y.w1.cell? ⟨x4.w1.heap.size, 0, none⟩ = some (.string nmA) := by subst hW; exact fun y => y.new rfl
    have m2_1 : ∀ y : Aft W2, y.w1.cell? ⟨x4.w1.heap.size, 1, none⟩ = some (.slice (some ⟨g4, 0, none⟩) nA nA) := by subst hW; exact fun y => y.new rfl
    have m2_2 : ∀ y : Aft W2, y.w1.cell? ⟨x4.w1.heap.size, 2, none⟩ = some (.int .i64 wdA) := by subst hW; exact fun y => y.new rfl
    replace k0_0 : ∀ y : Aft W2, y.w1.cell? ⟨w.heap.size, 0, none⟩ = some (.string nmA) := fun y => k0_0 ⟨y.w1, held_next (held_next x4.below bb) y.below⟩
    replace k0_1 : ∀ y : Aft W2, y.w1.cell? ⟨w.heap.size, 1, none⟩ = some (.slice A nA capA) := fun y => k0_1 ⟨y.w1, held_next (held_next x4.below bb) y.below⟩
    replace k0_2 : ∀ y : Aft W2, y.w1.cell? ⟨w.heap.size, 2, none⟩ = some (.int .i64 wdA) := fun y => k0_2 ⟨y.w1, held_next (held_next x4.below bb) y.below⟩
    replace m1_0 : ∀ y : Aft W2, y.w1.cell? ⟨x3.w1.heap.size, 0, none⟩ = some (.int .i64 rx) := fun y => m1_0 ⟨y.w1, held_next (held_next x4.below bb) y.below⟩
    replace m1_1 : ∀ y : Aft W2, y.w1.cell? ⟨x3.w1.heap.size, 1, none⟩ = some (.int .i64 ry) := fun y => m1_1 ⟨y.w1, held_next (held_next x4.below bb) y.below⟩
    replace hA := (hA.aft x4).below bb
    replace xa := xa.out.below bb
    replace hb := held_next (held_next hb x4.below) bb
    clear hW bb
    have zk0_0 : W2.cell? ⟨w.heap.size, 0, none⟩ = some (.string nmA) := k0_0 ⟨W2, Below.refl _ _⟩
    have zk0_1 : W2.cell? ⟨w.heap.size, 1, none⟩ = some (.slice A nA capA) := k0_1 ⟨W2, Below.refl _ _⟩
    have zk0_2 : W2.cell? ⟨w.heap.size, 2, none⟩ = some (.int .i64 wdA) := k0_2 ⟨W2, Below.refl _ _⟩
    have zm1_0 : W2.cell? ⟨x3.w1.heap.size, 0, none⟩ = some (.int .i64 rx) := m1_0 ⟨W2, Below.refl _ _⟩
    have zm1_1 : W2.cell? ⟨x3.w1.heap.size, 1, none⟩ = some (.int .i64 ry) := m1_1 ⟨W2, Below.refl _ _⟩
    have zm2_0 : W2.cell? ⟨x4.w1.heap.size, 0, none⟩ = some (.string nmA) := m2_0 ⟨W2, Below.refl _ _⟩
    have zm2_1 : W2.cell? ⟨x4.w1.heap.size, 1, none⟩ = some (.slice (some ⟨g4, 0, none⟩) nA nA) := m2_1 ⟨W2, Below.refl _ _⟩
    have zm2_2 : W2.cell? ⟨x4.w1.heap.size, 2, none⟩ = some (.int .i64 wdA) := m2_2 ⟨W2, Below.refl _ _⟩
    refine (HI.out _ _ _ nA2 xa).mono ?_
    rintro e w5 ⟨rfl, b5⟩
    obtain ⟨x5, rfl⟩ : ∃ x : Aft W2, w5 = x.w1 := ⟨⟨w5, b5⟩, rfl⟩
    clear zk0_0 zk0_1 zk0_2 zm1_0 zm1_1 zm2_0 zm2_1 zm2_2
    have ak0_0 : ∀ o, (x5.w1.alloc o).cell? ⟨w.heap.size, 0, none⟩ = some (.string nmA) := fun o => (cell_past (cell_lt (k0_0 x5)) o 0).trans (k0_0 x5)
    have ak0_1 : ∀ o, (x5.w1.alloc o).cell? ⟨w.heap.size, 1, none⟩ = some (.slice A nA capA) := fun o => (cell_past (cell_lt (k0_1 x5)) o 1).trans (k0_1 x5)
    have ak0_2 : ∀ o, (x5.w1.alloc o).cell? ⟨w.heap.size, 2, none⟩ = some (.int .i64 wdA) := fun o => (cell_past (cell_lt (k0_2 x5)) o 2).trans (k0_2 x5)
    have am1_0 : ∀ o, (x5.w1.alloc o).cell? ⟨x3.w1.heap.size, 0, none⟩ = some (.int .i64 rx) := fun o => (cell_past (cell_lt (m1_0 x5)) o 0).trans (m1_0 x5)
    have am1_1 : ∀ o, (x5.w1.alloc o).cell? ⟨x3.w1.heap.size, 1, none⟩ = some (.int .i64 ry) := fun o => (cell_past (cell_lt (m1_1 x5)) o 1).trans (m1_1 x5)
    have am2_0 : ∀ o, (x5.w1.alloc o).cell? ⟨x4.w1.heap.size, 0, none⟩ = some (.string nmA) := fun o => (cell_past (cell_lt (m2_0 x5)) o 0).trans (m2_0 x5)
    have am2_1 : ∀ o, (x5.w1.alloc o).cell? ⟨x4.w1.heap.size, 1, none⟩ = some (.slice (some ⟨g4, 0, none⟩) nA nA) := fun o => (cell_past (cell_lt (m2_1 x5)) o 1).trans (m2_1 x5)
    have am2_2 : ∀ o, (x5.w1.alloc o).cell? ⟨x4.w1.heap.size, 2, none⟩ = some (.int .i64 wdA) := fun o => (cell_past (cell_lt (m2_2 x5)) o 2).trans (m2_2 x5)
    go_wp2_with fail
    clear ak0_0 ak0_1 ak0_2 am1_0 am1_1 am2_0 am2_1 am2_2
    generalize hW : x5.w1.alloc (.cells #[.int .i64 rx, .int .i64 ry] 27) = W3 at *
    have bb : Below x5.w1.heap.size x5.w1 W3 := hW ▸ (by repeat (first | exact Below.refl _ _ | refine Below.alloc ?_ (by simp; try omega) _ | refine Below.drew ?_))
    have m3_0 : ∀ y : Aft W3, y.w1.cell? ⟨x5.w1.heap.size, 0, none⟩ = some (.int .i64 rx) := by subst hW; exact fun y => y.new rfl
    have m3_1 : ∀ y : Aft W3, y.w1.cell? ⟨x5.w1.heap.size, 1, none⟩ = some (.int .i64 ry) := by subst hW; exact fun y => y.new rfl
    replace k0_0 : ∀ y : Aft W3, y.w1.cell? ⟨w.heap.size, 0, none⟩ = some (.string nmA) := fun y => k0_0 ⟨y.w1, held_next (held_next x5.below bb) y.below⟩
    replace k0_1 : ∀ y : Aft W3, y.w1.cell? ⟨w.heap.size, 1, none⟩ = some (.slice A nA capA) := fun y => k0_1 ⟨y.w1, held_next (held_next x5.below bb) y.below⟩
    replace k0_2 : ∀ y : Aft W3, y.w1.cell? ⟨w.heap.size, 2, none⟩ = some (.int .i64 wdA) := fun y => k0_2 ⟨y.w1, held_next (held_next x5.below bb) y.below⟩
    replace m1_0 : ∀ y : Aft W3, y.w1.cell? ⟨x3.w1.heap.size, 0, none⟩ = some (.int .i64 rx) := fun y => m1_0 ⟨y.w1, held_next (held_next x5.below bb) y.below⟩
    replace m1_1 : ∀ y : Aft W3, y.w1.cell? ⟨x3.w1.heap.size, 1, none⟩ = some (.int .i64 ry) := fun y => m1_1 ⟨y.w1, held_next (held_next x5.below bb) y.below⟩
    replace m2_0 : ∀ y : Aft W3, y.w1.cell? ⟨x4.w1.heap.size, 0, none⟩ = some (.string nmA) := fun y => m2_0 ⟨y.w1, held_next (held_next x5.below bb) y.below⟩
    replace m2_1 : ∀ y : Aft W3, y.w1.cell? ⟨x4.w1.heap.size, 1, none⟩ = some (.slice (some ⟨g4, 0, none⟩) nA nA) := fun y => m2_1 ⟨y.w1, held_next (held_next x5.below bb) y.below⟩
    replace m2_2 : ∀ y : Aft W3, y.w1.cell? ⟨x4.w1.heap.size, 2, none⟩ = some (.int .i64 wdA) := fun y => m2_2 ⟨y.w1, held_next (held_next x5.below bb) y.below⟩
    replace hA := (hA.aft x5).below bb
    replace xa := (xa.aft x5).below bb
    replace hb := held_next (held_next hb x5.below) bb
    clear hW bb
    have zk0_0 : W3.cell? ⟨w.heap.size, 0, none⟩ = some (.string nmA) := k0_0 ⟨W3, Below.refl _ _⟩
    have zk0_1 : W3.cell? ⟨w.heap.size, 1, none⟩ = some (.slice A nA capA) := k0_1 ⟨W3, Below.refl _ _⟩
    have zk0_2 : W3.cell? ⟨w.heap.size, 2, none⟩ = some (.int .i64 wdA) := k0_2 ⟨W3, Below.refl _ _⟩
    have zm1_0 : W3.cell? ⟨x3.w1.heap.size, 0, none⟩ = some (.int .i64 rx) := m1_0 ⟨W3, Below.refl _ _⟩
    have zm1_1 : W3.cell? ⟨x3.w1.heap.size, 1, none⟩ = some (.int .i64 ry) := m1_1 ⟨W3, Below.refl _ _⟩
    have zm2_0 : W3.cell? ⟨x4.w1.heap.size, 0, none⟩ = some (.string nmA) := m2_0 ⟨W3, Below.refl _ _⟩
    have zm2_1 : W3.cell? ⟨x4.w1.heap.size, 1, none⟩ = some (.slice (some ⟨g4, 0, none⟩) nA nA) := m2_1 ⟨W3, Below.refl _ _⟩
    have zm2_2 : W3.cell? ⟨x4.w1.heap.size, 2, none⟩ = some (.int .i64 wdA) := m2_2 ⟨W3, Below.refl _ _⟩
    have zm3_0 : W3.cell? ⟨x5.w1.heap.size, 0, none⟩ = some (.int .i64 rx) := m3_0 ⟨W3, Below.refl _ _⟩
    have zm3_1 : W3.cell? ⟨x5.w1.heap.size, 1, none⟩ = some (.int .i64 ry) := m3_1 ⟨W3, Below.refl _ _⟩
    refine (eqPoint_same rx ry _).mono ?_
    rintro e w6 ⟨rfl, b6⟩
    obtain ⟨x6, rfl⟩ : ∃ x : Aft W3, w6 = x.w1 := ⟨⟨w6, b6⟩, rfl⟩
    clear zk0_0 zk0_1 zk0_2 zm1_0 zm1_1 zm2_0 zm2_1 zm2_2 zm3_0 zm3_1
    go_wp2_with fail
    have tk0_0 := k0_0 x6
    have tk0_1 := k0_1 x6
    have tk0_2 := k0_2 x6
    have tm1_0 := m1_0 x6
    have tm1_1 := m1_1 x6
    have tm2_0 := m2_0 x6
    have tm2_1 := m2_1 x6
    have tm2_2 := m2_2 x6
    have tm3_0 := m3_0 x6
    have tm3_1 := m3_1 x6
    go_region_held3 (fun w' => w'.cell? ⟨w.heap.size, 0, none⟩ = some (.string nmA) ∧ w'.cell? ⟨w.heap.size, 1, none⟩ = some (.slice A nA capA) ∧ w'.cell? ⟨w.heap.size, 2, none⟩ = some (.int .i64 wdA) ∧ w'.cell? ⟨x3.w1.heap.size, 0, none⟩ = some (.int .i64 rx) ∧ w'.cell? ⟨x3.w1.heap.size, 1, none⟩ = some (.int .i64 ry) ∧ w'.cell? ⟨x4.w1.heap.size, 0, none⟩ = some (.string nmA) ∧ w'.cell? ⟨x4.w1.heap.size, 1, none⟩ = some (.slice (some ⟨g4, 0, none⟩) nA nA) ∧ w'.cell? ⟨x4.w1.heap.size, 2, none⟩ = some (.int .i64 wdA) ∧ w'.cell? ⟨x5.w1.heap.size, 0, none⟩ = some (.int .i64 rx) ∧ w'.cell? ⟨x5.w1.heap.size, 1, none⟩ = some (.int .i64 ry))
      (first | go_keep | exact ⟨k0_0 y7, k0_1 y7, k0_2 y7, m1_0 y7, m1_1 y7, m2_0 y7, m2_1 y7, m2_2 y7, m3_0 y7, m3_1 y7⟩)
      (first
        | (go_at_call_of 12 nmA; refine (toChannel_c nmA A nA _ wdA A0 A1 _ nA2 (hA.below x6.below.drew)).mono ?_; rintro e u7 ⟨g7, rfl, F⟩; have hr7 := F.rec; obtain ⟨y7, rfl⟩ : ∃ x : Aft W3, u7 = x.w1 := ⟨⟨u7, held_next x6.below.drew F.bel⟩, rfl⟩; clear F)
        | (go_at_call 15; refine (eqChannel_same nmA _ _ nA _ _ wdA A0 A1 _ nA2 (xa.aft y7) hr7).mono ?_; rintro e u7 ⟨rfl, b7⟩; obtain ⟨y7, rfl⟩ : ∃ x : Aft W3, u7 = x.w1 := ⟨⟨u7, held_next y7.below b7⟩, rfl⟩))
    clear tk0_0
    clear tk0_1
    clear tk0_2
    clear tm1_0
    clear tm1_1
    clear tm2_0
    clear tm2_1
    clear tm2_2
    clear tm3_0
    clear tm3_1
    go_wp2
    go_ret
    exact ⟨rfl, held_next hb y7.below⟩
namespace fnExactPlaceAlongDone
open Go.ChangeShapes Go.WideShapes Go.ChangeAt Go.RowKit Go.Joins
open Go.ChangeMaps (open_string shut_string)
theorem arr3 {cs : Array Value} (h : cs.size = 3) : ∃ c0 c1 c2, cs = #[c0, c1, c2] := by
  obtain ⟨l⟩ := cs
  match l, h with
  | [c0, c1, c2], _ => exact ⟨c0, c1, c2, rfl⟩
set_option maxRecDepth 100000 in
theorem lifted (os : Os) (started : os.Started) (H : Type) (enc : TypeId × Value → H) :
    ReturnsInHanded {} Try.checked os 3 .any (Rows.fnExactPlaceAlongSpec.pre6 enc Try.prog Try.f3 Rows.fnExactPlaceAlongRow.domain false) (Rows.fnExactPlaceAlongSpec.post enc Try.prog Try.f3 false true false false) := by
  refine returnsInHanded_of_change (C := Try.checked) lawOwn started (by kernel_rfl) Try.func3
    (ChangeSpec.witness6 (enc := enc) (C := Try.checked) false ⟨#[], #[.agg #[.string ByteArray.empty, .slice none 0 0, .int .i64 0], .int .i64 0], []⟩ 8 (by kernel_rfl) (by kernel_rfl) (by kernel_rfl) (by kernel_rfl)) ?_
  intro W base args ds gs before hval0 hW hcnd _
  have hval : ∀ (j : Nat) t v, Try.f3.params[j]? = some t → args[j]? = some v → Value.okWide Try.prog W .any base t v := hval0
  have hW' := hW
  obtain ⟨p, q, hA0, hV, rfl, hfz, hnd⟩ := hW
  have hA : DataW.TrodAll enc Try.prog W 0 (fun _ => true) true Try.f3.params.toList args.toList ds p := hA0
  rw [Try.params3] at hA hval
  obtain ⟨v0, vs0, d0, ds0, p0, q0, hargs, rfl, rfl, h0, r0⟩ := trodAll_cons hA
  obtain ⟨v1, vs1, d1, ds1, p1, q1, rfl, rfl, rfl, h1, r1⟩ := trodAll_cons r0
  obtain ⟨rfl, rfl, rfl⟩ := trodAll_nil r1
  obtain rfl : args = #[v0, v1] := by cases args; simp_all
  obtain ⟨rfl, rfl⟩ := trodVars_none hV
  have k0 := h0
  have lt0 : ∀ x ∈ p0, x.block < W.heap.size := by obtain ⟨m, hm⟩ := k0; exact DataW.trod_lt m _ _ _ hm
  have k1 := h1
  have lt1 : ∀ x ∈ p1, x.block < W.heap.size := by obtain ⟨m, hm⟩ := k1; exact DataW.trod_lt m _ _ _ hm
  suffices hwalk : Calls Try.prog 3 #[v0, v1] W fun e w' => e = .returned (.bool true) ∧ Below W.heap.size W w' by
    refine hwalk.mono fun e W' ⟨he, bel⟩ => ?_
    subst he
    exact ⟨_, rfl, _, _, _, [], _, [], hW', trodAll_mk1 (shut_bool Try.underlying4 _), (trodAll_cons_mk (Below.trod lawLaid (by kernel_rfl) (of_decide_eq_true (by kernel_rfl)) k0 bel lt0) (trodAll_cons_mk (Below.trod lawLaid (by kernel_rfl) (of_decide_eq_true (by kernel_rfl)) k1 bel lt1) trodAll_mk0)), rfl, bel.frame _, fun h => by cases h⟩
  clear hA0 hval0
  obtain ⟨cs0, rfl, hz0⟩ := okWide_struct Try.underlying24 (hval 0 24 v0 rfl rfl)
  have hq0 := agg_leaves (ks := [1, 24, 0]) 6 (by kernel_rfl) (by kernel_rfl) h0
  obtain ⟨c0_0, c0_1, c0_2, rfl⟩ := arr3 (hz0.trans (by kernel_rfl))
  obtain ⟨u0_0, e0_0, l0_0⟩ := hq0 0 _ rfl
  obtain rfl : c0_0 = u0_0 := Option.some.inj e0_0
  obtain ⟨a0_0, rfl, w0_0⟩ := l0_0.1.2 rfl
  obtain ⟨u0_1, e0_1, l0_1⟩ := hq0 1 _ rfl
  obtain rfl : c0_1 = u0_1 := Option.some.inj e0_1
  obtain ⟨a0_1, len0_1, cap0_1, rfl, w0_1, g0_1⟩ := l0_1.2 22 rfl
  have r0_1 := g0_1 37 [0, 0] Try.underlying22 (by kernel_rfl) (by kernel_rfl) (by decide)
  obtain ⟨u0_2, e0_2, l0_2⟩ := hq0 2 _ rfl
  obtain rfl : c0_2 = u0_2 := Option.some.inj e0_2
  obtain ⟨a0_2, rfl, w0_2⟩ := l0_2.1.1 rfl
  obtain ⟨a1, rfl, rfl, rfl, w1⟩ := open_int Try.underlying2 (hval 1 2 v1 rfl rfl) h1
  exact fnExactPlaceAlong_walk (w := W) a0_0 w0_0 a0_1 len0_1 cap0_1 w0_1 r0_1 a0_2 w0_2 a1 w1

theorem over : Rows.fnExactPlaceAlongRow.holds Try.pinned (OpenSpec.ofChange Rows.fnExactPlaceAlongSpec) :=
  OpenClaim.holds_of_wide 3 Try.f3 rfl rfl rfl rfl rfl rfl rfl ⟨rfl, rfl, rfl, rfl, rfl⟩ rfl rfl rfl rfl rfl (by kernel_rfl) Try.func3 (by kernel_rfl)
    (of_decide_eq_true (by kernel_rfl)) (by unfold Func.isWrapper; first | (rw [if_pos (by decide +kernel)]; kernel_rfl) | (rw [if_neg (by decide +kernel)]; exact ⟨rfl, rfl⟩))
    (fun os started H enc _ => lifted os started H enc)

theorem proved : Rows.FnExactPlaceAlongSaid := over
#print axioms proved
end fnExactPlaceAlongDone
end Go.Proofs.Ytimfpnmcdicldaa
