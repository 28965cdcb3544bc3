/- InChannel: the program and the reference. -/
import Derived.Test.YtimfpnmcdicldaaNear
namespace Go.Proofs.Ytimfpnmcdicldaa
open Go Go.RowKit
def inB (v1 v2 : Bool) (X Y : Nat → Int) (n : Nat) (wd x y : Int) : Bool := v1 && (v2 && decide (gapN X Y x y (nearF (gapN X Y x y) (n - 2)) ≤ wd / 2))
set_option maxRecDepth 100000 in
set_option maxHeartbeats 4000000 in
theorem specIn_c (nm : ByteArray) (A : Option Addr) (n cap : Nat) (wd : Int) (X Y : Nat → Int) (x y : Int) (w : World) (hs : nm.size ≤ maxLen) (hn : n ≤ 1048576) (v1 v2 : Bool) (hv1 : okChan nm n X Y wd = v1) (h2 : okP x y = v2) (hR : Rec 2 w A n (vPoint X Y)) :
    Calls Try.prog 16 #[.agg #[.string nm, .slice A n cap, .int .i64 wd], .agg #[.int .i64 x, .int .i64 y]] w fun e w' => e = .returned (.bool (inB v1 v2 X Y n wd x y)) ∧ Below w.heap.size w w' := by
  have HO := Lib.hid (fun g W h c0 c1 c2 => l13Ok_c g nm A n cap wd X Y W hs hn h c0 c1 c2)
  have HK := Lib.hid (fun W => l02Ok_c x y v2 h2 W)
  unfold inB
  cases v1
  · rw [Bool.false_and]
    go_enter Try.func16, Try.ntmps16
    go_wp2_with fail
    generalize hW : (w.alloc (.cells #[.string nm, .slice A n cap, .int .i64 wd] 32)).alloc (.cells #[.int .i64 x, .int .i64 y] 27) = W
    have hbW : Below w.heap.size w W := hW ▸ (by repeat (first | exact Below.refl _ _ | refine Below.alloc ?_ (by simp; try omega) _ | refine Below.drew ?_))
    have k0 : W.cell? ⟨w.heap.size, 0, none⟩ = some (.string nm) := by subst hW; simp [go_sem]
    have k1 : W.cell? ⟨w.heap.size, 1, none⟩ = some (.slice A n cap) := by subst hW; simp [go_sem]
    have k2 : W.cell? ⟨w.heap.size, 2, none⟩ = some (.int .i64 wd) := by subst hW; simp [go_sem]
    have k3 : W.cell? ⟨w.heap.size + 1, 0, none⟩ = some (.int .i64 x) := by subst hW; simp [go_sem]
    have k4 : W.cell? ⟨w.heap.size + 1, 1, none⟩ = some (.int .i64 y) := by subst hW; simp [go_sem]
    clear hW
    refine (HO.out _ _ (hR.below hbW) k0 k1 k2).mono ?_
    rintro e w1 ⟨rfl, hb1⟩
    rw [hv1]
    have hbz := held_next hbW hb1
    clear k0 k1 k2 k3 k4
    go_wp2
    go_ret
    exact ⟨rfl, hbz⟩
  · rw [Bool.true_and]
    cases v2
    · rw [Bool.false_and]
      go_enter Try.func16, Try.ntmps16
      go_wp2_with fail
      generalize hW : (w.alloc (.cells #[.string nm, .slice A n cap, .int .i64 wd] 32)).alloc (.cells #[.int .i64 x, .int .i64 y] 27) = W
      have hbW : Below w.heap.size w W := hW ▸ (by repeat (first | exact Below.refl _ _ | refine Below.alloc ?_ (by simp; try omega) _ | refine Below.drew ?_))
      have k0 : W.cell? ⟨w.heap.size, 0, none⟩ = some (.string nm) := by subst hW; simp [go_sem]
      have k1 : W.cell? ⟨w.heap.size, 1, none⟩ = some (.slice A n cap) := by subst hW; simp [go_sem]
      have k2 : W.cell? ⟨w.heap.size, 2, none⟩ = some (.int .i64 wd) := by subst hW; simp [go_sem]
      have k3 : W.cell? ⟨w.heap.size + 1, 0, none⟩ = some (.int .i64 x) := by subst hW; simp [go_sem]
      have k4 : W.cell? ⟨w.heap.size + 1, 1, none⟩ = some (.int .i64 y) := by subst hW; simp [go_sem]
      clear hW
      refine (HO.out _ _ (hR.below hbW) k0 k1 k2).mono ?_
      rintro e w1 ⟨rfl, hb1⟩
      rw [hv1]
      have hbz := held_next hbW hb1
      have j0 : w1.cell? ⟨w.heap.size, 0, none⟩ = some (.string nm) := (hb1.cell (p := ⟨w.heap.size, 0, none⟩) (cell_lt k0)).trans k0
      have j1 : w1.cell? ⟨w.heap.size, 1, none⟩ = some (.slice A n cap) := (hb1.cell (p := ⟨w.heap.size, 1, none⟩) (cell_lt k1)).trans k1
      have j2 : w1.cell? ⟨w.heap.size, 2, none⟩ = some (.int .i64 wd) := (hb1.cell (p := ⟨w.heap.size, 2, none⟩) (cell_lt k2)).trans k2
      have j3 : w1.cell? ⟨w.heap.size + 1, 0, none⟩ = some (.int .i64 x) := (hb1.cell (p := ⟨w.heap.size + 1, 0, none⟩) (cell_lt k3)).trans k3
      have j4 : w1.cell? ⟨w.heap.size + 1, 1, none⟩ = some (.int .i64 y) := (hb1.cell (p := ⟨w.heap.size + 1, 1, none⟩) (cell_lt k4)).trans k4
      clear k0 k1 k2 k3 k4
      go_wp2_with fail
      refine (HK.out _).mono ?_
      rintro e w2 ⟨rfl, hb2⟩
      clear j0 j1 j2 j3 j4
      go_wp2
      go_ret
      exact ⟨rfl, held_next hbz hb2⟩
    · rw [Bool.true_and]
      obtain ⟨hok, n2, n12, wd0, wd1⟩ := okChan_yes hv1
      have HN := Lib.hid (fun W h => l13Nearest_c A n cap X Y x y W n2 n12 hok h2 h)
      generalize gapN X Y x y (nearF (gapN X Y x y) (n - 2)) = g at *
      generalize nearF (gapN X Y x y) (n - 2) = J at *
      go_enter Try.func16, Try.ntmps16
      go_wp2_with fail
      generalize hW : (w.alloc (.cells #[.string nm, .slice A n cap, .int .i64 wd] 32)).alloc (.cells #[.int .i64 x, .int .i64 y] 27) = W
      have hbW : Below w.heap.size w W := hW ▸ (by repeat (first | exact Below.refl _ _ | refine Below.alloc ?_ (by simp; try omega) _ | refine Below.drew ?_))
      have k0 : W.cell? ⟨w.heap.size, 0, none⟩ = some (.string nm) := by subst hW; simp [go_sem]
      have k1 : W.cell? ⟨w.heap.size, 1, none⟩ = some (.slice A n cap) := by subst hW; simp [go_sem]
      have k2 : W.cell? ⟨w.heap.size, 2, none⟩ = some (.int .i64 wd) := by subst hW; simp [go_sem]
      have k3 : W.cell? ⟨w.heap.size + 1, 0, none⟩ = some (.int .i64 x) := by subst hW; simp [go_sem]
      have k4 : W.cell? ⟨w.heap.size + 1, 1, none⟩ = some (.int .i64 y) := by subst hW; simp [go_sem]
      clear hW
      refine (HO.out _ _ (hR.below hbW) k0 k1 k2).mono ?_
      rintro e w1 ⟨rfl, hb1⟩
      rw [hv1]
      have hbz := held_next hbW hb1
      have j0 : w1.cell? ⟨w.heap.size, 0, none⟩ = some (.string nm) := (hb1.cell (p := ⟨w.heap.size, 0, none⟩) (cell_lt k0)).trans k0
      have j1 : w1.cell? ⟨w.heap.size, 1, none⟩ = some (.slice A n cap) := (hb1.cell (p := ⟨w.heap.size, 1, none⟩) (cell_lt k1)).trans k1
      have j2 : w1.cell? ⟨w.heap.size, 2, none⟩ = some (.int .i64 wd) := (hb1.cell (p := ⟨w.heap.size, 2, none⟩) (cell_lt k2)).trans k2
      have j3 : w1.cell? ⟨w.heap.size + 1, 0, none⟩ = some (.int .i64 x) := (hb1.cell (p := ⟨w.heap.size + 1, 0, none⟩) (cell_lt k3)).trans k3
      have j4 : w1.cell? ⟨w.heap.size + 1, 1, none⟩ = some (.int .i64 y) := (hb1.cell (p := ⟨w.heap.size + 1, 1, none⟩) (cell_lt k4)).trans k4
      clear k0 k1 k2 k3 k4
      go_wp2_with fail
      refine (HK.out _).mono ?_
      rintro e w2 ⟨rfl, hb2⟩
      have l0 : w2.cell? ⟨w.heap.size, 0, none⟩ = some (.string nm) := (hb2.cell (p := ⟨w.heap.size, 0, none⟩) (cell_lt j0)).trans j0
      have l1 : w2.cell? ⟨w.heap.size, 1, none⟩ = some (.slice A n cap) := (hb2.cell (p := ⟨w.heap.size, 1, none⟩) (cell_lt j1)).trans j1
      have l2 : w2.cell? ⟨w.heap.size, 2, none⟩ = some (.int .i64 wd) := (hb2.cell (p := ⟨w.heap.size, 2, none⟩) (cell_lt j2)).trans j2
      have l3 : w2.cell? ⟨w.heap.size + 1, 0, none⟩ = some (.int .i64 x) := (hb2.cell (p := ⟨w.heap.size + 1, 0, none⟩) (cell_lt j3)).trans j3
      have l4 : w2.cell? ⟨w.heap.size + 1, 1, none⟩ = some (.int .i64 y) := (hb2.cell (p := ⟨w.heap.size + 1, 1, none⟩) (cell_lt j4)).trans j4
      clear j0 j1 j2 j3 j4
      go_wp2_with fail
      refine (HN.out _ (((hR.below hbW).below hb1).below hb2)).mono ?_
      rintro e w3 ⟨rfl, hb3⟩
      have p0 : w3.cell? ⟨w.heap.size, 0, none⟩ = some (.string nm) := (hb3.cell (p := ⟨w.heap.size, 0, none⟩) (cell_lt l0)).trans l0
      have p1 : w3.cell? ⟨w.heap.size, 1, none⟩ = some (.slice A n cap) := (hb3.cell (p := ⟨w.heap.size, 1, none⟩) (cell_lt l1)).trans l1
      have p2 : w3.cell? ⟨w.heap.size, 2, none⟩ = some (.int .i64 wd) := (hb3.cell (p := ⟨w.heap.size, 2, none⟩) (cell_lt l2)).trans l2
      have p3 : w3.cell? ⟨w.heap.size + 1, 0, none⟩ = some (.int .i64 x) := (hb3.cell (p := ⟨w.heap.size + 1, 0, none⟩) (cell_lt l3)).trans l3
      have p4 : w3.cell? ⟨w.heap.size + 1, 1, none⟩ = some (.int .i64 y) := (hb3.cell (p := ⟨w.heap.size + 1, 1, none⟩) (cell_lt l4)).trans l4
      clear l0 l1 l2 l3 l4
      go_wp2
      go_ret
      exact ⟨rfl, held_next (held_next hbz hb2) hb3⟩
set_option maxRecDepth 100000 in
set_option maxHeartbeats 4000000 in
theorem implIn_c (nm : ByteArray) (A : Option Addr) (n cap : Nat) (wd : Int) (X Y : Nat → Int) (x y : Int) (w : World) (hs : nm.size ≤ maxLen) (hn : n ≤ 1048576) (v1 v2 : Bool) (hv1 : okChan nm n X Y wd = v1) (h2 : okP x y = v2) (hR : Rec 2 w A n (vPoint X Y)) :
    Calls Try.prog 18 #[.agg #[.string nm, .slice A n cap, .int .i64 wd], .agg #[.int .i64 x, .int .i64 y]] w fun e w' => e = .returned (.bool (inB v1 v2 X Y n wd x y)) ∧ Below w.heap.size w w' := by
  have HO := Lib.hid (fun W h => validChannel_c nm A n cap wd X Y W hs hn h)
  have HK := Lib.hid (fun W => validPoint_c x y v2 h2 W)
  unfold inB
  cases v1
  · rw [Bool.false_and]
    go_enter Try.func18, Try.ntmps18
    go_wp2_with fail
    generalize hW : (w.alloc (.cells #[.string nm, .slice A n cap, .int .i64 wd] 32)).alloc (.cells #[.int .i64 x, .int .i64 y] 27) = W
    have hbW : Below w.heap.size w W := hW ▸ (by repeat (first | exact Below.refl _ _ | refine Below.alloc ?_ (by simp; try omega) _ | refine Below.drew ?_))
    have k0 : W.cell? ⟨w.heap.size, 0, none⟩ = some (.string nm) := by subst hW; simp [go_sem]
    have k1 : W.cell? ⟨w.heap.size, 1, none⟩ = some (.slice A n cap) := by subst hW; simp [go_sem]
    have k2 : W.cell? ⟨w.heap.size, 2, none⟩ = some (.int .i64 wd) := by subst hW; simp [go_sem]
    have k3 : W.cell? ⟨w.heap.size + 1, 0, none⟩ = some (.int .i64 x) := by subst hW; simp [go_sem]
    have k4 : W.cell? ⟨w.heap.size + 1, 1, none⟩ = some (.int .i64 y) := by subst hW; simp [go_sem]
    clear hW
    refine (HO.out _ (hR.below hbW)).mono ?_
    rintro e w1 ⟨rfl, hb1⟩
    rw [hv1]
    have hbz := held_next hbW hb1
    clear k0 k1 k2 k3 k4
    go_wp2
    go_ret
    exact ⟨rfl, hbz⟩
  · rw [Bool.true_and]
    cases v2
    · rw [Bool.false_and]
      go_enter Try.func18, Try.ntmps18
      go_wp2_with fail
      generalize hW : (w.alloc (.cells #[.string nm, .slice A n cap, .int .i64 wd] 32)).alloc (.cells #[.int .i64 x, .int .i64 y] 27) = W
      have hbW : Below w.heap.size w W := hW ▸ (by repeat (first | exact Below.refl _ _ | refine Below.alloc ?_ (by simp; try omega) _ | refine Below.drew ?_))
      have k0 : W.cell? ⟨w.heap.size, 0, none⟩ = some (.string nm) := by subst hW; simp [go_sem]
      have k1 : W.cell? ⟨w.heap.size, 1, none⟩ = some (.slice A n cap) := by subst hW; simp [go_sem]
      have k2 : W.cell? ⟨w.heap.size, 2, none⟩ = some (.int .i64 wd) := by subst hW; simp [go_sem]
      have k3 : W.cell? ⟨w.heap.size + 1, 0, none⟩ = some (.int .i64 x) := by subst hW; simp [go_sem]
      have k4 : W.cell? ⟨w.heap.size + 1, 1, none⟩ = some (.int .i64 y) := by subst hW; simp [go_sem]
      clear hW
      refine (HO.out _ (hR.below hbW)).mono ?_
      rintro e w1 ⟨rfl, hb1⟩
      rw [hv1]
      have hbz := held_next hbW hb1
      have j0 : w1.cell? ⟨w.heap.size, 0, none⟩ = some (.string nm) := (hb1.cell (p := ⟨w.heap.size, 0, none⟩) (cell_lt k0)).trans k0
      have j1 : w1.cell? ⟨w.heap.size, 1, none⟩ = some (.slice A n cap) := (hb1.cell (p := ⟨w.heap.size, 1, none⟩) (cell_lt k1)).trans k1
      have j2 : w1.cell? ⟨w.heap.size, 2, none⟩ = some (.int .i64 wd) := (hb1.cell (p := ⟨w.heap.size, 2, none⟩) (cell_lt k2)).trans k2
      have j3 : w1.cell? ⟨w.heap.size + 1, 0, none⟩ = some (.int .i64 x) := (hb1.cell (p := ⟨w.heap.size + 1, 0, none⟩) (cell_lt k3)).trans k3
      have j4 : w1.cell? ⟨w.heap.size + 1, 1, none⟩ = some (.int .i64 y) := (hb1.cell (p := ⟨w.heap.size + 1, 1, none⟩) (cell_lt k4)).trans k4
      clear k0 k1 k2 k3 k4
      go_wp2_with fail
      refine (HK.out _).mono ?_
      rintro e w2 ⟨rfl, hb2⟩
      clear j0 j1 j2 j3 j4
      go_wp2
      go_ret
      exact ⟨rfl, held_next hbz hb2⟩
    · rw [Bool.true_and]
      obtain ⟨hok, n2, n12, wd0, wd1⟩ := okChan_yes hv1
      have HN := Lib.hid (fun W h => nearest_c nm wd A n cap X Y x y W n2 n12 hok h2 h)
      generalize gapN X Y x y (nearF (gapN X Y x y) (n - 2)) = g at *
      generalize nearF (gapN X Y x y) (n - 2) = J at *
      go_enter Try.func18, Try.ntmps18
      go_wp2_with fail
      generalize hW : (w.alloc (.cells #[.string nm, .slice A n cap, .int .i64 wd] 32)).alloc (.cells #[.int .i64 x, .int .i64 y] 27) = W
      have hbW : Below w.heap.size w W := hW ▸ (by repeat (first | exact Below.refl _ _ | refine Below.alloc ?_ (by simp; try omega) _ | refine Below.drew ?_))
      have k0 : W.cell? ⟨w.heap.size, 0, none⟩ = some (.string nm) := by subst hW; simp [go_sem]
      have k1 : W.cell? ⟨w.heap.size, 1, none⟩ = some (.slice A n cap) := by subst hW; simp [go_sem]
      have k2 : W.cell? ⟨w.heap.size, 2, none⟩ = some (.int .i64 wd) := by subst hW; simp [go_sem]
      have k3 : W.cell? ⟨w.heap.size + 1, 0, none⟩ = some (.int .i64 x) := by subst hW; simp [go_sem]
      have k4 : W.cell? ⟨w.heap.size + 1, 1, none⟩ = some (.int .i64 y) := by subst hW; simp [go_sem]
      clear hW
      refine (HO.out _ (hR.below hbW)).mono ?_
      rintro e w1 ⟨rfl, hb1⟩
      rw [hv1]
      have hbz := held_next hbW hb1
      have j0 : w1.cell? ⟨w.heap.size, 0, none⟩ = some (.string nm) := (hb1.cell (p := ⟨w.heap.size, 0, none⟩) (cell_lt k0)).trans k0
      have j1 : w1.cell? ⟨w.heap.size, 1, none⟩ = some (.slice A n cap) := (hb1.cell (p := ⟨w.heap.size, 1, none⟩) (cell_lt k1)).trans k1
      have j2 : w1.cell? ⟨w.heap.size, 2, none⟩ = some (.int .i64 wd) := (hb1.cell (p := ⟨w.heap.size, 2, none⟩) (cell_lt k2)).trans k2
      have j3 : w1.cell? ⟨w.heap.size + 1, 0, none⟩ = some (.int .i64 x) := (hb1.cell (p := ⟨w.heap.size + 1, 0, none⟩) (cell_lt k3)).trans k3
      have j4 : w1.cell? ⟨w.heap.size + 1, 1, none⟩ = some (.int .i64 y) := (hb1.cell (p := ⟨w.heap.size + 1, 1, none⟩) (cell_lt k4)).trans k4
      clear k0 k1 k2 k3 k4
      go_wp2_with fail
      refine (HK.out _).mono ?_
      rintro e w2 ⟨rfl, hb2⟩
      have l0 : w2.cell? ⟨w.heap.size, 0, none⟩ = some (.string nm) := (hb2.cell (p := ⟨w.heap.size, 0, none⟩) (cell_lt j0)).trans j0
      have l1 : w2.cell? ⟨w.heap.size, 1, none⟩ = some (.slice A n cap) := (hb2.cell (p := ⟨w.heap.size, 1, none⟩) (cell_lt j1)).trans j1
      have l2 : w2.cell? ⟨w.heap.size, 2, none⟩ = some (.int .i64 wd) := (hb2.cell (p := ⟨w.heap.size, 2, none⟩) (cell_lt j2)).trans j2
      have l3 : w2.cell? ⟨w.heap.size + 1, 0, none⟩ = some (.int .i64 x) := (hb2.cell (p := ⟨w.heap.size + 1, 0, none⟩) (cell_lt j3)).trans j3
      have l4 : w2.cell? ⟨w.heap.size + 1, 1, none⟩ = some (.int .i64 y) := (hb2.cell (p := ⟨w.heap.size + 1, 1, none⟩) (cell_lt j4)).trans j4
      clear j0 j1 j2 j3 j4
      go_wp2_with fail
      refine (HN.out _ (((hR.below hbW).below hb1).below hb2)).mono ?_
      rintro e w3 ⟨rfl, hb3⟩
      have p0 : w3.cell? ⟨w.heap.size, 0, none⟩ = some (.string nm) := (hb3.cell (p := ⟨w.heap.size, 0, none⟩) (cell_lt l0)).trans l0
      have p1 : w3.cell? ⟨w.heap.size, 1, none⟩ = some (.slice A n cap) := (hb3.cell (p := ⟨w.heap.size, 1, none⟩) (cell_lt l1)).trans l1
      have p2 : w3.cell? ⟨w.heap.size, 2, none⟩ = some (.int .i64 wd) := (hb3.cell (p := ⟨w.heap.size, 2, none⟩) (cell_lt l2)).trans l2
      have p3 : w3.cell? ⟨w.heap.size + 1, 0, none⟩ = some (.int .i64 x) := (hb3.cell (p := ⟨w.heap.size + 1, 0, none⟩) (cell_lt l3)).trans l3
      have p4 : w3.cell? ⟨w.heap.size + 1, 1, none⟩ = some (.int .i64 y) := (hb3.cell (p := ⟨w.heap.size + 1, 1, none⟩) (cell_lt l4)).trans l4
      clear l0 l1 l2 l3 l4
      go_wp2
      go_ret
      exact ⟨rfl, held_next (held_next hbz hb2) hb3⟩
end Go.Proofs.Ytimfpnmcdicldaa
