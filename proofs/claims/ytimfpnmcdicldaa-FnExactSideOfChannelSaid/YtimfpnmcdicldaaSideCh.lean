/- On which side of a channel a place is: the program and the reference. -/
import Derived.Test.YtimfpnmcdicldaaInCh
namespace Go.Proofs.Ytimfpnmcdicldaa
open Go Go.RowKit
def sgn (t : Int) : Int := if 0 < t then 1 else if t < 0 then -1 else 0
theorem sgn_cases (t : Int) : (decide (0 < t) = true ∧ sgn t = 1) ∨ (decide (0 < t) = false ∧ decide (t < 0) = true ∧ sgn t = -1) ∨ (decide (0 < t) = false ∧ decide (t < 0) = false ∧ sgn t = 0) := by
  unfold sgn
  by_cases h : 0 < t
  · exact .inl ⟨by simpa using h, if_pos h⟩
  · by_cases h2 : t < 0
    · exact .inr (.inl ⟨by simpa using h, by simpa using h2, by rw [if_neg h, if_pos h2]⟩)
    · exact .inr (.inr ⟨by simpa using h, by simpa using h2, by rw [if_neg h, if_neg h2]⟩)
set_option maxHeartbeats 2000000 in
theorem l02Side_c (a b c d x y : Int) (h1 : okP a b = true) (h2 : okP c d = true) (h3 : okP x y = true) (w : World) :
    Calls Try.prog 87 #[.agg #[.int .i64 a, .int .i64 b], .agg #[.int .i64 c, .int .i64 d], .agg #[.int .i64 x, .int .i64 y]] w fun e w' => e = .returned (.int .i64 (sgn (crossI a b c d x y))) ∧ Below w.heap.size w w' := by
  have HC := Lib.hid (fun W => l02Cross_c a b c d x y h1 h2 h3 W)
  clear h1 h2 h3
  generalize crossI a b c d x y = t at *
  rcases sgn_cases t with ⟨g1, hs⟩ | ⟨g1, g2, hs⟩ | ⟨g1, g2, hs⟩
  all_goals
    rw [hs]
    clear hs
    go_enter Try.func87, Try.ntmps87
    go_wp2_with fail
    refine (HC.out _).mono ?_
    rintro e w1 ⟨rfl, hb1⟩
    go_wp2
    go_ret
    exact ⟨rfl, by first | exact hb1 | exact below_box (below_box (below_box hb1))⟩
set_option maxHeartbeats 2000000 in
theorem sideOf_c (a b c d x y : Int) (h1 : okP a b = true) (h2 : okP c d = true) (h3 : okP x y = true) (w : World) :
    Calls Try.prog 88 #[.agg #[.int .i64 a, .int .i64 b], .agg #[.int .i64 c, .int .i64 d], .agg #[.int .i64 x, .int .i64 y]] w fun e w' => e = .returned (.int .i64 (sgn (crossI a b c d x y))) ∧ Below w.heap.size w w' := by
  have HC := Lib.hid (fun W => cross_c a b c d x y h1 h2 h3 W)
  have HP := Lib.hid (fun g W c0 c1 c2 c3 c4 c5 => arePoints3_c g 3 a b c d x y h1 h2 h3 W c0 c1 c2 c3 c4 c5)
  clear h1 h2 h3
  generalize crossI a b c d x y = t at *
  have k0 : ∀ z : Aft ((((w.alloc (.cells #[.int .i64 a, .int .i64 b] 27)).alloc (.cells #[.int .i64 c, .int .i64 d] 27)).alloc (.cells #[.int .i64 x, .int .i64 y] 27)).alloc (.cells #[.int .i64 a, .int .i64 b, .int .i64 c, .int .i64 d, .int .i64 x, .int .i64 y] 27)), z.w1.cell? ⟨w.heap.size, 0, none⟩ = some (.int .i64 a) := fun z => z.cell (by simp; try omega) (by simp [go_sem])
  have k1 : ∀ z : Aft ((((w.alloc (.cells #[.int .i64 a, .int .i64 b] 27)).alloc (.cells #[.int .i64 c, .int .i64 d] 27)).alloc (.cells #[.int .i64 x, .int .i64 y] 27)).alloc (.cells #[.int .i64 a, .int .i64 b, .int .i64 c, .int .i64 d, .int .i64 x, .int .i64 y] 27)), z.w1.cell? ⟨w.heap.size, 1, none⟩ = some (.int .i64 b) := fun z => z.cell (by simp; try omega) (by simp [go_sem])
  have k2 : ∀ z : Aft ((((w.alloc (.cells #[.int .i64 a, .int .i64 b] 27)).alloc (.cells #[.int .i64 c, .int .i64 d] 27)).alloc (.cells #[.int .i64 x, .int .i64 y] 27)).alloc (.cells #[.int .i64 a, .int .i64 b, .int .i64 c, .int .i64 d, .int .i64 x, .int .i64 y] 27)), z.w1.cell? ⟨w.heap.size + 1, 0, none⟩ = some (.int .i64 c) := fun z => z.cell (by simp; try omega) (by simp [go_sem])
  have k3 : ∀ z : Aft ((((w.alloc (.cells #[.int .i64 a, .int .i64 b] 27)).alloc (.cells #[.int .i64 c, .int .i64 d] 27)).alloc (.cells #[.int .i64 x, .int .i64 y] 27)).alloc (.cells #[.int .i64 a, .int .i64 b, .int .i64 c, .int .i64 d, .int .i64 x, .int .i64 y] 27)), z.w1.cell? ⟨w.heap.size + 1, 1, none⟩ = some (.int .i64 d) := fun z => z.cell (by simp; try omega) (by simp [go_sem])
  have k4 : ∀ z : Aft ((((w.alloc (.cells #[.int .i64 a, .int .i64 b] 27)).alloc (.cells #[.int .i64 c, .int .i64 d] 27)).alloc (.cells #[.int .i64 x, .int .i64 y] 27)).alloc (.cells #[.int .i64 a, .int .i64 b, .int .i64 c, .int .i64 d, .int .i64 x, .int .i64 y] 27)), z.w1.cell? ⟨w.heap.size + 1 + 1, 0, none⟩ = some (.int .i64 x) := fun z => z.cell (by simp; try omega) (by simp [go_sem])
  have k5 : ∀ z : Aft ((((w.alloc (.cells #[.int .i64 a, .int .i64 b] 27)).alloc (.cells #[.int .i64 c, .int .i64 d] 27)).alloc (.cells #[.int .i64 x, .int .i64 y] 27)).alloc (.cells #[.int .i64 a, .int .i64 b, .int .i64 c, .int .i64 d, .int .i64 x, .int .i64 y] 27)), z.w1.cell? ⟨w.heap.size + 1 + 1, 1, none⟩ = some (.int .i64 y) := fun z => z.cell (by simp; try omega) (by simp [go_sem])
  rcases sgn_cases t with ⟨g1, hs⟩ | ⟨g1, g2, hs⟩ | ⟨g1, g2, hs⟩
  all_goals
    rw [hs]
    clear hs
    go_enter Try.func88, Try.ntmps88
    go_wp2_with fail
    refine (Aft.first (HP.out _ _ (by simp [go_sem]) (by simp [go_sem]) (by simp [go_sem]) (by simp [go_sem]) (by simp [go_sem]) (by simp [go_sem]))).mono ?_
    rintro e _ ⟨rfl, z, rfl⟩
    go_wp2_with (go_at_call 113; refine (Aft.call (HC.out _)).mono ?_; rintro e _ ⟨rfl, z, rfl⟩)
    go_ret
    exact ⟨rfl, below_box (below_box (below_box (below_box (Aft.below _))))⟩
def sideZ (X Y : Nat → Int) (n : Nat) (x y : Int) : Int := sgn (crossI (X (nearF (gapN X Y x y) (n - 2))) (Y (nearF (gapN X Y x y) (n - 2))) (X (nearF (gapN X Y x y) (n - 2) + 1)) (Y (nearF (gapN X Y x y) (n - 2) + 1)) x y)
set_option maxRecDepth 100000 in
set_option maxHeartbeats 4000000 in
theorem l13Side_c (g : Nat) (A : Option Addr) (n cap : Nat) (X Y : Nat → Int) (x y : Int) (w : World) (n2 : 2 ≤ n) (hn2 : n ≤ 12) (hok : ∀ i, i < n → okP (X i) (Y i) = true) (hp : okP x y = true) (hR : Rec 2 w A n (vPoint X Y)) (c1 : w.cell? ⟨g, 1, none⟩ = some (.slice A n cap)) :
    Calls Try.prog 56 #[.pointer (some ⟨g, 0, none⟩), .agg #[.int .i64 x, .int .i64 y]] w fun e w' => e = .returned (.int .i64 (sideZ X Y n x y)) ∧ Below w.heap.size w w' := by
  have hJ := nearF_le (gapN X Y x y) (n - 2)
  have HN := Lib.hid (fun W h => l13Nearest_c A n cap X Y x y W n2 hn2 hok hp h)
  unfold sideZ
  generalize gapN X Y x y (nearF (gapN X Y x y) (n - 2)) = g0 at *
  generalize nearF (gapN X Y x y) (n - 2) = J at *
  have HS := Lib.hid (fun W => l02Side_c (X J) (Y J) (X (J + 1)) (Y (J + 1)) x y (hok J (by omega)) (hok (J + 1) (by omega)) hp W)
  generalize sgn (crossI (X J) (Y J) (X (J + 1)) (Y (J + 1)) x y) = ans at *
  go_enter Try.func56, Try.ntmps56
  go_wp2_with fail
  generalize hW : w.alloc (.cells #[.int .i64 x, .int .i64 y] 27) = W
  have hbW : Below w.heap.size w W := hW ▸ (by repeat (first | exact Below.refl _ _ | refine Below.alloc ?_ (by simp; try omega) _ | refine Below.drew ?_))
  have k0 : ∀ z : Aft W, z.w1.cell? ⟨w.heap.size, 0, none⟩ = some (.int .i64 x) := by subst hW; exact fun z => z.new rfl
  have k1 : ∀ z : Aft W, z.w1.cell? ⟨w.heap.size, 1, none⟩ = some (.int .i64 y) := by subst hW; exact fun z => z.new rfl
  have k2 : ∀ z : Aft W, z.w1.cell? ⟨g, 1, none⟩ = some (.slice A n cap) := fun z => z.cell (Nat.lt_of_lt_of_le (cell_lt c1) hbW.size) ((hbW.cell (p := ⟨g, 1, none⟩) (cell_lt c1)).trans c1)
  replace hR := hR.below hbW
  clear hW c1
  have HN2 := Lib.hid (fun z : Aft W => HN.out z.w1 (hR.aft z))
  clear HN
  refine wp_region_aft (by kernel_rfl) (by kernel_rfl) ?_
  repeat (go_big_quiet_step ((go_at_call 53; exact Aft.call (HN2.out _))))
  refine wpQuiet_nil ?_
  intro w1 hb1
  obtain ⟨z1, rfl⟩ : ∃ z : Aft W, w1 = z.w1 := ⟨⟨w1, hb1⟩, rfl⟩
  obtain ⟨b, o, hi⟩ := hR
  obtain ⟨rfl, hc⟩ := hi J (by omega)
  obtain ⟨_, hc2⟩ := hi (J + 1) (by omega)
  have p0 : W.cell? ⟨b, o + J * 2, none⟩ = some (.int .i64 (X J)) := by simpa [vPoint, Nat.add_assoc] using hc 0 (by omega)
  have p1 : W.cell? ⟨b, o + J * 2 + 1, none⟩ = some (.int .i64 (Y J)) := by simpa [vPoint, Nat.add_assoc] using hc 1 (by omega)
  have p2 : W.cell? ⟨b, o + (J + 1) * 2, none⟩ = some (.int .i64 (X (J + 1))) := by simpa [vPoint, Nat.add_assoc] using hc2 0 (by omega)
  have p3 : W.cell? ⟨b, o + (J + 1) * 2 + 1, none⟩ = some (.int .i64 (Y (J + 1))) := by simpa [vPoint, Nat.add_assoc] using hc2 1 (by omega)
  have m0 : ∀ y : Aft W, y.w1.cell? ⟨b, o + J * 2, none⟩ = some (.int .i64 (X J)) := fun y => y.cell (cell_lt p0) p0
  have m1 : ∀ y : Aft W, y.w1.cell? ⟨b, o + J * 2 + 1, none⟩ = some (.int .i64 (Y J)) := fun y => y.cell (cell_lt p1) p1
  have m2 : ∀ y : Aft W, y.w1.cell? ⟨b, o + (J + 1) * 2, none⟩ = some (.int .i64 (X (J + 1))) := fun y => y.cell (cell_lt p2) p2
  have m3 : ∀ y : Aft W, y.w1.cell? ⟨b, o + (J + 1) * 2 + 1, none⟩ = some (.int .i64 (Y (J + 1))) := fun y => y.cell (cell_lt p3) p3
  clear hi hc hc2 p0 p1 p2 p3
  go_wp2
  refine wp_region_aftx z1 (by kernel_rfl) (by kernel_rfl) ?_
  repeat (go_big_quiet_step ((go_at_call 87; exact Aft.call (HS.out _))))
  refine wpQuiet_nil ?_
  intro z
  go_wp2
  go_ret
  exact ⟨rfl, held_next hbW z.below⟩
set_option maxRecDepth 100000 in
set_option maxHeartbeats 4000000 in
theorem side_c (nm : ByteArray) (wd : Int) (A : Option Addr) (n cap : Nat) (X Y : Nat → Int) (x y : Int) (w : World) (n2 : 2 ≤ n) (hn2 : n ≤ 12) (hok : ∀ i, i < n → okP (X i) (Y i) = true) (hp : okP x y = true) (hR : Rec 2 w A n (vPoint X Y)) :
    Calls Try.prog 57 #[.agg #[.string nm, .slice A n cap, .int .i64 wd], .agg #[.int .i64 x, .int .i64 y]] w fun e w' => e = .returned (.int .i64 (sideZ X Y n x y)) ∧ Below w.heap.size w w' := by
  have hJ := nearF_le (gapN X Y x y) (n - 2)
  have HN := Lib.hid (fun W h => nearest_c nm wd A n cap X Y x y W n2 hn2 hok hp h)
  unfold sideZ
  generalize gapN X Y x y (nearF (gapN X Y x y) (n - 2)) = g0 at *
  generalize nearF (gapN X Y x y) (n - 2) = J at *
  have HS := Lib.hid (fun W => sideOf_c (X J) (Y J) (X (J + 1)) (Y (J + 1)) x y (hok J (by omega)) (hok (J + 1) (by omega)) hp W)
  generalize sgn (crossI (X J) (Y J) (X (J + 1)) (Y (J + 1)) x y) = ans at *
  go_enter Try.func57, Try.ntmps57
  go_wp2_with fail
  generalize hW : (w.alloc (.cells #[.string nm, .slice A n cap, .int .i64 wd] 32)).alloc (.cells #[.int .i64 x, .int .i64 y] 27) = W
  have hbW : Below w.heap.size w W := hW ▸ (by repeat (first | exact Below.refl _ _ | refine Below.alloc ?_ (by simp; try omega) _ | refine Below.drew ?_))
  have k0 : ∀ z : Aft W, z.w1.cell? ⟨w.heap.size + 1, 0, none⟩ = some (.int .i64 x) := by subst hW; exact fun z => z.cell (by simp; try omega) (by simp [go_sem])
  have k1 : ∀ z : Aft W, z.w1.cell? ⟨w.heap.size + 1, 1, none⟩ = some (.int .i64 y) := by subst hW; exact fun z => z.cell (by simp; try omega) (by simp [go_sem])
  have k2 : ∀ z : Aft W, z.w1.cell? ⟨w.heap.size, 1, none⟩ = some (.slice A n cap) := by subst hW; exact fun z => z.cell (by simp; try omega) (by simp [go_sem])
  replace hR := hR.below hbW
  clear hW
  refine (HN.out _ hR).mono ?_
  rintro e w1 ⟨rfl, hb1⟩
  obtain ⟨z1, rfl⟩ : ∃ z : Aft W, w1 = z.w1 := ⟨⟨w1, hb1⟩, rfl⟩
  obtain ⟨b, o, hi⟩ := hR
  obtain ⟨rfl, hc⟩ := hi J (by omega)
  obtain ⟨_, hc2⟩ := hi (J + 1) (by omega)
  have p0 : W.cell? ⟨b, o + J * 2, none⟩ = some (.int .i64 (X J)) := by simpa [vPoint, Nat.add_assoc] using hc 0 (by omega)
  have p1 : W.cell? ⟨b, o + J * 2 + 1, none⟩ = some (.int .i64 (Y J)) := by simpa [vPoint, Nat.add_assoc] using hc 1 (by omega)
  have p2 : W.cell? ⟨b, o + (J + 1) * 2, none⟩ = some (.int .i64 (X (J + 1))) := by simpa [vPoint, Nat.add_assoc] using hc2 0 (by omega)
  have p3 : W.cell? ⟨b, o + (J + 1) * 2 + 1, none⟩ = some (.int .i64 (Y (J + 1))) := by simpa [vPoint, Nat.add_assoc] using hc2 1 (by omega)
  have m0 : ∀ y : Aft W, y.w1.cell? ⟨b, o + J * 2, none⟩ = some (.int .i64 (X J)) := fun y => y.cell (cell_lt p0) p0
  have m1 : ∀ y : Aft W, y.w1.cell? ⟨b, o + J * 2 + 1, none⟩ = some (.int .i64 (Y J)) := fun y => y.cell (cell_lt p1) p1
  have m2 : ∀ y : Aft W, y.w1.cell? ⟨b, o + (J + 1) * 2, none⟩ = some (.int .i64 (X (J + 1))) := fun y => y.cell (cell_lt p2) p2
  have m3 : ∀ y : Aft W, y.w1.cell? ⟨b, o + (J + 1) * 2 + 1, none⟩ = some (.int .i64 (Y (J + 1))) := fun y => y.cell (cell_lt p3) p3
  clear hi hc hc2 p0 p1 p2 p3
  go_wp2
  refine wp_region_aftx z1 (by kernel_rfl) (by kernel_rfl) ?_
  repeat (go_big_quiet_step ((go_at_call 88; exact Aft.call (HS.out _))))
  refine wpQuiet_nil ?_
  intro z
  go_wp2
  go_ret
  exact ⟨rfl, held_next hbW z.below⟩
set_option maxRecDepth 100000 in
set_option maxHeartbeats 4000000 in
theorem specSide_c (nm : ByteArray) (A : Option Addr) (n cap : Nat) (wd : Int) (X Y : Nat → Int) (x y : Int) (w : World) (hs : nm.size ≤ maxLen) (hn : n ≤ 1048576) (v1 v2 : Bool) (hv1 : okChan nm n X Y wd = v1) (h2 : okP x y = v2) (hR : Rec 2 w A n (vPoint X Y)) :
    Calls Try.prog 19 #[.agg #[.string nm, .slice A n cap, .int .i64 wd], .agg #[.int .i64 x, .int .i64 y]] w fun e w' => e = .returned (.tuple #[.int .i64 (if v1 && v2 then sideZ X Y n x y else 0), .int .i64 (if v1 && v2 then 0 else 1)]) ∧ Below w.heap.size w w' := by
  have HO := Lib.hid (fun g W h c0 c1 c2 => l13Ok_c g nm A n cap wd X Y W hs hn h c0 c1 c2)
  have HK := Lib.hid (fun W => l02Ok_c x y v2 h2 W)
  cases v1
  · simp only [Bool.false_and, Bool.false_eq_true, if_false]
    go_enter Try.func19, Try.ntmps19
    go_wp2_with fail
    generalize hW : (w.alloc (.cells #[.string nm, .slice A n cap, .int .i64 wd] 32)).alloc (.cells #[.int .i64 x, .int .i64 y] 27) = W
    have hbW : Below w.heap.size w W := hW ▸ (by repeat (first | exact Below.refl _ _ | refine Below.alloc ?_ (by simp; try omega) _ | refine Below.drew ?_))
    have k0 : W.cell? ⟨w.heap.size, 0, none⟩ = some (.string nm) := by subst hW; simp [go_sem]
    have k1 : W.cell? ⟨w.heap.size, 1, none⟩ = some (.slice A n cap) := by subst hW; simp [go_sem]
    have k2 : W.cell? ⟨w.heap.size, 2, none⟩ = some (.int .i64 wd) := by subst hW; simp [go_sem]
    have k3 : W.cell? ⟨w.heap.size + 1, 0, none⟩ = some (.int .i64 x) := by subst hW; simp [go_sem]
    have k4 : W.cell? ⟨w.heap.size + 1, 1, none⟩ = some (.int .i64 y) := by subst hW; simp [go_sem]
    clear hW
    refine (HO.out _ _ (hR.below hbW) k0 k1 k2).mono ?_
    rintro e w1 ⟨rfl, hb1⟩
    rw [hv1]
    have hbz := held_next hbW hb1
    clear k0 k1 k2 k3 k4
    go_wp2
    go_ret2
    exact ⟨rfl, hbz⟩
  · simp only [Bool.true_and]
    cases v2
    · simp only [Bool.false_eq_true, if_false]
      go_enter Try.func19, Try.ntmps19
      go_wp2_with fail
      generalize hW : (w.alloc (.cells #[.string nm, .slice A n cap, .int .i64 wd] 32)).alloc (.cells #[.int .i64 x, .int .i64 y] 27) = W
      have hbW : Below w.heap.size w W := hW ▸ (by repeat (first | exact Below.refl _ _ | refine Below.alloc ?_ (by simp; try omega) _ | refine Below.drew ?_))
      have k0 : W.cell? ⟨w.heap.size, 0, none⟩ = some (.string nm) := by subst hW; simp [go_sem]
      have k1 : W.cell? ⟨w.heap.size, 1, none⟩ = some (.slice A n cap) := by subst hW; simp [go_sem]
      have k2 : W.cell? ⟨w.heap.size, 2, none⟩ = some (.int .i64 wd) := by subst hW; simp [go_sem]
      have k3 : W.cell? ⟨w.heap.size + 1, 0, none⟩ = some (.int .i64 x) := by subst hW; simp [go_sem]
      have k4 : W.cell? ⟨w.heap.size + 1, 1, none⟩ = some (.int .i64 y) := by subst hW; simp [go_sem]
      clear hW
      refine (HO.out _ _ (hR.below hbW) k0 k1 k2).mono ?_
      rintro e w1 ⟨rfl, hb1⟩
      rw [hv1]
      have hbz := held_next hbW hb1
      have j0 : w1.cell? ⟨w.heap.size, 0, none⟩ = some (.string nm) := (hb1.cell (p := ⟨w.heap.size, 0, none⟩) (cell_lt k0)).trans k0
      have j1 : w1.cell? ⟨w.heap.size, 1, none⟩ = some (.slice A n cap) := (hb1.cell (p := ⟨w.heap.size, 1, none⟩) (cell_lt k1)).trans k1
      have j2 : w1.cell? ⟨w.heap.size, 2, none⟩ = some (.int .i64 wd) := (hb1.cell (p := ⟨w.heap.size, 2, none⟩) (cell_lt k2)).trans k2
      have j3 : w1.cell? ⟨w.heap.size + 1, 0, none⟩ = some (.int .i64 x) := (hb1.cell (p := ⟨w.heap.size + 1, 0, none⟩) (cell_lt k3)).trans k3
      have j4 : w1.cell? ⟨w.heap.size + 1, 1, none⟩ = some (.int .i64 y) := (hb1.cell (p := ⟨w.heap.size + 1, 1, none⟩) (cell_lt k4)).trans k4
      clear k0 k1 k2 k3 k4
      go_wp2_with fail
      refine (HK.out _).mono ?_
      rintro e w2 ⟨rfl, hb2⟩
      clear j0 j1 j2 j3 j4
      go_wp2
      go_ret2
      exact ⟨rfl, held_next hbz hb2⟩
    · simp only [if_true]
      obtain ⟨hok, n2, n12, wd0, wd1⟩ := okChan_yes hv1
      have HN := Lib.hid (fun g W h c1 => l13Side_c g A n cap X Y x y W n2 n12 hok h2 h c1)
      generalize sideZ X Y n x y = g at *
      go_enter Try.func19, Try.ntmps19
      go_wp2_with fail
      generalize hW : (w.alloc (.cells #[.string nm, .slice A n cap, .int .i64 wd] 32)).alloc (.cells #[.int .i64 x, .int .i64 y] 27) = W
      have hbW : Below w.heap.size w W := hW ▸ (by repeat (first | exact Below.refl _ _ | refine Below.alloc ?_ (by simp; try omega) _ | refine Below.drew ?_))
      have k0 : W.cell? ⟨w.heap.size, 0, none⟩ = some (.string nm) := by subst hW; simp [go_sem]
      have k1 : W.cell? ⟨w.heap.size, 1, none⟩ = some (.slice A n cap) := by subst hW; simp [go_sem]
      have k2 : W.cell? ⟨w.heap.size, 2, none⟩ = some (.int .i64 wd) := by subst hW; simp [go_sem]
      have k3 : W.cell? ⟨w.heap.size + 1, 0, none⟩ = some (.int .i64 x) := by subst hW; simp [go_sem]
      have k4 : W.cell? ⟨w.heap.size + 1, 1, none⟩ = some (.int .i64 y) := by subst hW; simp [go_sem]
      clear hW
      refine (HO.out _ _ (hR.below hbW) k0 k1 k2).mono ?_
      rintro e w1 ⟨rfl, hb1⟩
      rw [hv1]
      have hbz := held_next hbW hb1
      have j0 : w1.cell? ⟨w.heap.size, 0, none⟩ = some (.string nm) := (hb1.cell (p := ⟨w.heap.size, 0, none⟩) (cell_lt k0)).trans k0
      have j1 : w1.cell? ⟨w.heap.size, 1, none⟩ = some (.slice A n cap) := (hb1.cell (p := ⟨w.heap.size, 1, none⟩) (cell_lt k1)).trans k1
      have j2 : w1.cell? ⟨w.heap.size, 2, none⟩ = some (.int .i64 wd) := (hb1.cell (p := ⟨w.heap.size, 2, none⟩) (cell_lt k2)).trans k2
      have j3 : w1.cell? ⟨w.heap.size + 1, 0, none⟩ = some (.int .i64 x) := (hb1.cell (p := ⟨w.heap.size + 1, 0, none⟩) (cell_lt k3)).trans k3
      have j4 : w1.cell? ⟨w.heap.size + 1, 1, none⟩ = some (.int .i64 y) := (hb1.cell (p := ⟨w.heap.size + 1, 1, none⟩) (cell_lt k4)).trans k4
      clear k0 k1 k2 k3 k4
      go_wp2_with fail
      refine (HK.out _).mono ?_
      rintro e w2 ⟨rfl, hb2⟩
      have l0 : w2.cell? ⟨w.heap.size, 0, none⟩ = some (.string nm) := (hb2.cell (p := ⟨w.heap.size, 0, none⟩) (cell_lt j0)).trans j0
      have l1 : w2.cell? ⟨w.heap.size, 1, none⟩ = some (.slice A n cap) := (hb2.cell (p := ⟨w.heap.size, 1, none⟩) (cell_lt j1)).trans j1
      have l2 : w2.cell? ⟨w.heap.size, 2, none⟩ = some (.int .i64 wd) := (hb2.cell (p := ⟨w.heap.size, 2, none⟩) (cell_lt j2)).trans j2
      have l3 : w2.cell? ⟨w.heap.size + 1, 0, none⟩ = some (.int .i64 x) := (hb2.cell (p := ⟨w.heap.size + 1, 0, none⟩) (cell_lt j3)).trans j3
      have l4 : w2.cell? ⟨w.heap.size + 1, 1, none⟩ = some (.int .i64 y) := (hb2.cell (p := ⟨w.heap.size + 1, 1, none⟩) (cell_lt j4)).trans j4
      clear j0 j1 j2 j3 j4
      go_wp2_with fail
      refine (HN.out _ _ (((hR.below hbW).below hb1).below hb2) l1).mono ?_
      rintro e w3 ⟨rfl, hb3⟩
      have p0 : w3.cell? ⟨w.heap.size, 0, none⟩ = some (.string nm) := (hb3.cell (p := ⟨w.heap.size, 0, none⟩) (cell_lt l0)).trans l0
      have p1 : w3.cell? ⟨w.heap.size, 1, none⟩ = some (.slice A n cap) := (hb3.cell (p := ⟨w.heap.size, 1, none⟩) (cell_lt l1)).trans l1
      have p2 : w3.cell? ⟨w.heap.size, 2, none⟩ = some (.int .i64 wd) := (hb3.cell (p := ⟨w.heap.size, 2, none⟩) (cell_lt l2)).trans l2
      have p3 : w3.cell? ⟨w.heap.size + 1, 0, none⟩ = some (.int .i64 x) := (hb3.cell (p := ⟨w.heap.size + 1, 0, none⟩) (cell_lt l3)).trans l3
      have p4 : w3.cell? ⟨w.heap.size + 1, 1, none⟩ = some (.int .i64 y) := (hb3.cell (p := ⟨w.heap.size + 1, 1, none⟩) (cell_lt l4)).trans l4
      clear l0 l1 l2 l3 l4
      go_wp2
      go_ret2
      exact ⟨rfl, held_next (held_next hbz hb2) hb3⟩
set_option maxRecDepth 100000 in
set_option maxHeartbeats 4000000 in
theorem implSide_c (nm : ByteArray) (A : Option Addr) (n cap : Nat) (wd : Int) (X Y : Nat → Int) (x y : Int) (w : World) (hs : nm.size ≤ maxLen) (hn : n ≤ 1048576) (v1 v2 : Bool) (hv1 : okChan nm n X Y wd = v1) (h2 : okP x y = v2) (hR : Rec 2 w A n (vPoint X Y)) :
    Calls Try.prog 20 #[.agg #[.string nm, .slice A n cap, .int .i64 wd], .agg #[.int .i64 x, .int .i64 y]] w fun e w' => e = .returned (.tuple #[.int .i64 (if v1 && v2 then sideZ X Y n x y else 0), .int .i64 (if v1 && v2 then 0 else 1)]) ∧ Below w.heap.size w w' := by
  have HO := Lib.hid (fun W h => validChannel_c nm A n cap wd X Y W hs hn h)
  have HK := Lib.hid (fun W => validPoint_c x y v2 h2 W)
  cases v1
  · simp only [Bool.false_and, Bool.false_eq_true, if_false]
    go_enter Try.func20, Try.ntmps20
    go_wp2_with fail
    generalize hW : (w.alloc (.cells #[.string nm, .slice A n cap, .int .i64 wd] 32)).alloc (.cells #[.int .i64 x, .int .i64 y] 27) = W
    have hbW : Below w.heap.size w W := hW ▸ (by repeat (first | exact Below.refl _ _ | refine Below.alloc ?_ (by simp; try omega) _ | refine Below.drew ?_))
    have k0 : W.cell? ⟨w.heap.size, 0, none⟩ = some (.string nm) := by subst hW; simp [go_sem]
    have k1 : W.cell? ⟨w.heap.size, 1, none⟩ = some (.slice A n cap) := by subst hW; simp [go_sem]
    have k2 : W.cell? ⟨w.heap.size, 2, none⟩ = some (.int .i64 wd) := by subst hW; simp [go_sem]
    have k3 : W.cell? ⟨w.heap.size + 1, 0, none⟩ = some (.int .i64 x) := by subst hW; simp [go_sem]
    have k4 : W.cell? ⟨w.heap.size + 1, 1, none⟩ = some (.int .i64 y) := by subst hW; simp [go_sem]
    clear hW
    refine (HO.out _ (hR.below hbW)).mono ?_
    rintro e w1 ⟨rfl, hb1⟩
    rw [hv1]
    have hbz := held_next hbW hb1
    clear k0 k1 k2 k3 k4
    go_wp2
    go_ret2
    exact ⟨rfl, hbz⟩
  · simp only [Bool.true_and]
    cases v2
    · simp only [Bool.false_eq_true, if_false]
      go_enter Try.func20, Try.ntmps20
      go_wp2_with fail
      generalize hW : (w.alloc (.cells #[.string nm, .slice A n cap, .int .i64 wd] 32)).alloc (.cells #[.int .i64 x, .int .i64 y] 27) = W
      have hbW : Below w.heap.size w W := hW ▸ (by repeat (first | exact Below.refl _ _ | refine Below.alloc ?_ (by simp; try omega) _ | refine Below.drew ?_))
      have k0 : W.cell? ⟨w.heap.size, 0, none⟩ = some (.string nm) := by subst hW; simp [go_sem]
      have k1 : W.cell? ⟨w.heap.size, 1, none⟩ = some (.slice A n cap) := by subst hW; simp [go_sem]
      have k2 : W.cell? ⟨w.heap.size, 2, none⟩ = some (.int .i64 wd) := by subst hW; simp [go_sem]
      have k3 : W.cell? ⟨w.heap.size + 1, 0, none⟩ = some (.int .i64 x) := by subst hW; simp [go_sem]
      have k4 : W.cell? ⟨w.heap.size + 1, 1, none⟩ = some (.int .i64 y) := by subst hW; simp [go_sem]
      clear hW
      refine (HO.out _ (hR.below hbW)).mono ?_
      rintro e w1 ⟨rfl, hb1⟩
      rw [hv1]
      have hbz := held_next hbW hb1
      have j0 : w1.cell? ⟨w.heap.size, 0, none⟩ = some (.string nm) := (hb1.cell (p := ⟨w.heap.size, 0, none⟩) (cell_lt k0)).trans k0
      have j1 : w1.cell? ⟨w.heap.size, 1, none⟩ = some (.slice A n cap) := (hb1.cell (p := ⟨w.heap.size, 1, none⟩) (cell_lt k1)).trans k1
      have j2 : w1.cell? ⟨w.heap.size, 2, none⟩ = some (.int .i64 wd) := (hb1.cell (p := ⟨w.heap.size, 2, none⟩) (cell_lt k2)).trans k2
      have j3 : w1.cell? ⟨w.heap.size + 1, 0, none⟩ = some (.int .i64 x) := (hb1.cell (p := ⟨w.heap.size + 1, 0, none⟩) (cell_lt k3)).trans k3
      have j4 : w1.cell? ⟨w.heap.size + 1, 1, none⟩ = some (.int .i64 y) := (hb1.cell (p := ⟨w.heap.size + 1, 1, none⟩) (cell_lt k4)).trans k4
      clear k0 k1 k2 k3 k4
      go_wp2_with fail
      refine (HK.out _).mono ?_
      rintro e w2 ⟨rfl, hb2⟩
      clear j0 j1 j2 j3 j4
      go_wp2
      go_ret2
      exact ⟨rfl, held_next hbz hb2⟩
    · simp only [if_true]
      obtain ⟨hok, n2, n12, wd0, wd1⟩ := okChan_yes hv1
      have HN := Lib.hid (fun W h => side_c nm wd A n cap X Y x y W n2 n12 hok h2 h)
      generalize sideZ X Y n x y = g at *
      go_enter Try.func20, Try.ntmps20
      go_wp2_with fail
      generalize hW : (w.alloc (.cells #[.string nm, .slice A n cap, .int .i64 wd] 32)).alloc (.cells #[.int .i64 x, .int .i64 y] 27) = W
      have hbW : Below w.heap.size w W := hW ▸ (by repeat (first | exact Below.refl _ _ | refine Below.alloc ?_ (by simp; try omega) _ | refine Below.drew ?_))
      have k0 : W.cell? ⟨w.heap.size, 0, none⟩ = some (.string nm) := by subst hW; simp [go_sem]
      have k1 : W.cell? ⟨w.heap.size, 1, none⟩ = some (.slice A n cap) := by subst hW; simp [go_sem]
      have k2 : W.cell? ⟨w.heap.size, 2, none⟩ = some (.int .i64 wd) := by subst hW; simp [go_sem]
      have k3 : W.cell? ⟨w.heap.size + 1, 0, none⟩ = some (.int .i64 x) := by subst hW; simp [go_sem]
      have k4 : W.cell? ⟨w.heap.size + 1, 1, none⟩ = some (.int .i64 y) := by subst hW; simp [go_sem]
      clear hW
      refine (HO.out _ (hR.below hbW)).mono ?_
      rintro e w1 ⟨rfl, hb1⟩
      rw [hv1]
      have hbz := held_next hbW hb1
      have j0 : w1.cell? ⟨w.heap.size, 0, none⟩ = some (.string nm) := (hb1.cell (p := ⟨w.heap.size, 0, none⟩) (cell_lt k0)).trans k0
      have j1 : w1.cell? ⟨w.heap.size, 1, none⟩ = some (.slice A n cap) := (hb1.cell (p := ⟨w.heap.size, 1, none⟩) (cell_lt k1)).trans k1
      have j2 : w1.cell? ⟨w.heap.size, 2, none⟩ = some (.int .i64 wd) := (hb1.cell (p := ⟨w.heap.size, 2, none⟩) (cell_lt k2)).trans k2
      have j3 : w1.cell? ⟨w.heap.size + 1, 0, none⟩ = some (.int .i64 x) := (hb1.cell (p := ⟨w.heap.size + 1, 0, none⟩) (cell_lt k3)).trans k3
      have j4 : w1.cell? ⟨w.heap.size + 1, 1, none⟩ = some (.int .i64 y) := (hb1.cell (p := ⟨w.heap.size + 1, 1, none⟩) (cell_lt k4)).trans k4
      clear k0 k1 k2 k3 k4
      go_wp2_with fail
      refine (HK.out _).mono ?_
      rintro e w2 ⟨rfl, hb2⟩
      have l0 : w2.cell? ⟨w.heap.size, 0, none⟩ = some (.string nm) := (hb2.cell (p := ⟨w.heap.size, 0, none⟩) (cell_lt j0)).trans j0
      have l1 : w2.cell? ⟨w.heap.size, 1, none⟩ = some (.slice A n cap) := (hb2.cell (p := ⟨w.heap.size, 1, none⟩) (cell_lt j1)).trans j1
      have l2 : w2.cell? ⟨w.heap.size, 2, none⟩ = some (.int .i64 wd) := (hb2.cell (p := ⟨w.heap.size, 2, none⟩) (cell_lt j2)).trans j2
      have l3 : w2.cell? ⟨w.heap.size + 1, 0, none⟩ = some (.int .i64 x) := (hb2.cell (p := ⟨w.heap.size + 1, 0, none⟩) (cell_lt j3)).trans j3
      have l4 : w2.cell? ⟨w.heap.size + 1, 1, none⟩ = some (.int .i64 y) := (hb2.cell (p := ⟨w.heap.size + 1, 1, none⟩) (cell_lt j4)).trans j4
      clear j0 j1 j2 j3 j4
      go_wp2_with fail
      refine (HN.out _ (((hR.below hbW).below hb1).below hb2)).mono ?_
      rintro e w3 ⟨rfl, hb3⟩
      have p0 : w3.cell? ⟨w.heap.size, 0, none⟩ = some (.string nm) := (hb3.cell (p := ⟨w.heap.size, 0, none⟩) (cell_lt l0)).trans l0
      have p1 : w3.cell? ⟨w.heap.size, 1, none⟩ = some (.slice A n cap) := (hb3.cell (p := ⟨w.heap.size, 1, none⟩) (cell_lt l1)).trans l1
      have p2 : w3.cell? ⟨w.heap.size, 2, none⟩ = some (.int .i64 wd) := (hb3.cell (p := ⟨w.heap.size, 2, none⟩) (cell_lt l2)).trans l2
      have p3 : w3.cell? ⟨w.heap.size + 1, 0, none⟩ = some (.int .i64 x) := (hb3.cell (p := ⟨w.heap.size + 1, 0, none⟩) (cell_lt l3)).trans l3
      have p4 : w3.cell? ⟨w.heap.size + 1, 1, none⟩ = some (.int .i64 y) := (hb3.cell (p := ⟨w.heap.size + 1, 1, none⟩) (cell_lt l4)).trans l4
      clear l0 l1 l2 l3 l4
      go_wp2
      go_ret2
      exact ⟨rfl, held_next (held_next hbz hb2) hb3⟩
end Go.Proofs.Ytimfpnmcdicldaa
