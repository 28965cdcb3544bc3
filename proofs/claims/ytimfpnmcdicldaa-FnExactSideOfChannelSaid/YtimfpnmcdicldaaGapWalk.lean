/- The distance of a point from a segment: the program and the reference. -/
import Derived.Test.YtimfpnmcdicldaaGapProd
import Derived.Test.YtimfpnmcdicldaaBetw
namespace Go.Proofs.Ytimfpnmcdicldaa
open Go Go.RowKit
theorem parts_bd {a b c d x y : Int} (h1 : okP a b = true) (h2 : okP c d = true) (h3 : okP x y = true) :
    (-40000000000 ≤ (c - a) * (x - a) ∧ (c - a) * (x - a) ≤ 40000000000) ∧ (-40000000000 ≤ (d - b) * (y - b) ∧ (d - b) * (y - b) ≤ 40000000000) ∧ (-40000000000 ≤ (c - a) * (y - b) ∧ (c - a) * (y - b) ≤ 40000000000) ∧ (-40000000000 ≤ (d - b) * (x - a) ∧ (d - b) * (x - a) ≤ 40000000000) := by
  obtain ⟨⟨a0, a1⟩, b0, b1⟩ := okP_yes h1
  obtain ⟨⟨c0, c1⟩, d0, d1⟩ := okP_yes h2
  obtain ⟨⟨x0, x1⟩, y0, y1⟩ := okP_yes h3
  have q1 := mul_abs (x := c - a) (y := x - a) (A := 200000) (B := 200000) (by omega) (by omega) (by omega) (by omega) (by omega) (by omega)
  have q2 := mul_abs (x := d - b) (y := y - b) (A := 200000) (B := 200000) (by omega) (by omega) (by omega) (by omega) (by omega) (by omega)
  have q3 := mul_abs (x := c - a) (y := y - b) (A := 200000) (B := 200000) (by omega) (by omega) (by omega) (by omega) (by omega) (by omega)
  have q4 := mul_abs (x := d - b) (y := x - a) (A := 200000) (B := 200000) (by omega) (by omega) (by omega) (by omega) (by omega) (by omega)
  exact ⟨⟨by omega, by omega⟩, ⟨by omega, by omega⟩, ⟨by omega, by omega⟩, by omega, by omega⟩
set_option maxHeartbeats 1000000 in
theorem cross_c (a b c d x y : Int) (h1 : okP a b = true) (h2 : okP c d = true) (h3 : okP x y = true) (w : World) :
    Calls Try.prog 113 #[.agg #[.int .i64 a, .int .i64 b], .agg #[.int .i64 c, .int .i64 d], .agg #[.int .i64 x, .int .i64 y]] w fun e w' => e = .returned (.int .i64 (crossI a b c d x y)) ∧ Below w.heap.size w w' := by
  obtain ⟨_, _, q3, q4⟩ := parts_bd h1 h2 h3
  obtain ⟨⟨a0, a1⟩, b0, b1⟩ := okP_yes h1
  obtain ⟨⟨c0, c1⟩, d0, d1⟩ := okP_yes h2
  obtain ⟨⟨x0, x1⟩, y0, y1⟩ := okP_yes h3
  unfold crossI
  clear h1 h2 h3
  go_enter Try.func113, Try.ntmps113
  go_wp2
  go_ret
  exact ⟨rfl, (by repeat (first | exact Below.refl _ _ | refine Below.alloc ?_ (by simp; try omega) _ | refine Below.drew ?_))⟩
set_option maxHeartbeats 1000000 in
theorem l02Cross_c (a b c d x y : Int) (h1 : okP a b = true) (h2 : okP c d = true) (h3 : okP x y = true) (w : World) :
    Calls Try.prog 110 #[.agg #[.int .i64 a, .int .i64 b], .agg #[.int .i64 c, .int .i64 d], .agg #[.int .i64 x, .int .i64 y]] w fun e w' => e = .returned (.int .i64 (crossI a b c d x y)) ∧ Below w.heap.size w w' := by
  obtain ⟨_, _, q3, q4⟩ := parts_bd h1 h2 h3
  obtain ⟨⟨a0, a1⟩, b0, b1⟩ := okP_yes h1
  obtain ⟨⟨c0, c1⟩, d0, d1⟩ := okP_yes h2
  obtain ⟨⟨x0, x1⟩, y0, y1⟩ := okP_yes h3
  unfold crossI
  clear h1 h2 h3
  go_enter Try.func110, Try.ntmps110
  go_wp2
  go_ret
  exact ⟨rfl, (by repeat (first | exact Below.refl _ _ | refine Below.alloc ?_ (by simp; try omega) _ | refine Below.drew ?_))⟩
set_option maxHeartbeats 1000000 in
theorem l00Max_c (a b : Int) (w : World) :
    Calls Try.prog 112 #[.int .i64 a, .int .i64 b] w fun e w' => e = .returned (.int .i64 (if b < a then a else b)) ∧ w = w' := by
  by_cases h : b < a
  · rw [if_pos h]
    go_enter Try.func112, Try.ntmps112
    go_wp2
    go_ret
    exact ⟨rfl, rfl⟩
  · rw [if_neg h]
    go_enter Try.func112, Try.ntmps112
    go_wp2
    go_ret
    exact ⟨rfl, rfl⟩
theorem abs_sq (t : Int) : (if -t < t then t else -t) * (if -t < t then t else -t) = t * t := by
  split
  · rfl
  · exact Int.neg_mul_neg t t
set_option maxRecDepth 100000 in
set_option maxHeartbeats 4000000 in
theorem l02Gap_c (a b c d x y : Int) (h1 : okP a b = true) (h2 : okP c d = true) (h3 : okP x y = true) (w : World) :
    Calls Try.prog 85 #[.agg #[.int .i64 a, .int .i64 b], .agg #[.int .i64 c, .int .i64 d], .agg #[.int .i64 x, .int .i64 y]] w fun e w' => e = .returned (.int .i64 (gapI a b c d x y)) ∧ Below w.heap.size w w' := by
  obtain ⟨q1, q2, q3, q4⟩ := parts_bd h1 h2 h3
  have sb := sqd_bd h1 h2
  have sb2 : sqd a b c d ≤ 80000000000 := by
    have r1 := (parts_bd h1 h2 h2).1
    have r2 := (parts_bd h1 h2 h2).2.1
    have e1 : (a - c) * (a - c) = (c - a) * (c - a) := by rw [← Int.neg_mul_neg]; congr 1 <;> omega
    have e2 : (b - d) * (b - d) = (d - b) * (d - b) := by rw [← Int.neg_mul_neg]; congr 1 <;> omega
    unfold sqd
    omega
  have HSQ := Lib.hid (fun W => l02Square_c a b c d h1 h2 W)
  have HA := Lib.hid (fun W => l02Apart_c a b x y h1 h3 W)
  have HB := Lib.hid (fun W => l02Apart_c c d x y h2 h3 W)
  have HC := Lib.hid (fun W => l02Cross_c a b c d x y h1 h2 h3 W)
  have HG : 1 ≤ sqd a b c d → _ := fun h => gap_root_bd h1 h2 h3 h
  have hcb : -100000000000 ≤ crossI a b c d x y ∧ crossI a b c d x y ≤ 100000000000 := by unfold crossI; omega
  obtain ⟨⟨a0, a1⟩, b0, b1⟩ := okP_yes h1
  obtain ⟨⟨c0, c1⟩, d0, d1⟩ := okP_yes h2
  obtain ⟨⟨x0, x1⟩, y0, y1⟩ := okP_yes h3
  clear h1 h2 h3
  have hal : alongI a b c d x y = (c - a) * (x - a) + (d - b) * (y - b) := rfl
  have hg : gapI a b c d x y = if alongI a b c d x y ≤ 0 then rootI (sqd a b x y) else if sqd a b c d ≤ alongI a b c d x y then rootI (sqd c d x y) else rootI (crossI a b c d x y * crossI a b c d x y / sqd a b c d) := rfl
  have k0 : ∀ z : Aft (((w.alloc (.cells #[.int .i64 a, .int .i64 b] 27)).alloc (.cells #[.int .i64 c, .int .i64 d] 27)).alloc (.cells #[.int .i64 x, .int .i64 y] 27)), z.w1.cell? ⟨w.heap.size, 0, none⟩ = some (.int .i64 a) := fun z => z.cell (by simp; try omega) (by simp [go_sem])
  have k1 : ∀ z : Aft (((w.alloc (.cells #[.int .i64 a, .int .i64 b] 27)).alloc (.cells #[.int .i64 c, .int .i64 d] 27)).alloc (.cells #[.int .i64 x, .int .i64 y] 27)), z.w1.cell? ⟨w.heap.size, 1, none⟩ = some (.int .i64 b) := fun z => z.cell (by simp; try omega) (by simp [go_sem])
  have k2 : ∀ z : Aft (((w.alloc (.cells #[.int .i64 a, .int .i64 b] 27)).alloc (.cells #[.int .i64 c, .int .i64 d] 27)).alloc (.cells #[.int .i64 x, .int .i64 y] 27)), z.w1.cell? ⟨w.heap.size + 1, 0, none⟩ = some (.int .i64 c) := fun z => z.cell (by simp; try omega) (by simp [go_sem])
  have k3 : ∀ z : Aft (((w.alloc (.cells #[.int .i64 a, .int .i64 b] 27)).alloc (.cells #[.int .i64 c, .int .i64 d] 27)).alloc (.cells #[.int .i64 x, .int .i64 y] 27)), z.w1.cell? ⟨w.heap.size + 1, 1, none⟩ = some (.int .i64 d) := fun z => z.cell (by simp; try omega) (by simp [go_sem])
  have k4 : ∀ z : Aft (((w.alloc (.cells #[.int .i64 a, .int .i64 b] 27)).alloc (.cells #[.int .i64 c, .int .i64 d] 27)).alloc (.cells #[.int .i64 x, .int .i64 y] 27)), z.w1.cell? ⟨w.heap.size + 1 + 1, 0, none⟩ = some (.int .i64 x) := fun z => z.cell (by simp; try omega) (by simp [go_sem])
  have k5 : ∀ z : Aft (((w.alloc (.cells #[.int .i64 a, .int .i64 b] 27)).alloc (.cells #[.int .i64 c, .int .i64 d] 27)).alloc (.cells #[.int .i64 x, .int .i64 y] 27)), z.w1.cell? ⟨w.heap.size + 1 + 1, 1, none⟩ = some (.int .i64 y) := fun z => z.cell (by simp; try omega) (by simp [go_sem])
  by_cases g1 : alongI a b c d x y ≤ 0
  · rw [hg, if_pos g1]
    rw [hal] at g1
    clear HG hg hal HB HC hcb
    generalize rootI (sqd a b x y) = ans at *
    generalize sqd a b c d = all at *
    go_enter Try.func85, Try.ntmps85
    go_wp2_with fail
    refine (Aft.first (HSQ.out _)).mono ?_
    rintro e _ ⟨rfl, z, rfl⟩
    go_wp2_with (go_at_call 79; refine (Aft.call (HA.out _)).mono ?_; rintro e _ ⟨rfl, z, rfl⟩)
    go_ret
    exact ⟨rfl, below_box (below_box (below_box (Aft.below _)))⟩
  · by_cases g2 : sqd a b c d ≤ alongI a b c d x y
    · rw [hg, if_neg g1, if_pos g2]
      rw [hal] at g1 g2
      clear HG hg hal HA HC hcb
      generalize rootI (sqd c d x y) = ans at *
      generalize sqd a b c d = all at *
      go_enter Try.func85, Try.ntmps85
      go_wp2_with fail
      refine (Aft.first (HSQ.out _)).mono ?_
      rintro e _ ⟨rfl, z, rfl⟩
      go_wp2_with (go_at_call 79; refine (Aft.call (HB.out _)).mono ?_; rintro e _ ⟨rfl, z, rfl⟩)
      go_ret
      exact ⟨rfl, below_box (below_box (below_box (Aft.below _)))⟩
    · rw [hg, if_neg g1, if_neg g2]
      have hall : 1 ≤ sqd a b c d := by omega
      obtain ⟨_, hR⟩ := HG hall
      rw [hal] at g1 g2
      rw [← abs_sq (crossI a b c d x y)] at hR ⊢
      have hx : 0 ≤ (if -crossI a b c d x y < crossI a b c d x y then crossI a b c d x y else -crossI a b c d x y) ∧ (if -crossI a b c d x y < crossI a b c d x y then crossI a b c d x y else -crossI a b c d x y) ≤ 100000000000 := by split <;> omega
      have HM := Lib.hid (fun W => l00Max_c (crossI a b c d x y) (-crossI a b c d x y) W)
      clear HG hg hal HA HB
      generalize crossI a b c d x y = t at *
      generalize (if -t < t then t else -t) = u at *
      have HF := Lib.hid (fun W => l02Far_c u (sqd a b c d) hx.1 hx.2 hall (by omega) hR W)
      generalize sqd a b c d = all at *
      generalize rootI (u * u / all) = ans at *
      go_enter Try.func85, Try.ntmps85
      go_wp2_with fail
      refine (Aft.first (HSQ.out _)).mono ?_
      rintro e _ ⟨rfl, z, rfl⟩
      go_wp2_with (first
        | (go_at_call 110; refine (Aft.call (HC.out _)).mono ?_; rintro e _ ⟨rfl, z, rfl⟩)
        | (go_at_call 112; refine (Aft.same (HM.out _)).mono ?_; rintro e _ ⟨rfl, z, rfl⟩)
        | (go_at_call 111; refine (Aft.same (HF.out _)).mono ?_; rintro e _ ⟨rfl, z, rfl⟩))
      go_ret
      exact ⟨rfl, below_box (below_box (below_box (Aft.below _)))⟩
set_option maxHeartbeats 2000000 in
theorem arePoints3_c (g cap : Nat) (a b c d x y : Int) (h1 : okP a b = true) (h2 : okP c d = true) (h3 : okP x y = true) (w : World)
    (c0 : w.cell? ⟨g, 0, none⟩ = some (.int .i64 a)) (c1 : w.cell? ⟨g, 1, none⟩ = some (.int .i64 b)) (c2 : w.cell? ⟨g, 2, none⟩ = some (.int .i64 c)) (c3 : w.cell? ⟨g, 3, none⟩ = some (.int .i64 d)) (c4 : w.cell? ⟨g, 4, none⟩ = some (.int .i64 x)) (c5 : w.cell? ⟨g, 5, none⟩ = some (.int .i64 y)) :
    Calls Try.prog 62 #[.slice (some ⟨g, 0, none⟩) 3 cap] w fun e w' => e = .returned (.bool true) ∧ Below w.heap.size w w' := by
  have hg : g < w.heap.size := cell_lt c0
  have k0 : ∀ x : Aft w, x.w1.cell? ⟨g, 0, none⟩ = some (.int .i64 a) := fun x => x.cell hg c0
  have k1 : ∀ x : Aft w, x.w1.cell? ⟨g, 1, none⟩ = some (.int .i64 b) := fun x => x.cell hg c1
  have k2 : ∀ x : Aft w, x.w1.cell? ⟨g, 2, none⟩ = some (.int .i64 c) := fun x => x.cell hg c2
  have k3 : ∀ x : Aft w, x.w1.cell? ⟨g, 3, none⟩ = some (.int .i64 d) := fun x => x.cell hg c3
  have k4 : ∀ z : Aft w, z.w1.cell? ⟨g, 4, none⟩ = some (.int .i64 x) := fun z => z.cell hg c4
  have k5 : ∀ z : Aft w, z.w1.cell? ⟨g, 5, none⟩ = some (.int .i64 y) := fun z => z.cell hg c5
  clear c0 c1 c2 c3 c4 c5
  go_enter Try.func62, Try.ntmps62
  go_wp2
  go_loopw [7] (fun i wr => ∃ x : Aft w, wr = x.w1 ∧ (i = .int .i64 0 ∨ i = .int .i64 1 ∨ i = .int .i64 2 ∨ i = .int .i64 3)) (fun i _ => 3 - (intOf i).toNat)
  case atStart => exact ⟨⟨w, Below.refl _ _⟩, rfl, .inl rfl⟩
  case round =>
    obtain ⟨z, rfl, rfl | rfl | rfl | rfl⟩ := hrel
    · go_wp2_with (go_at_call 54; refine (validPoint_c a b _ h1 _).mono ?_; rintro e w2 ⟨rfl, hb2⟩)
      go_roundw
      case rel => exact ⟨⟨_, held_next z.below (below_box hb2)⟩, rfl, .inr (.inl rfl)⟩
      case measure => simp [intOf]
    · go_wp2_with (go_at_call 54; refine (validPoint_c c d _ h2 _).mono ?_; rintro e w2 ⟨rfl, hb2⟩)
      go_roundw
      case rel => exact ⟨⟨_, held_next z.below (below_box hb2)⟩, rfl, .inr (.inr (.inl rfl))⟩
      case measure => simp [intOf]
    · go_wp2_with (go_at_call 54; refine (validPoint_c x y _ h3 _).mono ?_; rintro e w2 ⟨rfl, hb2⟩)
      go_roundw
      case rel => exact ⟨⟨_, held_next z.below (below_box hb2)⟩, rfl, .inr (.inr (.inr rfl))⟩
      case measure => simp [intOf]
    · go_wp2
      go_ret
      exact ⟨rfl, Aft.below _⟩
theorem atMost_abs (r all t u : Int) (v : Bool) (hu : u * u = t * t) (u0 : 0 ≤ u) (u1 : u ≤ 100000000000) (r0 : 0 ≤ r) (r1 : r ≤ 400000) (l0 : 0 ≤ all) (l1 : all ≤ 100000000000) (hv : decide (r * r * all ≤ t * t) = v) (W : World) :
    Calls Try.prog 114 #[.int .i64 (r * r), .int .i64 all, .int .i64 u, .int .i64 u] W fun e w' => e = .returned (.bool v) ∧ W = w' := by
  have rr := mul_bd2 (x := r) (y := r) (A := 400000) (B := 400000) r0 r1 r0 r1
  rw [← hv, ← hu]
  exact atMost_c (r * r) all u u rr.1 (by omega) l0 (by omega) u0 (by omega) u0 (by omega) W
set_option maxRecDepth 100000 in
set_option maxHeartbeats 4000000 in
theorem dts_c (a b c d x y : Int) (h1 : okP a b = true) (h2 : okP c d = true) (h3 : okP x y = true) (w : World) :
    Calls Try.prog 86 #[.agg #[.int .i64 a, .int .i64 b], .agg #[.int .i64 c, .int .i64 d], .agg #[.int .i64 x, .int .i64 y]] w fun e w' => e = .returned (.int .i64 (gapI a b c d x y)) ∧ Below w.heap.size w w' := by
  obtain ⟨q1, q2, q3, q4⟩ := parts_bd h1 h2 h3
  have sb := sqd_bd h1 h2
  have sb2 : sqd a b c d ≤ 80000000000 := by
    have r1 := (parts_bd h1 h2 h2).1
    have r2 := (parts_bd h1 h2 h2).2.1
    have e1 : (a - c) * (a - c) = (c - a) * (c - a) := by rw [← Int.neg_mul_neg]; congr 1 <;> omega
    have e2 : (b - d) * (b - d) = (d - b) * (d - b) := by rw [← Int.neg_mul_neg]; congr 1 <;> omega
    unfold sqd
    omega
  have HSQ := Lib.hid (fun W => squared_c a b c d h1 h2 W)
  have HA := Lib.hid (fun W => distance_c a b x y h1 h3 W)
  have HB := Lib.hid (fun W => distance_c c d x y h2 h3 W)
  have HC := Lib.hid (fun W => cross_c a b c d x y h1 h2 h3 W)
  have HP := Lib.hid (fun g W c0 c1 c2 c3 c4 c5 => arePoints3_c g 3 a b c d x y h1 h2 h3 W c0 c1 c2 c3 c4 c5)
  have HG : 1 ≤ sqd a b c d → _ := fun h => gap_root_bd h1 h2 h3 h
  have hcb : -100000000000 ≤ crossI a b c d x y ∧ crossI a b c d x y ≤ 100000000000 := by unfold crossI; omega
  obtain ⟨⟨a0, a1⟩, b0, b1⟩ := okP_yes h1
  obtain ⟨⟨c0, c1⟩, d0, d1⟩ := okP_yes h2
  obtain ⟨⟨x0, x1⟩, y0, y1⟩ := okP_yes h3
  clear h1 h2 h3
  have hal : alongI a b c d x y = (x - a) * (c - a) + (y - b) * (d - b) := by unfold alongI; rw [Int.mul_comm (c - a), Int.mul_comm (d - b)]
  rw [Int.mul_comm] at q1 q2
  have hg : gapI a b c d x y = if alongI a b c d x y ≤ 0 then rootI (sqd a b x y) else if sqd a b c d ≤ alongI a b c d x y then rootI (sqd c d x y) else rootI (crossI a b c d x y * crossI a b c d x y / sqd a b c d) := rfl
  have k0 : ∀ z : Aft ((((w.alloc (.cells #[.int .i64 a, .int .i64 b] 27)).alloc (.cells #[.int .i64 c, .int .i64 d] 27)).alloc (.cells #[.int .i64 x, .int .i64 y] 27)).alloc (.cells #[.int .i64 a, .int .i64 b, .int .i64 c, .int .i64 d, .int .i64 x, .int .i64 y] 27)), z.w1.cell? ⟨w.heap.size, 0, none⟩ = some (.int .i64 a) := fun z => z.cell (by simp; try omega) (by simp [go_sem])
  have k1 : ∀ z : Aft ((((w.alloc (.cells #[.int .i64 a, .int .i64 b] 27)).alloc (.cells #[.int .i64 c, .int .i64 d] 27)).alloc (.cells #[.int .i64 x, .int .i64 y] 27)).alloc (.cells #[.int .i64 a, .int .i64 b, .int .i64 c, .int .i64 d, .int .i64 x, .int .i64 y] 27)), z.w1.cell? ⟨w.heap.size, 1, none⟩ = some (.int .i64 b) := fun z => z.cell (by simp; try omega) (by simp [go_sem])
  have k2 : ∀ z : Aft ((((w.alloc (.cells #[.int .i64 a, .int .i64 b] 27)).alloc (.cells #[.int .i64 c, .int .i64 d] 27)).alloc (.cells #[.int .i64 x, .int .i64 y] 27)).alloc (.cells #[.int .i64 a, .int .i64 b, .int .i64 c, .int .i64 d, .int .i64 x, .int .i64 y] 27)), z.w1.cell? ⟨w.heap.size + 1, 0, none⟩ = some (.int .i64 c) := fun z => z.cell (by simp; try omega) (by simp [go_sem])
  have k3 : ∀ z : Aft ((((w.alloc (.cells #[.int .i64 a, .int .i64 b] 27)).alloc (.cells #[.int .i64 c, .int .i64 d] 27)).alloc (.cells #[.int .i64 x, .int .i64 y] 27)).alloc (.cells #[.int .i64 a, .int .i64 b, .int .i64 c, .int .i64 d, .int .i64 x, .int .i64 y] 27)), z.w1.cell? ⟨w.heap.size + 1, 1, none⟩ = some (.int .i64 d) := fun z => z.cell (by simp; try omega) (by simp [go_sem])
  have k4 : ∀ z : Aft ((((w.alloc (.cells #[.int .i64 a, .int .i64 b] 27)).alloc (.cells #[.int .i64 c, .int .i64 d] 27)).alloc (.cells #[.int .i64 x, .int .i64 y] 27)).alloc (.cells #[.int .i64 a, .int .i64 b, .int .i64 c, .int .i64 d, .int .i64 x, .int .i64 y] 27)), z.w1.cell? ⟨w.heap.size + 1 + 1, 0, none⟩ = some (.int .i64 x) := fun z => z.cell (by simp; try omega) (by simp [go_sem])
  have k5 : ∀ z : Aft ((((w.alloc (.cells #[.int .i64 a, .int .i64 b] 27)).alloc (.cells #[.int .i64 c, .int .i64 d] 27)).alloc (.cells #[.int .i64 x, .int .i64 y] 27)).alloc (.cells #[.int .i64 a, .int .i64 b, .int .i64 c, .int .i64 d, .int .i64 x, .int .i64 y] 27)), z.w1.cell? ⟨w.heap.size + 1 + 1, 1, none⟩ = some (.int .i64 y) := fun z => z.cell (by simp; try omega) (by simp [go_sem])
  by_cases g1 : alongI a b c d x y ≤ 0
  · rw [hg, if_pos g1]
    rw [hal] at g1
    clear HG hg hal HB HC hcb
    generalize rootI (sqd a b x y) = ans at *
    generalize sqd a b c d = all at *
    go_enter Try.func86, Try.ntmps86
    go_wp2_with (first
      | (go_at_call 62; refine (Aft.first (HP.out _ _ (by simp [go_sem]) (by simp [go_sem]) (by simp [go_sem]) (by simp [go_sem]) (by simp [go_sem]) (by simp [go_sem]))).mono ?_; rintro e _ ⟨rfl, z, rfl⟩)
      | (go_at_call 109; refine (Aft.call (HSQ.out _)).mono ?_; rintro e _ ⟨rfl, z, rfl⟩)
      | (go_at_call 83; refine (Aft.call (HA.out _)).mono ?_; rintro e _ ⟨rfl, z, rfl⟩))
    go_ret
    exact ⟨rfl, below_box (below_box (below_box (below_box (Aft.below _))))⟩
  · by_cases g2 : sqd a b c d ≤ alongI a b c d x y
    · rw [hg, if_neg g1, if_pos g2]
      rw [hal] at g1 g2
      clear HG hg hal HA HC hcb
      generalize rootI (sqd c d x y) = ans at *
      generalize sqd a b c d = all at *
      go_enter Try.func86, Try.ntmps86
      go_wp2_with (first
        | (go_at_call 62; refine (Aft.first (HP.out _ _ (by simp [go_sem]) (by simp [go_sem]) (by simp [go_sem]) (by simp [go_sem]) (by simp [go_sem]) (by simp [go_sem]))).mono ?_; rintro e _ ⟨rfl, z, rfl⟩)
        | (go_at_call 109; refine (Aft.call (HSQ.out _)).mono ?_; rintro e _ ⟨rfl, z, rfl⟩)
        | (go_at_call 83; refine (Aft.call (HB.out _)).mono ?_; rintro e _ ⟨rfl, z, rfl⟩))
      go_ret
      exact ⟨rfl, below_box (below_box (below_box (below_box (Aft.below _))))⟩
    · rw [hg, if_neg g1, if_neg g2]
      have hall : 1 ≤ sqd a b c d := by omega
      obtain ⟨R0, hR⟩ := HG hall
      rw [hal] at g1 g2
      have hx2 := sq_nonneg (crossI a b c d x y)
      have HF := Lib.hid (fun r (hr : 0 ≤ r) => far_iff (r := r) (all := sqd a b c d) (q := crossI a b c d x y * crossI a b c d x y) hr hall hx2)
      clear HG hg hal HA HB
      generalize crossI a b c d x y = t at *
      generalize sqd a b c d = all at *
      generalize rootI (t * t / all) = R at *
      go_enter Try.func86, Try.ntmps86
      go_wp2_with (first
        | (go_at_call 62; refine (Aft.first (HP.out _ _ (by simp [go_sem]) (by simp [go_sem]) (by simp [go_sem]) (by simp [go_sem]) (by simp [go_sem]) (by simp [go_sem]))).mono ?_; rintro e _ ⟨rfl, z, rfl⟩)
        | (go_at_call 109; refine (Aft.call (HSQ.out _)).mono ?_; rintro e _ ⟨rfl, z, rfl⟩)
        | (go_at_call 113; refine (Aft.call (HC.out _)).mono ?_; rintro e _ ⟨rfl, z, rfl⟩))
      · have u0 : 0 ≤ -t := by omega
        go_loop [10, 11] (fun lo hi => ∃ l m : Int, lo = .int .i64 l ∧ hi = .int .i64 m ∧ 0 ≤ l ∧ l ≤ R ∧ R ≤ m ∧ m ≤ 400000) (fun l m => (intOf m - intOf l).toNat)
        case atStart => exact ⟨0, 400000, rfl, rfl, by omega, R0, by omega, by omega⟩
        case round =>
          obtain ⟨l, m, rfl, rfl, h1, h2, h3, h4⟩ := hrel
          by_cases hlt : l < m
          · obtain ⟨r, hr⟩ : ∃ r, (l + m + 1) / 2 = r := ⟨_, rfl⟩
            have r0 : l < r ∧ r ≤ m := by omega
            have rr := mul_bd2 (x := r) (y := r) (A := 400000) (B := 400000) (by omega) (by omega) (by omega) (by omega)
            have hf := HF.out r (by omega)
            obtain ⟨v, hv⟩ : ∃ v, decide (r * r * all ≤ t * t) = v := ⟨_, rfl⟩
            have HV := Lib.hid (fun W => atMost_abs r all t (-t) v (Int.neg_mul_neg t t) u0 (by omega) (by omega) (by omega) (by omega) (by omega) hv W)
            have hc : if v then r ≤ R else ¬ r ≤ R := by
              rw [← hf, ← hv]
              split <;> simp_all
            clear hf hv
            cases v
            all_goals
              simp only [if_true, if_false, Bool.false_eq_true] at hc
              go_wp2_with fail
              refine (HV.out _).mono ?_
              rintro e _ ⟨rfl, rfl⟩
              go_wp2
              go_round
              case rel =>
                first
                  | exact ⟨r, m, rfl, rfl, by omega, by omega, by omega, by omega⟩
                  | exact ⟨l, r - 1, rfl, rfl, by omega, by omega, by omega, by omega⟩
              case measure => simp [intOf]; omega
          · obtain rfl : l = R := by omega
            go_wp2
            go_ret
            exact ⟨rfl, below_box (below_box (below_box (below_box (Aft.below _))))⟩
      · have u0 : 0 ≤ t := by omega
        go_loop [10, 11] (fun lo hi => ∃ l m : Int, lo = .int .i64 l ∧ hi = .int .i64 m ∧ 0 ≤ l ∧ l ≤ R ∧ R ≤ m ∧ m ≤ 400000) (fun l m => (intOf m - intOf l).toNat)
        case atStart => exact ⟨0, 400000, rfl, rfl, by omega, R0, by omega, by omega⟩
        case round =>
          obtain ⟨l, m, rfl, rfl, h1, h2, h3, h4⟩ := hrel
          by_cases hlt : l < m
          · obtain ⟨r, hr⟩ : ∃ r, (l + m + 1) / 2 = r := ⟨_, rfl⟩
            have r0 : l < r ∧ r ≤ m := by omega
            have rr := mul_bd2 (x := r) (y := r) (A := 400000) (B := 400000) (by omega) (by omega) (by omega) (by omega)
            have hf := HF.out r (by omega)
            obtain ⟨v, hv⟩ : ∃ v, decide (r * r * all ≤ t * t) = v := ⟨_, rfl⟩
            have HV := Lib.hid (fun W => atMost_abs r all t (t) v rfl u0 (by omega) (by omega) (by omega) (by omega) (by omega) hv W)
            have hc : if v then r ≤ R else ¬ r ≤ R := by
              rw [← hf, ← hv]
              split <;> simp_all
            clear hf hv
            cases v
            all_goals
              simp only [if_true, if_false, Bool.false_eq_true] at hc
              go_wp2_with fail
              refine (HV.out _).mono ?_
              rintro e _ ⟨rfl, rfl⟩
              go_wp2
              go_round
              case rel =>
                first
                  | exact ⟨r, m, rfl, rfl, by omega, by omega, by omega, by omega⟩
                  | exact ⟨l, r - 1, rfl, rfl, by omega, by omega, by omega, by omega⟩
              case measure => simp [intOf]; omega
          · obtain rfl : l = R := by omega
            go_wp2
            go_ret
            exact ⟨rfl, below_box (below_box (below_box (below_box (Aft.below _))))⟩
end Go.Proofs.Ytimfpnmcdicldaa
