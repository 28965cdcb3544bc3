/- Dividing a segment: the program and the reference; the segment of a line that a distance reaches. -/
import Derived.Test.YtimfpnmcdicldaaChLen
import Derived.Test.YtimfpnmcdicldaaDiv
import Derived.Test.YtimfpnmcdicldaaQTail
import Derived.Test.YtimfpnmcdicldaaBlk
import Derived.BigRegion
namespace Go.Proofs.Ytimfpnmcdicldaa
open Go Go.RowKit
theorem mul_abs {x y A B : Int} (h1 : -A ≤ x) (h2 : x ≤ A) (h3 : -B ≤ y) (h4 : y ≤ B) (hA : 0 ≤ A) (hB : 0 ≤ B) : -(A * B) ≤ x * y ∧ x * y ≤ A * B := by
  rcases Int.le_total 0 x with hx | hx <;> rcases Int.le_total 0 y with hy | hy
  · have a := Int.mul_le_mul h2 h4 hy hA
    have b := Int.mul_nonneg hx hy
    have c := Int.mul_nonneg hA hB
    omega
  · have a := Int.mul_le_mul h2 (show -y ≤ B by omega) (by omega) hA
    have b := Int.mul_nonneg hx (show 0 ≤ -y by omega)
    have c := Int.mul_nonneg hA hB
    rw [Int.mul_neg] at a b
    omega
  · have a := Int.mul_le_mul (show -x ≤ A by omega) h4 hy hA
    have b := Int.mul_nonneg (show 0 ≤ -x by omega) hy
    have c := Int.mul_nonneg hA hB
    rw [Int.neg_mul] at a b
    omega
  · have a := Int.mul_le_mul (show -x ≤ A by omega) (show -y ≤ B by omega) (by omega) hA
    have b := Int.mul_nonneg (show 0 ≤ -x by omega) (show 0 ≤ -y by omega)
    have c := Int.mul_nonneg hA hB
    rw [Int.neg_mul_neg] at a b
    omega
def swapP (a b c d : Int) : Bool := decide (c < a) || ((a == c) && decide (d < b))
def btwX (a b c d i n : Int) : Int := if swapP a b c d then c + dvR ((n - i) * (a - c)) n else a + dvR (i * (c - a)) n
def btwY (a b c d i n : Int) : Int := if swapP a b c d then d + dvR ((n - i) * (b - d)) n else b + dvR (i * (d - b)) n
/-- The first segment that reaches a distance. -/
def FirstSeg (X Y : Nat → Int) (n : Nat) (d : Int) (J : Nat) : Prop := J + 1 < n ∧ d ≤ lenI X Y (J + 1) ∧ ∀ i, i < J → lenI X Y (i + 1) < d
theorem seg_or (X Y : Nat → Int) (d : Int) : ∀ m, (∀ i, i < m → lenI X Y (i + 1) < d) ∨ ∃ J, J < m ∧ d ≤ lenI X Y (J + 1) ∧ ∀ i, i < J → lenI X Y (i + 1) < d
  | 0 => .inl (fun i hi => by omega)
  | m + 1 => by
    rcases seg_or X Y d m with h | ⟨J, h1, h2, h3⟩
    · by_cases hm : d ≤ lenI X Y (m + 1)
      · exact .inr ⟨m, by omega, hm, h⟩
      · refine .inl (fun i hi => ?_)
        by_cases e : i = m
        · rw [e]; omega
        · exact h i (by omega)
    · exact .inr ⟨J, by omega, h2, h3⟩
theorem first_seg {X Y : Nat → Int} {n : Nat} {d : Int} (hn : 2 ≤ n) (h : d ≤ lenI X Y (n - 1)) : ∃ J, FirstSeg X Y n d J := by
  rcases seg_or X Y d (n - 1) with h1 | ⟨J, h1, h2, h3⟩
  · have := h1 (n - 2) (by omega)
    rw [show n - 2 + 1 = n - 1 by omega] at this
    omega
  · exact ⟨J, by omega, h2, h3⟩
theorem dv_bd {a b M : Int} (hb : 1 ≤ b) (h0 : -M ≤ a) (h1 : a ≤ M) (_hM : 0 ≤ M) : -(M + 1) ≤ dvR a b ∧ dvR a b ≤ M + 1 := by
  obtain ⟨p, q⟩ := dvR_bd (a := a) hb
  rcases Int.le_total 0 a with h | h
  · have := p h; omega
  · by_cases e : a = 0
    · have := p (by omega); omega
    · have := q (by omega); omega
set_option maxRecDepth 100000 in
set_option maxHeartbeats 4000000 in
theorem l02Between_c (a b c d i n : Int) (h1 : okP a b = true) (h2 : okP c d = true) (i0 : 0 ≤ i) (i1 : i ≤ n) (n0 : 1 ≤ n) (n1 : n ≤ 1500000) (w : World) :
    Calls Try.prog 81 #[.agg #[.int .i64 a, .int .i64 b], .agg #[.int .i64 c, .int .i64 d], .int .i64 i, .int .i64 n] w fun e w' => e = .returned (.agg #[.int .i64 (btwX a b c d i n), .int .i64 (btwY a b c d i n)]) ∧ Below w.heap.size w w' := by
  obtain ⟨⟨a0, a1⟩, b0, b1⟩ := okP_yes h1
  obtain ⟨⟨c0, c1⟩, d0, d1⟩ := okP_yes h2
  have bx := mul_abs (x := i) (y := c - a) (A := 1500000) (B := 200000) (by omega) (by omega) (by omega) (by omega) (by omega) (by omega)
  have b_y := mul_abs (x := i) (y := d - b) (A := 1500000) (B := 200000) (by omega) (by omega) (by omega) (by omega) (by omega) (by omega)
  have cx := mul_abs (x := n - i) (y := a - c) (A := 1500000) (B := 200000) (by omega) (by omega) (by omega) (by omega) (by omega) (by omega)
  have cy := mul_abs (x := n - i) (y := b - d) (A := 1500000) (B := 200000) (by omega) (by omega) (by omega) (by omega) (by omega) (by omega)
  have ex := dv_bd n0 bx.1 bx.2 (by omega)
  have ey := dv_bd n0 b_y.1 b_y.2 (by omega)
  have fx := dv_bd n0 cx.1 cx.2 (by omega)
  have fy := dv_bd n0 cy.1 cy.2 (by omega)
  have HX := Lib.hid (fun W => l01Div_c (i * (c - a)) n n0 (by omega) (by omega) (by omega) W)
  have HY := Lib.hid (fun W => l01Div_c (i * (d - b)) n n0 (by omega) (by omega) (by omega) W)
  have GX := Lib.hid (fun W => l01Div_c ((n - i) * (a - c)) n n0 (by omega) (by omega) (by omega) W)
  have GY := Lib.hid (fun W => l01Div_c ((n - i) * (b - d)) n n0 (by omega) (by omega) (by omega) W)
  cases hs : swapP a b c d
  · have hB : btwX a b c d i n = a + dvR (i * (c - a)) n ∧ btwY a b c d i n = b + dvR (i * (d - b)) n := by simp [btwX, btwY, hs]
    rw [hB.1, hB.2]
    have hs2 : (¬ c < a) ∧ (a ≠ c ∨ ¬ d < b) := by
      simpa [swapP, Classical.or_iff_not_imp_left] using hs
    clear hB hs h1 h2 GX GY cx cy fx fy
    have hf : (decide (c < a)) = false := by simpa using hs2.1
    have hf2 : ((a == c) = true ∧ decide (d < b) = false) ∨ (a == c) = false := by
      by_cases he : a = c
      · exact .inl ⟨by simpa using he, by simp; omega⟩
      · exact .inr (by simpa using he)
    clear hs2
    rcases hf2 with ⟨hf2, hf3⟩ | hf2
    all_goals
      go_enter Try.func81, Try.ntmps81
      go_wp2
      generalize hW : ((w.alloc (.cells #[.int .i64 a, .int .i64 b] 27)).alloc (.cells #[.int .i64 c, .int .i64 d] 27)).alloc (.cells #[.int .i64 0, .int .i64 0] 27) = W
      have hbW : Below w.heap.size w W := hW ▸ (by repeat (first | exact Below.refl _ _ | refine Below.alloc ?_ (by simp; try omega) _ | refine Below.drew ?_))
      have k0 : ∀ y : Aft W, y.w1.cell? ⟨w.heap.size, 0, none⟩ = some (.int .i64 a) := by subst hW; exact fun y => y.cell (by simp; try omega) (by simp [go_sem])
      have k1 : ∀ y : Aft W, y.w1.cell? ⟨w.heap.size, 1, none⟩ = some (.int .i64 b) := by subst hW; exact fun y => y.cell (by simp; try omega) (by simp [go_sem])
      have k2 : ∀ y : Aft W, y.w1.cell? ⟨w.heap.size + 1, 0, none⟩ = some (.int .i64 c) := by subst hW; exact fun y => y.cell (by simp; try omega) (by simp [go_sem])
      have k3 : ∀ y : Aft W, y.w1.cell? ⟨w.heap.size + 1, 1, none⟩ = some (.int .i64 d) := by subst hW; exact fun y => y.cell (by simp; try omega) (by simp [go_sem])
      have hB : Blk W (w.heap.size + 1 + 1) 27 #[.int .i64 0, .int .i64 0] := by subst hW; exact Blk.new2 _ _ _ _ _
      refine wp_region_aft_tail 25 (by kernel_rfl) (by kernel_rfl) ?_
      simp only [List.take_succ_cons, List.take_zero, List.drop_succ_cons, List.drop_zero]
      iterate 10 (go_big_quiet_step (fail))
      go_big_quiet_step ((go_at_call 105; exact Aft.same (HX.out _)))
      iterate 11 (go_big_quiet_step (fail))
      go_big_quiet_step ((go_at_call 105; exact Aft.same (HY.out _)))
      iterate 2 (go_big_quiet_step (fail))
      refine wpQuiet_nil ?_
      intro z
      have hz := hB.below z.below
      have z0 : z.w1.cell? ⟨w.heap.size + 1 + 1, 0, none⟩ = some (.int .i64 0) := hz.cell 0
      have z1 : z.w1.cell? ⟨w.heap.size + 1 + 1, 1, none⟩ = some (.int .i64 0) := hz.cell 1
      have g0 := hz.frozen 0
      have g1 := hz.frozen 1
      have hbz := held_next hbW z.below
      clear hW k0 k1 k2 k3 hz
      go_wp2
      refine bodyPost_ret (v := .agg #[.int .i64 (a + dvR (i * (c - a)) n), .int .i64 (b + dvR (i * (d - b)) n)]) (by simp [results, Try.results81, go_sem, z0, z1]) rfl ⟨rfl, ?_⟩
      exact (hbz.setCell (by simp; omega) _).setCell (by simp; omega) _
  · have hB : btwX a b c d i n = c + dvR ((n - i) * (a - c)) n ∧ btwY a b c d i n = d + dvR ((n - i) * (b - d)) n := by simp [btwX, btwY, hs]
    rw [hB.1, hB.2]
    have hf2 : decide (c < a) = true ∨ (decide (c < a) = false ∧ (a == c) = true ∧ decide (d < b) = true) := by
      simp only [swapP, Bool.or_eq_true, Bool.and_eq_true] at hs
      by_cases h : c < a
      · exact .inl (by simpa using h)
      · rcases hs with hs | ⟨hs, hs2⟩
        · exact .inl hs
        · exact .inr ⟨by simpa using h, hs, hs2⟩
    clear hB hs h1 h2 HX HY bx b_y ex ey
    rcases hf2 with hf2 | ⟨hf, hf2, hf3⟩
    all_goals
      go_enter Try.func81, Try.ntmps81
      go_wp2
      generalize hW : (((w.alloc (.cells #[.int .i64 c, .int .i64 d] 27)).alloc (.cells #[.int .i64 a, .int .i64 b] 27)).alloc (.cells #[.int .i64 0, .int .i64 0] 27)).alloc (.cells #[.int .i64 a, .int .i64 b] 27) = W
      have hbW : Below w.heap.size w W := hW ▸ (by repeat (first | exact Below.refl _ _ | refine Below.alloc ?_ (by simp; try omega) _ | refine Below.drew ?_))
      have k0 : ∀ y : Aft W, y.w1.cell? ⟨w.heap.size, 0, none⟩ = some (.int .i64 c) := by subst hW; exact fun y => y.cell (by simp; try omega) (by simp [go_sem])
      have k1 : ∀ y : Aft W, y.w1.cell? ⟨w.heap.size, 1, none⟩ = some (.int .i64 d) := by subst hW; exact fun y => y.cell (by simp; try omega) (by simp [go_sem])
      have k2 : ∀ y : Aft W, y.w1.cell? ⟨w.heap.size + 1, 0, none⟩ = some (.int .i64 a) := by subst hW; exact fun y => y.cell (by simp; try omega) (by simp [go_sem])
      have k3 : ∀ y : Aft W, y.w1.cell? ⟨w.heap.size + 1, 1, none⟩ = some (.int .i64 b) := by subst hW; exact fun y => y.cell (by simp; try omega) (by simp [go_sem])
      have hB : Blk W (w.heap.size + 1 + 1) 27 #[.int .i64 0, .int .i64 0] := by subst hW; exact (Blk.new2 _ _ _ _ _).below (by repeat (first | exact Below.refl _ _ | refine Below.alloc ?_ (by simp; try omega) _ | refine Below.drew ?_))
      refine wp_region_aft_tail 25 (by kernel_rfl) (by kernel_rfl) ?_
      simp only [List.take_succ_cons, List.take_zero, List.drop_succ_cons, List.drop_zero]
      iterate 10 (go_big_quiet_step (fail))
      go_big_quiet_step ((go_at_call 105; exact Aft.same (GX.out _)))
      iterate 11 (go_big_quiet_step (fail))
      go_big_quiet_step ((go_at_call 105; exact Aft.same (GY.out _)))
      iterate 2 (go_big_quiet_step (fail))
      refine wpQuiet_nil ?_
      intro z
      have hz := hB.below z.below
      have z0 : z.w1.cell? ⟨w.heap.size + 1 + 1, 0, none⟩ = some (.int .i64 0) := hz.cell 0
      have z1 : z.w1.cell? ⟨w.heap.size + 1 + 1, 1, none⟩ = some (.int .i64 0) := hz.cell 1
      have g0 := hz.frozen 0
      have g1 := hz.frozen 1
      have hbz := held_next hbW z.below
      clear hW k0 k1 k2 k3 hz
      go_wp2
      refine bodyPost_ret (v := .agg #[.int .i64 (c + dvR ((n - i) * (a - c)) n), .int .i64 (d + dvR ((n - i) * (b - d)) n)]) (by simp [results, Try.results81, go_sem, z0, z1]) rfl ⟨rfl, ?_⟩
      exact (hbz.setCell (by simp; omega) _).setCell (by simp; omega) _
set_option maxRecDepth 100000 in
set_option maxHeartbeats 4000000 in
theorem between_c (a b c d i n : Int) (h1 : okP a b = true) (h2 : okP c d = true) (i0 : 0 ≤ i) (i1 : i ≤ n) (n0 : 1 ≤ n) (n1 : n ≤ 1500000) (w : World) :
    Calls Try.prog 84 #[.agg #[.int .i64 a, .int .i64 b], .agg #[.int .i64 c, .int .i64 d], .int .i64 i, .int .i64 n] w fun e w' => e = .returned (.agg #[.int .i64 (btwX a b c d i n), .int .i64 (btwY a b c d i n)]) ∧ Below w.heap.size w w' := by
  obtain ⟨⟨a0, a1⟩, b0, b1⟩ := okP_yes h1
  obtain ⟨⟨c0, c1⟩, d0, d1⟩ := okP_yes h2
  have bx := mul_abs (x := i) (y := c - a) (A := 1500000) (B := 200000) (by omega) (by omega) (by omega) (by omega) (by omega) (by omega)
  have b_y := mul_abs (x := i) (y := d - b) (A := 1500000) (B := 200000) (by omega) (by omega) (by omega) (by omega) (by omega) (by omega)
  have cx := mul_abs (x := n - i) (y := a - c) (A := 1500000) (B := 200000) (by omega) (by omega) (by omega) (by omega) (by omega) (by omega)
  have cy := mul_abs (x := n - i) (y := b - d) (A := 1500000) (B := 200000) (by omega) (by omega) (by omega) (by omega) (by omega) (by omega)
  have ex := dv_bd n0 bx.1 bx.2 (by omega)
  have ey := dv_bd n0 b_y.1 b_y.2 (by omega)
  have fx := dv_bd n0 cx.1 cx.2 (by omega)
  have fy := dv_bd n0 cy.1 cy.2 (by omega)
  have HX := Lib.hid (fun W => divRound_c (i * (c - a)) n n0 (by omega) (by omega) (by omega) W)
  have HY := Lib.hid (fun W => divRound_c (i * (d - b)) n n0 (by omega) (by omega) (by omega) W)
  have GX := Lib.hid (fun W => divRound_c ((n - i) * (a - c)) n n0 (by omega) (by omega) (by omega) W)
  have GY := Lib.hid (fun W => divRound_c ((n - i) * (b - d)) n n0 (by omega) (by omega) (by omega) W)
  cases hs : swapP a b c d
  · have hB : btwX a b c d i n = a + dvR (i * (c - a)) n ∧ btwY a b c d i n = b + dvR (i * (d - b)) n := by simp [btwX, btwY, hs]
    rw [hB.1, hB.2]
    have hs2 : (¬ c < a) ∧ (a ≠ c ∨ ¬ d < b) := by
      simpa [swapP, Classical.or_iff_not_imp_left] using hs
    clear hB hs h1 h2 GX GY cx cy fx fy
    have hf : (decide (c < a)) = false := by simpa using hs2.1
    have hf2 : ((a == c) = true ∧ decide (d < b) = false) ∨ (a == c) = false := by
      by_cases he : a = c
      · exact .inl ⟨by simpa using he, by simp; omega⟩
      · exact .inr (by simpa using he)
    clear hs2
    rcases hf2 with ⟨hf2, hf3⟩ | hf2
    all_goals
      go_enter Try.func84, Try.ntmps84
      go_wp2
      generalize hW : ((w.alloc (.cells #[.int .i64 a, .int .i64 b] 27)).alloc (.cells #[.int .i64 c, .int .i64 d] 27)).alloc (.cells #[.int .i64 0, .int .i64 0] 27) = W
      have hbW : Below w.heap.size w W := hW ▸ (by repeat (first | exact Below.refl _ _ | refine Below.alloc ?_ (by simp; try omega) _ | refine Below.drew ?_))
      have k0 : ∀ y : Aft W, y.w1.cell? ⟨w.heap.size, 0, none⟩ = some (.int .i64 a) := by subst hW; exact fun y => y.cell (by simp; try omega) (by simp [go_sem])
      have k1 : ∀ y : Aft W, y.w1.cell? ⟨w.heap.size, 1, none⟩ = some (.int .i64 b) := by subst hW; exact fun y => y.cell (by simp; try omega) (by simp [go_sem])
      have k2 : ∀ y : Aft W, y.w1.cell? ⟨w.heap.size + 1, 0, none⟩ = some (.int .i64 c) := by subst hW; exact fun y => y.cell (by simp; try omega) (by simp [go_sem])
      have k3 : ∀ y : Aft W, y.w1.cell? ⟨w.heap.size + 1, 1, none⟩ = some (.int .i64 d) := by subst hW; exact fun y => y.cell (by simp; try omega) (by simp [go_sem])
      have hB : Blk W (w.heap.size + 1 + 1) 27 #[.int .i64 0, .int .i64 0] := by subst hW; exact Blk.new2 _ _ _ _ _
      refine wp_region_aft_tail 25 (by kernel_rfl) (by kernel_rfl) ?_
      simp only [List.take_succ_cons, List.take_zero, List.drop_succ_cons, List.drop_zero]
      iterate 10 (go_big_quiet_step (fail))
      go_big_quiet_step ((go_at_call 90; exact Aft.same (HX.out _)))
      iterate 11 (go_big_quiet_step (fail))
      go_big_quiet_step ((go_at_call 90; exact Aft.same (HY.out _)))
      iterate 2 (go_big_quiet_step (fail))
      refine wpQuiet_nil ?_
      intro z
      have hz := hB.below z.below
      have z0 : z.w1.cell? ⟨w.heap.size + 1 + 1, 0, none⟩ = some (.int .i64 0) := hz.cell 0
      have z1 : z.w1.cell? ⟨w.heap.size + 1 + 1, 1, none⟩ = some (.int .i64 0) := hz.cell 1
      have g0 := hz.frozen 0
      have g1 := hz.frozen 1
      have hbz := held_next hbW z.below
      clear hW k0 k1 k2 k3 hz
      go_wp2
      refine bodyPost_ret (v := .agg #[.int .i64 (a + dvR (i * (c - a)) n), .int .i64 (b + dvR (i * (d - b)) n)]) (by simp [results, Try.results84, go_sem, z0, z1]) rfl ⟨rfl, ?_⟩
      exact (hbz.setCell (by simp; omega) _).setCell (by simp; omega) _
  · have hB : btwX a b c d i n = c + dvR ((n - i) * (a - c)) n ∧ btwY a b c d i n = d + dvR ((n - i) * (b - d)) n := by simp [btwX, btwY, hs]
    rw [hB.1, hB.2]
    have hf2 : decide (c < a) = true ∨ (decide (c < a) = false ∧ (a == c) = true ∧ decide (d < b) = true) := by
      simp only [swapP, Bool.or_eq_true, Bool.and_eq_true] at hs
      by_cases h : c < a
      · exact .inl (by simpa using h)
      · rcases hs with hs | ⟨hs, hs2⟩
        · exact .inl hs
        · exact .inr ⟨by simpa using h, hs, hs2⟩
    clear hB hs h1 h2 HX HY bx b_y ex ey
    rcases hf2 with hf2 | ⟨hf, hf2, hf3⟩
    all_goals
      go_enter Try.func84, Try.ntmps84
      go_wp2
      generalize hW : ((w.alloc (.cells #[.int .i64 c, .int .i64 d] 27)).alloc (.cells #[.int .i64 a, .int .i64 b] 27)).alloc (.cells #[.int .i64 0, .int .i64 0] 27) = W
      have hbW : Below w.heap.size w W := hW ▸ (by repeat (first | exact Below.refl _ _ | refine Below.alloc ?_ (by simp; try omega) _ | refine Below.drew ?_))
      have k0 : ∀ y : Aft W, y.w1.cell? ⟨w.heap.size, 0, none⟩ = some (.int .i64 c) := by subst hW; exact fun y => y.cell (by simp; try omega) (by simp [go_sem])
      have k1 : ∀ y : Aft W, y.w1.cell? ⟨w.heap.size, 1, none⟩ = some (.int .i64 d) := by subst hW; exact fun y => y.cell (by simp; try omega) (by simp [go_sem])
      have k2 : ∀ y : Aft W, y.w1.cell? ⟨w.heap.size + 1, 0, none⟩ = some (.int .i64 a) := by subst hW; exact fun y => y.cell (by simp; try omega) (by simp [go_sem])
      have k3 : ∀ y : Aft W, y.w1.cell? ⟨w.heap.size + 1, 1, none⟩ = some (.int .i64 b) := by subst hW; exact fun y => y.cell (by simp; try omega) (by simp [go_sem])
      have hB : Blk W (w.heap.size + 1 + 1) 27 #[.int .i64 0, .int .i64 0] := by subst hW; exact Blk.new2 _ _ _ _ _
      refine wp_region_aft_tail 25 (by kernel_rfl) (by kernel_rfl) ?_
      simp only [List.take_succ_cons, List.take_zero, List.drop_succ_cons, List.drop_zero]
      iterate 10 (go_big_quiet_step (fail))
      go_big_quiet_step ((go_at_call 90; exact Aft.same (GX.out _)))
      iterate 11 (go_big_quiet_step (fail))
      go_big_quiet_step ((go_at_call 90; exact Aft.same (GY.out _)))
      iterate 2 (go_big_quiet_step (fail))
      refine wpQuiet_nil ?_
      intro z
      have hz := hB.below z.below
      have z0 : z.w1.cell? ⟨w.heap.size + 1 + 1, 0, none⟩ = some (.int .i64 0) := hz.cell 0
      have z1 : z.w1.cell? ⟨w.heap.size + 1 + 1, 1, none⟩ = some (.int .i64 0) := hz.cell 1
      have g0 := hz.frozen 0
      have g1 := hz.frozen 1
      have hbz := held_next hbW z.below
      clear hW k0 k1 k2 k3 hz
      go_wp2
      refine bodyPost_ret (v := .agg #[.int .i64 (c + dvR ((n - i) * (a - c)) n), .int .i64 (d + dvR ((n - i) * (b - d)) n)]) (by simp [results, Try.results84, go_sem, z0, z1]) rfl ⟨rfl, ?_⟩
      exact (hbz.setCell (by simp; omega) _).setCell (by simp; omega) _
end Go.Proofs.Ytimfpnmcdicldaa
