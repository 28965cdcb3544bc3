/- Products in two parts, and the greatest distance by halving: the program and the reference. -/
import Derived.Test.YtimfpnmcdicldaaGapPlain
namespace Go.Proofs.Ytimfpnmcdicldaa
open Go Go.RowKit
theorem prod12 (a b : Int) :
    a / 1000000 * (b / 1000000) + ((a / 1000000 * (b % 1000000) + a % 1000000 * (b / 1000000)) * 1000000 + a % 1000000 * (b % 1000000)) / 1000000000000 = a * b / 1000000000000 ∧
    ((a / 1000000 * (b % 1000000) + a % 1000000 * (b / 1000000)) * 1000000 + a % 1000000 * (b % 1000000)) % 1000000000000 = a * b % 1000000000000 := by
  have e1 := Int.mul_ediv_add_emod a 1000000
  have e2 := Int.mul_ediv_add_emod b 1000000
  generalize a / 1000000 = A at *
  generalize a % 1000000 = x at *
  generalize b / 1000000 = B at *
  generalize b % 1000000 = y at *
  subst e1 e2
  have h : (1000000 * A + x) * (1000000 * B + y) = ((A * y + x * B) * 1000000 + x * y) + A * B * 1000000000000 := by grind
  rw [h, Int.add_mul_ediv_right _ _ (by omega), Int.add_mul_emod_self_right]
  exact ⟨Int.add_comm _ _, rfl⟩
theorem mul_bd2 {x y A B : Int} (h0 : 0 ≤ x) (h1 : x ≤ A) (h2 : 0 ≤ y) (h3 : y ≤ B) : 0 ≤ x * y ∧ x * y ≤ A * B :=
  ⟨Int.mul_nonneg h0 h2, Int.mul_le_mul h1 h3 h2 (by omega)⟩
set_option maxHeartbeats 2000000 in
theorem l02Product_c (a b : Int) (a0 : 0 ≤ a) (a1 : a ≤ 100000000000) (b0 : 0 ≤ b) (b1 : b ≤ 100000000000) (w : World) :
    Calls Try.prog 123 #[.int .i64 a, .int .i64 b] w fun e w' => e = .returned (.tuple #[.int .i64 (a * b / 1000000000000), .int .i64 (a * b % 1000000000000)]) ∧ w = w' := by
  obtain ⟨h1, h2⟩ := prod12 a b
  have A0 : 0 ≤ a / 1000000 ∧ a / 1000000 ≤ 100000 := by omega
  have A1 : 0 ≤ a % 1000000 ∧ a % 1000000 ≤ 1000000 := by omega
  have B0 : 0 ≤ b / 1000000 ∧ b / 1000000 ≤ 100000 := by omega
  have B1 : 0 ≤ b % 1000000 ∧ b % 1000000 ≤ 1000000 := by omega
  have p1 := mul_bd2 A0.1 A0.2 B0.1 B0.2
  have p2 := mul_bd2 A0.1 A0.2 B1.1 B1.2
  have p3 := mul_bd2 A1.1 A1.2 B0.1 B0.2
  have p4 := mul_bd2 A1.1 A1.2 B1.1 B1.2
  have H := Lib.hid (And.intro h1 h2)
  clear h1 h2
  go_enter Try.func123, Try.ntmps123
  go_wp2
  go_ret2
  exact ⟨by rw [← H.out.1, ← H.out.2]; rfl, rfl⟩
set_option maxRecDepth 100000 in
set_option maxHeartbeats 4000000 in
theorem l02Far_c (x all : Int) (x0 : 0 ≤ x) (x1 : x ≤ 100000000000) (l0 : 1 ≤ all) (l1 : all ≤ 100000000000) (hR : rootI (x * x / all) ≤ 300000) (w : World) :
    Calls Try.prog 111 #[.int .i64 x, .int .i64 all] w fun e w' => e = .returned (.int .i64 (rootI (x * x / all))) ∧ w = w' := by
  have hx := sq_nonneg x
  have R0 := (rootI_spec (Int.ediv_nonneg hx (show 0 ≤ all by omega))).1
  have HF := Lib.hid (fun r (hr : 0 ≤ r) => far_iff (r := r) (all := all) (q := x * x) hr l0 hx)
  have HPL := Lib.hid (fun p => parts_le (p := p) (q := x * x) (M := 1000000000000) (by omega))
  have HP := Lib.hid (fun a b a0 a1 b0 b1 W => l02Product_c a b a0 a1 b0 b1 W)
  have q0 : 0 ≤ x * x / 1000000000000 := Int.ediv_nonneg hx (by omega)
  have q1 : x * x / 1000000000000 ≤ 10000000000 := by
    have := (mul_bd2 x0 x1 x0 x1).2
    omega
  have q2 := Int.emod_nonneg (x * x) (show (1000000000000 : Int) ≠ 0 by omega)
  have q3 := Int.emod_lt_of_pos (x * x) (show (0 : Int) < 1000000000000 by omega)
  generalize rootI (x * x / all) = R at *
  go_enter Try.func111, Try.ntmps111
  go_wp2_with fail
  refine (HP.out x x x0 x1 x0 x1 _).mono ?_
  rintro e _ ⟨rfl, rfl⟩
  generalize x * x / 1000000000000 = hi at *
  generalize x * x % 1000000000000 = lo at *
  generalize x * x = xx at *
  go_wp2
  go_loop [7, 8] (fun lo' mo => ∃ l m : Int, lo' = .int .i64 l ∧ mo = .int .i64 m ∧ 0 ≤ l ∧ l ≤ R ∧ R ≤ m ∧ m ≤ 300000) (fun l m => (intOf m - intOf l).toNat)
  case atStart => exact ⟨0, 300000, rfl, rfl, by omega, R0, hR, by omega⟩
  case round =>
    obtain ⟨l, m, rfl, rfl, h1, h2, h3, h4⟩ := hrel
    by_cases hlt : l < m
    · obtain ⟨r, hr⟩ : ∃ r, (l + m + 1) / 2 = r := ⟨_, rfl⟩
      have r0 : l < r ∧ r ≤ m := by omega
      have rr := mul_bd2 (x := r) (y := r) (A := 300000) (B := 300000) (by omega) (by omega) (by omega) (by omega)
      have hf := HF.out r (by omega)
      have hpl := HPL.out (r * r * all)
      have HC := Lib.hid (fun W => HP.out (r * r) all rr.1 (by omega) (by omega) l1 W)
      generalize r * r * all / 1000000000000 = a at *
      generalize r * r * all % 1000000000000 = c at *
      generalize r * r * all = p at *
      have hcase : (r ≤ R ∧ (decide (a < hi) = true ∨ (decide (a < hi) = false ∧ (a == hi) = true ∧ decide (c ≤ lo) = true))) ∨ (R < r ∧ ((decide (a < hi) = false ∧ (a == hi) = true ∧ decide (c ≤ lo) = false) ∨ (decide (a < hi) = false ∧ (a == hi) = false))) := by
        by_cases h : r ≤ R
        · refine .inl ⟨h, ?_⟩
          rcases hpl.2 (hf.2 h) with h1 | ⟨h1, h2⟩
          · exact .inl (by simpa using h1)
          · exact .inr ⟨by simp; omega, by simpa using h1, by simpa using h2⟩
        · refine .inr ⟨by omega, ?_⟩
          have hn : ¬ (a < hi ∨ a = hi ∧ c ≤ lo) := fun g => h (hf.1 (hpl.1 g))
          by_cases h1 : a = hi
          · exact .inl ⟨by simp; omega, by simpa using h1, by simp; omega⟩
          · exact .inr ⟨by simp; omega, by simpa using h1⟩
      clear hf hpl
      rcases hcase with ⟨hh, hd | ⟨hd, hd2, hd3⟩⟩ | ⟨hh, ⟨hd, hd2, hd3⟩ | ⟨hd, hd2⟩⟩
      all_goals
        go_wp2_with (go_at_call 123; refine (HC.out _).mono ?_; rintro e _ ⟨rfl, rfl⟩)
        go_round
        case rel =>
          first
            | exact ⟨r, m, rfl, rfl, by omega, by omega, by omega, by omega⟩
            | exact ⟨l, r - 1, rfl, rfl, by omega, by omega, by omega, by omega⟩
        case measure => simp [intOf]; omega
    · obtain rfl : l = R := by omega
      go_wp2
      go_ret
      exact ⟨rfl, rfl⟩
theorem prod20 (a b : Int) : a / 1048576 * b + a % 1048576 * b / 1048576 = a * b / 1048576 ∧ a % 1048576 * b % 1048576 = a * b % 1048576 := by
  have e1 := Int.mul_ediv_add_emod a 1048576
  generalize a / 1048576 = A at *
  generalize a % 1048576 = x at *
  subst e1
  have h : (1048576 * A + x) * b = x * b + A * b * 1048576 := by grind
  rw [h, Int.add_mul_ediv_right _ _ (by omega), Int.add_mul_emod_self_right]
  exact ⟨Int.add_comm _ _, rfl⟩
set_option maxHeartbeats 2000000 in
theorem product_c (a b : Int) (a0 : 0 ≤ a) (a1 : a ≤ 200000000000) (b0 : 0 ≤ b) (b1 : b ≤ 200000000000) (w : World) :
    Calls Try.prog 124 #[.int .i64 a, .int .i64 b] w fun e w' => e = .returned (.tuple #[.int .i64 (a * b / 1048576), .int .i64 (a * b % 1048576)]) ∧ w = w' := by
  obtain ⟨h1, h2⟩ := prod20 a b
  have A0 : 0 ≤ a / 1048576 ∧ a / 1048576 ≤ 200000 := by omega
  have A1 : 0 ≤ a % 1048576 ∧ a % 1048576 ≤ 1048576 := by omega
  have p1 := mul_bd2 A0.1 A0.2 b0 b1
  have p2 := mul_bd2 A1.1 A1.2 b0 b1
  have H := Lib.hid (And.intro h1 h2)
  have hs : ∀ t : Int, t >>> 20 = t / 1048576 := fun t => by rw [Int.shiftRight_eq_div_pow]; rfl
  clear h1 h2
  go_enter Try.func124, Try.ntmps124
  go_wp2
  go_ret2
  exact ⟨by rw [← H.out.1, ← H.out.2]; rfl, rfl⟩
set_option maxHeartbeats 2000000 in
theorem atMost_c (a b c d : Int) (a0 : 0 ≤ a) (a1 : a ≤ 200000000000) (b0 : 0 ≤ b) (b1 : b ≤ 200000000000) (c0 : 0 ≤ c) (c1 : c ≤ 200000000000) (d0 : 0 ≤ d) (d1 : d ≤ 200000000000) (w : World) :
    Calls Try.prog 114 #[.int .i64 a, .int .i64 b, .int .i64 c, .int .i64 d] w fun e w' => e = .returned (.bool (decide (a * b ≤ c * d))) ∧ w = w' := by
  have HP := Lib.hid (fun W => product_c a b a0 a1 b0 b1 W)
  have HQ := Lib.hid (fun W => product_c c d c0 c1 d0 d1 W)
  have hpl := parts_le (p := a * b) (q := c * d) (M := 1048576) (by omega)
  generalize a * b / 1048576 = h1 at *
  generalize a * b % 1048576 = l1 at *
  generalize c * d / 1048576 = h2 at *
  generalize c * d % 1048576 = l2 at *
  have hcase : (decide (h1 < h2) = true ∧ a * b ≤ c * d) ∨ (decide (h1 < h2) = false ∧ (h1 == h2) = true ∧ (l1 ≤ l2 ↔ a * b ≤ c * d)) ∨ (decide (h1 < h2) = false ∧ (h1 == h2) = false ∧ ¬ a * b ≤ c * d) := by
    by_cases g : h1 < h2
    · exact .inl ⟨by simpa using g, hpl.1 (.inl g)⟩
    · by_cases g2 : h1 = h2
      · refine .inr (.inl ⟨by simpa using g, by simpa using g2, ?_⟩)
        rw [← hpl]
        constructor
        · intro h; exact .inr ⟨g2, h⟩
        · rintro (h | ⟨_, h⟩)
          · omega
          · exact h
      · refine .inr (.inr ⟨by simpa using g, by simpa using g2, ?_⟩)
        rw [← hpl]
        omega
  clear hpl
  obtain ⟨v, hv⟩ : ∃ v, decide (a * b ≤ c * d) = v := ⟨_, rfl⟩
  have hcase : (decide (h1 < h2) = true ∧ v = true) ∨ (decide (h1 < h2) = false ∧ (h1 == h2) = true ∧ decide (l1 ≤ l2) = v) ∨ (decide (h1 < h2) = false ∧ (h1 == h2) = false ∧ v = false) := by
    rcases hcase with ⟨g, g2⟩ | ⟨g, g2, g3⟩ | ⟨g, g2, g3⟩
    · exact .inl ⟨g, by rw [← hv]; simpa using g2⟩
    · exact .inr (.inl ⟨g, g2, by rw [← hv]; exact decide_eq_decide.2 g3⟩)
    · exact .inr (.inr ⟨g, g2, by rw [← hv]; simpa using g3⟩)
  rw [hv]
  clear hv
  rcases hcase with ⟨g, rfl⟩ | ⟨g, g2, g3⟩ | ⟨g, g2, rfl⟩
  all_goals
    go_enter Try.func114, Try.ntmps114
    go_wp2_with fail
    refine (HP.out _).mono ?_
    rintro e _ ⟨rfl, rfl⟩
    go_wp2_with fail
    refine (HQ.out _).mono ?_
    rintro e _ ⟨rfl, rfl⟩
    go_wp2
    go_ret
    first
      | exact ⟨rfl, rfl⟩
      | exact ⟨ret_bool g3, rfl⟩
end Go.Proofs.Ytimfpnmcdicldaa
