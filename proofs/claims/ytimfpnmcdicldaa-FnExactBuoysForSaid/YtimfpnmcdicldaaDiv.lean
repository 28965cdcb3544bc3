/- The nearest quotient: contracts of the program's and of the reference's division. -/
import Derived.Test.YtimfpnmcdicldaaFog
namespace Go.Proofs.Ytimfpnmcdicldaa
open Go.RowKit
set_option linter.unusedVariables false
/-- The nearest quotient, halves away from 0, for a divisor of at least 1. -/
def dvR (a b : Int) : Int := if a < 0 then -((b - 2 * a) / (2 * b)) else (2 * a + b) / (2 * b)
theorem half_up {n b : Int} (hb : 1 ≤ b) : (2 * n + b) / (2 * b) = n / b + if b - n % b ≤ n % b then 1 else 0 := by
  have h1 := Int.emod_nonneg n (show b ≠ 0 by omega)
  have h2 := Int.emod_lt_of_pos n (show 0 < b by omega)
  have h3 := Int.mul_ediv_add_emod n b
  generalize n / b = q at *
  generalize n % b = r at *
  have e : 2 * n + b = (2 * r + b) + q * (2 * b) := by
    rw [← h3, Int.mul_add, Int.mul_comm b q, show q * (2 * b) = 2 * (q * b) by rw [← Int.mul_assoc, Int.mul_comm q 2, Int.mul_assoc]]
    omega
  rw [e, Int.add_mul_ediv_right _ _ (by omega)]
  have h4 : (2 * r + b) / (2 * b) = if b - r ≤ r then 1 else 0 := by
    split
    · apply Int.le_antisymm
      · exact Int.le_of_lt_add_one (Int.ediv_lt_of_lt_mul (by omega) (by omega))
      · exact Int.le_ediv_of_mul_le (by omega) (by omega)
    · apply Int.le_antisymm
      · exact Int.le_of_lt_add_one (Int.ediv_lt_of_lt_mul (by omega) (by omega))
      · exact Int.ediv_nonneg (by omega) (by omega)
  omega
theorem dvR_pos {a b : Int} (hb : 1 ≤ b) (ha : 0 ≤ a) : dvR a b = a / b + if b - a % b ≤ a % b then 1 else 0 := by
  unfold dvR
  rw [if_neg (by omega), half_up hb]
theorem dvR_neg {a b : Int} (hb : 1 ≤ b) (ha : a < 0) : dvR a b = -((-a) / b + if b - (-a) % b ≤ (-a) % b then 1 else 0) := by
  unfold dvR
  rw [if_pos ha, show b - 2 * a = 2 * (-a) + b by omega, half_up hb]
theorem quo_le {a b : Int} (ha : 0 ≤ a) : 0 ≤ a / b ∨ b < 0 := by
  rcases (show b < 0 ∨ 0 ≤ b by omega) with h | h
  · exact .inr h
  · exact .inl (Int.ediv_nonneg ha h)
theorem quo_rem {a b : Int} (ha : 0 ≤ a) (hb : 1 ≤ b) : 0 ≤ a / b ∧ a / b ≤ a ∧ 0 ≤ a % b ∧ a % b < b :=
  ⟨Int.ediv_nonneg ha (by omega), Int.ediv_le_self _ ha, Int.emod_nonneg _ (by omega), Int.emod_lt_of_pos _ (by omega)⟩
theorem dvR_bd {a b : Int} (hb : 1 ≤ b) : (0 ≤ a → 0 ≤ dvR a b ∧ dvR a b ≤ a + 1) ∧ (a < 0 → a - 1 ≤ dvR a b ∧ dvR a b ≤ 0) := by
  refine ⟨fun h => ?_, fun h => ?_⟩
  · rw [dvR_pos hb h]
    obtain ⟨a1, a2, a3, a4⟩ := quo_rem h hb
    generalize a / b = q at *
    generalize a % b = r at *
    split <;> omega
  · rw [dvR_neg hb h]
    obtain ⟨a1, a2, a3, a4⟩ := quo_rem (show 0 ≤ -a by omega) hb
    generalize (-a) / b = q at *
    generalize (-a) % b = r at *
    split <;> omega
set_option maxHeartbeats 2000000 in
theorem divRound_c (a b : Int) (hb : 1 ≤ b) (hb2 : b ≤ 1000000000000000) (ha : -1000000000000000 ≤ a) (ha2 : a ≤ 1000000000000000) (w : World) :
    Calls Try.prog 90 #[.int .i64 a, .int .i64 b] w fun e w' => e = .returned (.int .i64 (dvR a b)) ∧ w = w' := by
  have bz : (b == 0) = false := by simp; omega
  have b0 : decide (b < 0) = false := by simp; omega
  by_cases hn : a < 0
  · obtain ⟨m, rfl⟩ : ∃ m : Int, a = -m := ⟨-a, by omega⟩
    have hm : 0 < m := by omega
    have a0 : decide (-m < 0) = true := by simpa using hn
    obtain ⟨q1, q2, q3, q4⟩ := quo_rem (show 0 ≤ m by omega) hb
    have hd := dvR_neg hb hn
    rw [Int.neg_neg] at hd
    have HD := Lib.hid hd
    clear hd
    by_cases hr : b - m % b ≤ m % b
    all_goals
      go_enter Try.func90, Try.ntmps90
      go_wp2
      go_ret
      refine ⟨ret_int ?_, rfl⟩
      rw [HD.out]
      split <;> omega
  · have a0 : decide (a < 0) = false := by simpa using hn
    obtain ⟨q1, q2, q3, q4⟩ := quo_rem (show 0 ≤ a by omega) hb
    have HD := Lib.hid (dvR_pos hb (show 0 ≤ a by omega))
    by_cases hr : b - a % b ≤ a % b
    all_goals
      go_enter Try.func90, Try.ntmps90
      go_wp2
      go_ret
      refine ⟨ret_int ?_, rfl⟩
      rw [HD.out]
      split <;> omega
set_option maxHeartbeats 2000000 in
theorem l01Div_c (a b : Int) (hb : 1 ≤ b) (hb2 : b ≤ 1000000000000000) (ha : -1000000000000000 ≤ a) (ha2 : a ≤ 1000000000000000) (w : World) :
    Calls Try.prog 105 #[.int .i64 a, .int .i64 b] w fun e w' => e = .returned (.int .i64 (dvR a b)) ∧ w = w' := by
  have bz : (2 * b == 0) = false := by simp; omega
  have b0 : decide (b < 0) = false := by simp; omega
  by_cases hn : a < 0
  · have HD := Lib.hid (show dvR a b = -((b - 2 * a) / (2 * b)) from if_pos hn)
    obtain ⟨q1, q2, q3, q4⟩ := quo_rem (a := b - 2 * a) (b := 2 * b) (by omega) (by omega)
    go_enter Try.func105, Try.ntmps105
    go_wp2
    go_ret
    exact ⟨ret_int HD.out.symm, rfl⟩
  · have HD := Lib.hid (show dvR a b = (2 * a + b) / (2 * b) from if_neg hn)
    obtain ⟨q1, q2, q3, q4⟩ := quo_rem (a := 2 * a + b) (b := 2 * b) (by omega) (by omega)
    go_enter Try.func105, Try.ntmps105
    go_wp2
    go_ret
    exact ⟨ret_int HD.out.symm, rfl⟩
end Go.Proofs.Ytimfpnmcdicldaa
