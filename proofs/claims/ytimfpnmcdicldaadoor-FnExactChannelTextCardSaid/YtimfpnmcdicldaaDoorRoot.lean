/- The square root, rounded down: plain law, and the contracts of the program's and the reference's search. -/
import Derived.Test.YtimfpnmcdicldaaDoorBase
namespace Go.Proofs.YtimfpnmcdicldaaDoor
open Go.RowKit
set_option linter.unusedVariables false

/-- The square root, rounded down, by counting. -/
def isq : Nat → Nat
  | 0 => 0
  | n + 1 => if (isq n + 1) * (isq n + 1) ≤ n + 1 then isq n + 1 else isq n

theorem sq_succ (r : Nat) : (r + 1) * (r + 1) = r * r + 2 * r + 1 := by
  rw [Nat.add_mul, Nat.mul_add]; omega

theorem isq_spec (n : Nat) : isq n * isq n ≤ n ∧ n < (isq n + 1) * (isq n + 1) := by
  induction n with
  | zero => simp [isq]
  | succ n ih =>
    obtain ⟨h1, h2⟩ := ih
    unfold isq
    generalize isq n = r at *
    split
    · rename_i h
      refine ⟨h, ?_⟩
      have e1 := sq_succ (r + 1)
      omega
    · rename_i h
      exact ⟨by omega, by omega⟩

/-- The square root of an integer, rounded down; 0 for negative ones. -/
def rootI (n : Int) : Int := (isq n.toNat : Nat)

theorem rootI_spec {n : Int} (h : 0 ≤ n) : 0 ≤ rootI n ∧ rootI n * rootI n ≤ n ∧ n < (rootI n + 1) * (rootI n + 1) := by
  obtain ⟨k, rfl⟩ := Int.eq_ofNat_of_zero_le h
  obtain ⟨h1, h2⟩ := isq_spec k
  unfold rootI
  rw [Int.toNat_natCast]
  refine ⟨by omega, ?_, ?_⟩
  · have : ((isq k * isq k : Nat) : Int) ≤ (k : Int) := by omega
    rwa [Int.natCast_mul] at this
  · have : ((k : Nat) : Int) < (((isq k + 1) * (isq k + 1) : Nat) : Int) := by omega
    rw [Int.natCast_mul] at this
    simpa using this

theorem sq_mono {a b : Int} (ha : 0 ≤ a) (h : a ≤ b) : a * a ≤ b * b := Int.mul_le_mul h h ha (by omega)

/-- Whoever lies between the two squares is the root. -/
theorem rootI_eq {n r : Int} (hn : 0 ≤ n) (hr : 0 ≤ r) (h1 : r * r ≤ n) (h2 : n < (r + 1) * (r + 1)) : rootI n = r := by
  obtain ⟨g0, g1, g2⟩ := rootI_spec hn
  generalize rootI n = s at *
  rcases Int.lt_trichotomy r s with h | h | h
  · have := sq_mono (a := r + 1) (b := s) (by omega) (by omega)
    omega
  · exact h.symm
  · have := sq_mono (a := s + 1) (b := r) (by omega) (by omega)
    omega

theorem rootI_mono {a b : Int} (ha : 0 ≤ a) (h : a ≤ b) : rootI a ≤ rootI b := by
  obtain ⟨g0, g1, g2⟩ := rootI_spec ha
  obtain ⟨k0, k1, k2⟩ := rootI_spec (show 0 ≤ b by omega)
  generalize rootI a = s at *
  generalize rootI b = t at *
  rcases (show t < s ∨ s ≤ t by omega) with h' | h'
  · have := sq_mono (a := t + 1) (b := s) (by omega) (by omega)
    omega
  · exact h'

theorem rootI_le {n b : Int} (hn : 0 ≤ n) (hb : 0 ≤ b) (h : n ≤ b * b) : rootI n ≤ b := by
  obtain ⟨g0, g1, g2⟩ := rootI_spec hn
  generalize rootI n = s at *
  rcases (show b < s ∨ s ≤ b by omega) with h' | h'
  · have := sq_mono (a := b + 1) (b := s) (by omega) (by omega)
    have e : (b + 1) * (b + 1) = b * b + 2 * b + 1 := by rw [Int.add_mul, Int.mul_add]; omega
    omega
  · exact h'

theorem mid_sq {lo hi : Int} (h0 : 0 ≤ lo) (h1 : lo < hi) (h2 : hi ≤ 3037000499) : 0 ≤ (lo + hi + 1) / 2 * ((lo + hi + 1) / 2) ∧ (lo + hi + 1) / 2 * ((lo + hi + 1) / 2) ≤ 9223372030926249001 := by
  have hm : 0 ≤ (lo + hi + 1) / 2 ∧ (lo + hi + 1) / 2 ≤ 3037000499 := by omega
  generalize (lo + hi + 1) / 2 = m at *
  exact ⟨Int.mul_nonneg hm.1 hm.1, by have := sq_mono hm.1 hm.2; omega⟩

end Go.Proofs.YtimfpnmcdicldaaDoor
