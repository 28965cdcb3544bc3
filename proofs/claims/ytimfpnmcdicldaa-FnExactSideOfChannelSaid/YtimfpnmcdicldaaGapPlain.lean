/- The distance of a point from a segment: plain laws. -/
import Derived.Test.YtimfpnmcdicldaaChLen
namespace Go.Proofs.Ytimfpnmcdicldaa
open Go Go.RowKit
def crossI (a b c d x y : Int) : Int := (c - a) * (y - b) - (d - b) * (x - a)
def alongI (a b c d x y : Int) : Int := (c - a) * (x - a) + (d - b) * (y - b)
def gapI (a b c d x y : Int) : Int :=
  if alongI a b c d x y ≤ 0 then rootI (sqd a b x y)
  else if sqd a b c d ≤ alongI a b c d x y then rootI (sqd c d x y)
  else rootI (crossI a b c d x y * crossI a b c d x y / sqd a b c d)
theorem lagrange (a b c d x y : Int) : crossI a b c d x y * crossI a b c d x y + alongI a b c d x y * alongI a b c d x y = sqd a b c d * sqd a b x y := by
  unfold crossI alongI sqd
  grind
theorem sq_nonneg (t : Int) : 0 ≤ t * t := by
  rcases Int.le_total 0 t with h | h
  · exact Int.mul_nonneg h h
  · exact Int.mul_nonneg_of_nonpos_of_nonpos h h
theorem cross_le (a b c d x y : Int) : crossI a b c d x y * crossI a b c d x y ≤ sqd a b c d * sqd a b x y := by
  have h1 := lagrange a b c d x y
  have h2 := sq_nonneg (alongI a b c d x y)
  omega
/-- r * r * all at most x * x: r is at most the root of the quotient. -/
theorem far_iff {r all q : Int} (hr : 0 ≤ r) (ha : 1 ≤ all) (hq : 0 ≤ q) : r * r * all ≤ q ↔ r ≤ rootI (q / all) := by
  have hd : 0 ≤ q / all := Int.ediv_nonneg hq (by omega)
  obtain ⟨g0, g1, g2⟩ := rootI_spec hd
  have e : r * r * all ≤ q ↔ r * r ≤ q / all := (Int.le_ediv_iff_mul_le (by omega)).symm
  rw [e]
  constructor
  · intro h
    rcases Int.lt_or_le (rootI (q / all)) r with hlt | hle
    · exfalso
      have h1 : rootI (q / all) + 1 ≤ r := by omega
      have h2 := Int.mul_le_mul h1 h1 (by omega) hr
      omega
    · exact hle
  · intro h
    have h2 := Int.mul_le_mul h h hr g0
    omega
theorem gap_root_bd {a b c d x y : Int} (h1 : okP a b = true) (_h2 : okP c d = true) (h3 : okP x y = true) (hall : 1 ≤ sqd a b c d) : 0 ≤ rootI (crossI a b c d x y * crossI a b c d x y / sqd a b c d) ∧ rootI (crossI a b c d x y * crossI a b c d x y / sqd a b c d) ≤ 300000 := by
  have hc := cross_le a b c d x y
  have hq := sq_nonneg (crossI a b c d x y)
  have hs : sqd a b x y ≤ 80000000000 := by
    obtain ⟨⟨a0, a1⟩, b0, b1⟩ := okP_yes h1
    obtain ⟨⟨c0, c1⟩, d0, d1⟩ := okP_yes h3
    unfold sqd
    have p1 : (a - x) * (a - x) ≤ 200000 * 200000 := by
      rcases Int.le_total 0 (a - x) with h | h
      · exact Int.mul_le_mul (by omega) (by omega) h (by omega)
      · have := Int.mul_le_mul (show -(a - x) ≤ 200000 by omega) (show -(a - x) ≤ 200000 by omega) (by omega) (by omega)
        rwa [Int.neg_mul_neg] at this
    have p2 : (b - y) * (b - y) ≤ 200000 * 200000 := by
      rcases Int.le_total 0 (b - y) with h | h
      · exact Int.mul_le_mul (by omega) (by omega) h (by omega)
      · have := Int.mul_le_mul (show -(b - y) ≤ 200000 by omega) (show -(b - y) ≤ 200000 by omega) (by omega) (by omega)
        rwa [Int.neg_mul_neg] at this
    omega
  have hd : crossI a b c d x y * crossI a b c d x y / sqd a b c d ≤ 80000000000 := by
    apply Int.ediv_le_of_le_mul (by omega)
    have := Int.mul_le_mul_of_nonneg_left hs (show 0 ≤ sqd a b c d by omega)
    rw [Int.mul_comm] at this
    rw [Int.mul_comm (sqd a b c d)] at hc
    omega
  have hd0 := Int.ediv_nonneg hq (show 0 ≤ sqd a b c d by omega)
  exact ⟨(rootI_spec hd0).1, rootI_le hd0 (by omega) (by omega)⟩
/-- Two numbers in two parts, held against each other. -/
theorem parts_le {p q M : Int} (hM : 0 < M) : (p / M < q / M ∨ (p / M = q / M ∧ p % M ≤ q % M)) ↔ p ≤ q := by
  have e1 := Int.mul_ediv_add_emod p M
  have e2 := Int.mul_ediv_add_emod q M
  have l1 := Int.emod_nonneg p (show M ≠ 0 by omega)
  have l2 := Int.emod_lt_of_pos p hM
  have l3 := Int.emod_nonneg q (show M ≠ 0 by omega)
  have l4 := Int.emod_lt_of_pos q hM
  generalize p / M = a at *
  generalize q / M = b at *
  generalize p % M = r at *
  generalize q % M = s at *
  constructor
  · rintro (h | ⟨rfl, h⟩)
    · have h1 : a + 1 ≤ b := by omega
      have h2 := Int.mul_le_mul_of_nonneg_left h1 (show 0 ≤ M by omega)
      rw [Int.mul_add, Int.mul_one] at h2
      omega
    · omega
  · intro h
    rcases Int.lt_trichotomy a b with h1 | h1 | h1
    · exact .inl h1
    · subst h1; exact .inr ⟨rfl, by omega⟩
    · exfalso
      have h2 : b + 1 ≤ a := by omega
      have h3 := Int.mul_le_mul_of_nonneg_left h2 (show 0 ≤ M by omega)
      rw [Int.mul_add, Int.mul_one] at h3
      omega
end Go.Proofs.Ytimfpnmcdicldaa
