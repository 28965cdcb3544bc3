/- Points and their distance. -/
import Derived.Test.YtimfpnmcdicldaaDoorRoot
import Derived.Test.YtimfpnmcdicldaaDoorR8
import Derived.Test.YtimfpnmcdicldaaDoorFog
namespace Go.Proofs.YtimfpnmcdicldaaDoor
open Go.RowKit
set_option linter.unusedVariables false
/-- A point is valid. -/
def okP (x y : Int) : Bool := inR x 0 200000 && inR y 0 200000
theorem okP_yes {x y : Int} (h : okP x y = true) : (0 ≤ x ∧ x ≤ 200000) ∧ (0 ≤ y ∧ y ≤ 200000) := by
  simpa [okP, inR] using h
def sqd (a b c d : Int) : Int := (a - c) * (a - c) + (b - d) * (b - d)
theorem sq_bd {t : Int} (h0 : -1000000 ≤ t) (h1 : t ≤ 1000000) : 0 ≤ t * t ∧ t * t ≤ 1000000000000 := by
  constructor
  · rcases Int.le_total 0 t with h | h
    · exact Int.mul_nonneg h h
    · exact Int.mul_nonneg_of_nonpos_of_nonpos h h
  · rcases Int.le_total 0 t with h | h
    · have := Int.mul_le_mul h1 h1 h (by omega)
      omega
    · have h2 : -t ≤ 1000000 := by omega
      have := Int.mul_le_mul h2 h2 (by omega) (by omega)
      rw [Int.neg_mul_neg] at this
      omega
set_option maxHeartbeats 1000000 in
theorem l02Ok_c (x y : Int) (v : Bool) (hv : okP x y = v) (w : World) :
    Calls Tryd.prog 63 #[.agg #[.int .i64 x, .int .i64 y]] w fun e w' => e = .returned (.bool v) ∧ Below w.heap.size w w' := by
  subst hv
  unfold okP
  cases h : inR x 0 200000
  all_goals
    go_enter Tryd.func63, Tryd.ntmps63
    go_wp2_with (go_at_call 65; refine (l00In_c _ _ _ _).mono ?_; rintro e w' ⟨rfl, rfl⟩)
    go_ret
    exact ⟨ret_bool (by simp), (by repeat (first | exact Below.refl _ _ | refine Below.alloc ?_ (by simp; try omega) _ | refine Below.drew ?_))⟩
set_option maxHeartbeats 1000000 in
theorem validPoint_c (x y : Int) (v : Bool) (hv : okP x y = v) (w : World) :
    Calls Tryd.prog 68 #[.agg #[.int .i64 x, .int .i64 y]] w fun e w' => e = .returned (.bool v) ∧ Below w.heap.size w w' := by
  subst hv
  unfold okP
  cases h : inR x 0 200000
  all_goals
    go_enter Tryd.func68, Tryd.ntmps68
    go_wp2_with (go_at_call 70; refine (within_c _ _ _ _).mono ?_; rintro e w' ⟨rfl, rfl⟩)
    go_ret
    exact ⟨ret_bool (by simp), (by repeat (first | exact Below.refl _ _ | refine Below.alloc ?_ (by simp; try omega) _ | refine Below.drew ?_))⟩
theorem sqd_bd {a b c d : Int} (h1 : okP a b = true) (h2 : okP c d = true) : 0 ≤ sqd a b c d ∧ sqd a b c d ≤ 2000000000000 := by
  obtain ⟨⟨a0, a1⟩, b0, b1⟩ := okP_yes h1
  obtain ⟨⟨c0, c1⟩, d0, d1⟩ := okP_yes h2
  have q1 := sq_bd (t := a - c) (by omega) (by omega)
  have q2 := sq_bd (t := b - d) (by omega) (by omega)
  unfold sqd
  omega
end Go.Proofs.YtimfpnmcdicldaaDoor
