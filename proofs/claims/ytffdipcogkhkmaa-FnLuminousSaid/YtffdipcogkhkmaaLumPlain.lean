/- How far a light carries: the plain law. -/
import Derived.Test.YtffdipcogkhkmaaLogPlain
import Derived.Test.YtffdipcogkhkmaaEye
namespace Go.Proofs.Ytffdipcogkhkmaa
open Go.RowKit
set_option linter.unusedVariables false
/-- An intensity is enough for a distance in some air. -/
def accE (i d v : Int) : Bool := decide (2 * tenL d ≤ tenL i + 6699 - 1301 * d / v)
theorem quo_anti {a v v' : Int} (ha : 0 ≤ a) (hv : 1 ≤ v) (h : v ≤ v') : a / v' ≤ a / v := by
  have h1 : a / v' * v' ≤ a := Int.ediv_mul_le a (by omega)
  have h0 : 0 ≤ a / v' := Int.ediv_nonneg ha (by omega)
  have h2 : a / v' * v ≤ a / v' * v' := Int.mul_le_mul_of_nonneg_left h h0
  exact Int.le_ediv_of_mul_le (by omega) (by omega)
theorem quo_mono {a b v : Int} (hv : 1 ≤ v) (h : a ≤ b) : a / v ≤ b / v := Int.ediv_le_ediv (by omega) h
theorem accE_i {i i' d v : Int} (h0 : 1 ≤ i) (h : i ≤ i') (h1 : i' ≤ 1000000000000) (ha : accE i d v = true) : accE i' d v = true := by
  have := tenL_mono h0 h h1
  simp only [accE, decide_eq_true_eq] at *
  omega
theorem accE_d {i d d' v : Int} (hv : 1 ≤ v) (h0 : 1 ≤ d) (h : d ≤ d') (h1 : d' ≤ 1000000000000) (ha : accE i d' v = true) : accE i d v = true := by
  have a1 := tenL_mono h0 h h1
  have a2 := quo_mono (a := 1301 * d) (b := 1301 * d') hv (by omega)
  simp only [accE, decide_eq_true_eq] at *
  omega
theorem accE_v {i d v v' : Int} (h0 : 1 ≤ d) (hv : 1 ≤ v) (h : v ≤ v') (ha : accE i d v = true) : accE i d v' = true := by
  have a2 := quo_anti (a := 1301 * d) (by omega) hv h
  simp only [accE, decide_eq_true_eq] at *
  omega
/-- From r on it is accepted, and not before. -/
def Thr (acc : Int → Bool) (hi r : Int) : Prop := 1 ≤ r ∧ r ≤ hi + 1 ∧ ∀ m, 1 ≤ m → m ≤ hi → acc m = decide (r ≤ m)
theorem exists_thr (acc : Int → Bool) (hi : Int) (h1 : 1 ≤ hi) (hm : Mono acc 1 hi) : ∃ r, Thr acc hi r := by
  cases hv : acc hi
  · refine ⟨hi + 1, by omega, by omega, fun m a b => ?_⟩
    cases hv2 : acc m
    · symm; simp; omega
    · have := hm m hi a b (Int.le_refl _) hv2
      rw [hv] at this; cases this
  · obtain ⟨r, r0, r1, r2, r3⟩ := exists_least acc hi hv _ 1 rfl h1
    refine ⟨r, r0, by omega, fun m a b => ?_⟩
    by_cases e : r ≤ m
    · rw [hm r m r0 e b r2]; symm; simpa using e
    · rw [r3 m a (by omega)]; symm; simpa using e
theorem Thr.yes {acc : Int → Bool} {hi r m : Int} (h : Thr acc hi r) (h1 : 1 ≤ m) (h2 : m ≤ hi) (h3 : r ≤ m) : acc m = true := by
  rw [h.2.2 m h1 h2]; simpa using h3
theorem Thr.no {acc : Int → Bool} {hi r m : Int} (h : Thr acc hi r) (h1 : 1 ≤ m) (h2 : m < r) : acc m = false := by
  rw [h.2.2 m h1 (by have := h.2.1; omega)]; simpa using h2
theorem Thr.least {acc : Int → Bool} {hi r : Int} (h : Thr acc hi r) (hr : r ≤ hi) : IsLeast acc 1 r :=
  ⟨h.yes h.1 hr (Int.le_refl _), fun m a b => h.no a b⟩
theorem Thr.none {acc : Int → Bool} {hi r : Int} (h : Thr acc hi r) (h1 : 1 ≤ hi) (hr : ¬ r ≤ hi) : acc hi = false := h.no h1 (by omega)
theorem Thr.mono {acc : Int → Bool} {hi r : Int} (h : Thr acc hi r) : Mono acc 1 hi := fun a b ha hab hb hv => by
  rw [h.2.2 a ha (by omega)] at hv
  rw [h.2.2 b (by omega) hb]
  simp only [decide_eq_true_eq] at *
  omega
def accNot (i v : Int) (d : Int) : Bool := !accE i d v
theorem accNot_mono {i v : Int} (hv : 1 ≤ v) : Mono (accNot i v) 1 100000 := by
  intro a b ha hab hb h
  cases hb2 : accE i b v
  · simp [accNot, hb2]
  · have := accE_d hv ha hab (by omega) hb2
    simp [accNot, this] at h
theorem accI_mono {d v : Int} : Mono (fun i => accE i d v) 1 100000000 := by
  intro a b ha hab hb h
  exact accE_i ha hab (by omega) h
theorem accV_mono {i d : Int} (hd : 1 ≤ d) : Mono (fun v => accE i d v) 1 100000 := by
  intro a b ha hab hb h
  exact accE_v hd ha hab h
end Go.Proofs.Ytffdipcogkhkmaa
