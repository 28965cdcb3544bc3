/- The least number that is accepted: the program's search by halving, with a closure. -/
import Derived.Test.YtfmljppofkocmaaGeo
import Derived.Shelf.Abstract
namespace Go.Proofs.Ytfmljppofkocmaa
open Go.RowKit
set_option linter.unusedVariables false
/-- What the search finds: the least number of a range that is accepted. -/
def IsLeast (acc : Int → Bool) (lo n : Int) : Prop := acc n = true ∧ ∀ m, lo ≤ m → m < n → acc m = false
theorem isLeast_eq {acc : Int → Bool} {lo a b : Int} (ha0 : lo ≤ a) (hb0 : lo ≤ b) (ha : IsLeast acc lo a) (hb : IsLeast acc lo b) : a = b := by
  rcases Int.lt_trichotomy a b with h | h | h
  · have := hb.2 a ha0 h; rw [ha.1] at this; cases this
  · exact h
  · have := ha.2 b hb0 h; rw [hb.1] at this; cases this
theorem exists_least (acc : Int → Bool) (hi : Int) (h : acc hi = true) : ∀ (n : Nat) (lo : Int), (hi - lo).toNat = n → lo ≤ hi → ∃ r, lo ≤ r ∧ r ≤ hi ∧ IsLeast acc lo r
  | 0, lo, hn, hl => ⟨hi, by omega, by omega, h, fun m a b => by omega⟩
  | n + 1, lo, hn, hl => by
    cases hv : acc lo
    · obtain ⟨r, r0, r1, r2, r3⟩ := exists_least acc hi h n (lo + 1) (by omega) (by omega)
      refine ⟨r, by omega, r1, r2, fun m a b => ?_⟩
      by_cases e : m = lo
      · rw [e]; exact hv
      · exact r3 m (by omega) b
    · exact ⟨lo, by omega, hl, hv, fun m a b => by omega⟩
def Mono (acc : Int → Bool) (lo hi : Int) : Prop := ∀ a b, lo ≤ a → a ≤ b → b ≤ hi → acc a = true → acc b = true
/-- An eye is high enough. -/
def accEye (h d n : Int) : Bool := decide (d ≤ horZ h + horZ n)
theorem accEye_mono (h d : Int) : Mono (accEye h d) 0 3000 := by
  intro a b ha hab hb hv
  have := horZ_mono ha hab
  simp only [accEye, decide_eq_true_eq] at *
  omega
end Go.Proofs.Ytfmljppofkocmaa
