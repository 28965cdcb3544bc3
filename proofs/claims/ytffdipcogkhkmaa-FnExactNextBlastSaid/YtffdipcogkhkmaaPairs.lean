/- Lists of pairs of numbers ([][]int64): blasts of a fog signal, on both sides; the laws' helpers. -/
import Derived.Test.YtffdipcogkhkmaaOwn
import Derived.Test.YtffdipcogkhkmaaFog
namespace Go.Proofs.Ytffdipcogkhkmaa
open Go Go.RowKit
/-- A row of numbers by index. -/
def nuF (X : Nat → Int) (i _j : Nat) : Value := .int .i64 (X i)
/-- Two numbers by index. -/
def two (a b : Int) (i : Nat) : Int := if i = 0 then a else b
/-- A list of n pairs of the call's own. -/
def Pairs (w : World) (base es et : Nat) (v : Value) (n : Nat) (P Q : Nat → Int) : Prop :=
  ∃ (h : Nat → Nat) (xs : List Value), w.ownsRow base es 1 v n xs ∧ (∀ i, i < n → xs[i]? = some (.slice (some ⟨h i, 0, none⟩) 2 2)) ∧
    (∀ i, i < n → SO w base et 1 (.slice (some ⟨h i, 0, none⟩) 2 2) 2 (nuF (two (P i) (Q i)))) ∧ ∀ i j, i < n → j < n → i ≠ j → h i ≠ h j
theorem Pairs.below {w w' : World} {base es et n : Nat} {v : Value} {P Q : Nat → Int} (h : Pairs w base es et v n P Q) (hb : Below w.heap.size w w') : Pairs w' base es et v n P Q := by
  obtain ⟨f, xs, h1, h2, h3, h4⟩ := h
  exact ⟨f, xs, own_below h1 hb, h2, fun i hi => (h3 i hi).below hb, h4⟩
theorem Pairs.form {w : World} {base es et n : Nat} {v : Value} {P Q : Nat → Int} (h : Pairs w base es et v n P Q) : ∃ A cap, v = .slice A n cap := by
  obtain ⟨f, xs, h1, _⟩ := h
  rcases h1.2 with ⟨rfl, rfl⟩ | ⟨g, cap, cur, rfl, _⟩
  · exact ⟨none, 0, rfl⟩
  · exact ⟨_, _, rfl⟩
theorem Pairs.nil {w : World} {base es et : Nat} {P Q : Nat → Int} : Pairs w base es et (.slice none 0 0) 0 P Q :=
  ⟨fun _ => 0, [], ⟨by simp, .inl ⟨rfl, rfl⟩⟩, fun i hi => by omega, fun i hi => by omega, fun i j hi => by omega⟩
/-- What is read of a list of pairs at an index. -/
theorem Pairs.at_ {w : World} {base es et n i cap : Nat} {A : Option Addr} {P Q : Nat → Int} (h : Pairs w base es et (.slice A n cap) n P Q) (hi : i < n) :
    ∃ g k, A = some ⟨g, 0, none⟩ ∧ w.cell? ⟨g, i, none⟩ = some (.slice (some ⟨k, 0, none⟩) 2 2) ∧ w.cell? ⟨k, 0, none⟩ = some (.int .i64 (P i)) ∧ w.cell? ⟨k, 1, none⟩ = some (.int .i64 (Q i)) ∧ Rec 1 w (some ⟨k, 0, none⟩) 2 (nuF (two (P i) (Q i))) := by
  obtain ⟨f, xs, h1, h2, h3, h4⟩ := h
  rcases h1.2 with ⟨h0, hn⟩ | ⟨g, cap', cur, h0, _⟩
  · omega
  · have hA : A = some ⟨g, 0, none⟩ := by injection h0
    subst hA
    have hr := (h3 i hi).rec
    obtain ⟨b, o, hc⟩ := hr
    obtain ⟨e1, hc0⟩ := hc 0 (by omega)
    obtain ⟨_, hc1⟩ := hc 1 (by omega)
    injection e1 with e1
    injection e1 with e1 e2
    subst e1 e2
    refine ⟨g, f i, rfl, (h1.cellAt i (by omega)).trans (h2 i hi), by simpa [nuF, two] using hc0 0 (by omega), by simpa [nuF, two] using hc1 0 (by omega), (h3 i hi).rec⟩
end Go.Proofs.Ytffdipcogkhkmaa
