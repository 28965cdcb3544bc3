/- Rows that a law's helper fills; what a helper that weighs an argument answers. -/
import Derived.Test.YtimfpnmcdicldaaDoorLeaf
import Derived.Test.YtimfpnmcdicldaaDoorQTail
import Derived.OwnWalk
namespace Go.Proofs.YtimfpnmcdicldaaDoor
open Go Go.RowKit
theorem own_below {w w1 : World} {base : Nat} {e : TypeId} {size n : Nat} {v : Value} {xs : List Value} (h : w.ownsRow base e size v n xs) (hb : Below w.heap.size w w1) : w1.ownsRow base e size v n xs := by
  refine ⟨h.1, ?_⟩
  rcases h.2 with h0 | ⟨g, cap, cur, h1, h2, h3, h4⟩
  · exact .inl h0
  · have hlt : g < w.heap.size := by
      rcases Nat.lt_or_ge g w.heap.size with h' | h'
      · exact h'
      · rw [Array.getElem?_eq_none h'] at h3; cases h3
    exact .inr ⟨g, cap, cur, h1, h2, (hb.block g hlt).trans h3, h4⟩
theorem own_put {w w0 : World} {base : Nat} {e : TypeId} {m n g cap : Nat} {xs : List Value} (h : w.ownsRow base e m (.slice (some ⟨g, 0, none⟩) n cap) n xs) (hb : Below w0.heap.size w0 w) (hg : w0.heap.size ≤ g) (j : Nat) (u : Value) :
    (w.setCell ⟨g, j, none⟩ u).ownsRow base e m (.slice (some ⟨g, 0, none⟩) n cap) n (xs.set j u) ∧ Below w0.heap.size w0 (w.setCell ⟨g, j, none⟩ u) := by
  obtain ⟨h1, h2⟩ := h.stored j u
  exact ⟨h1, hb.grown h2 hb.size (fun k hk => by cases hk; exact hg)⟩
theorem set_other {xs : List Value} {i j : Nat} {u v : Value} (h : xs[i]? = some v) (hne : i ≠ j) : (xs.set j u)[i]? = some v := by
  rw [List.getElem?_set_ne (Ne.symm hne)]; exact h
theorem set_here {xs : List Value} {j : Nat} {u : Value} (h : j < xs.length) : (xs.set j u)[j]? = some u := by
  simp [h]
/-- A row of n records being filled: the first k are those of f. -/
def Filling (e m : Nat) (w wr : World) (g n k : Nat) (f : Nat → Nat → Value) : Prop :=
  ∃ xs, wr.ownsRow w.heap.size e m (.slice (some ⟨g, 0, none⟩) n n) n xs ∧ (∀ i, i < k → ∀ j, j < m → xs[i * m + j]? = some (f i j)) ∧ Below w.heap.size w wr
/-- What a helper that weighs an argument answers: too much; or what is left, when n and more were taken. -/
def SzPost (n : Nat) (left : Int) (w : World) (e : Ending) (w' : World) : Prop :=
  (e = .returned (.int .i64 (-1)) ∨ ∃ r : Int, 0 ≤ r ∧ r + n ≤ left ∧ e = .returned (.int .i64 r)) ∧ Below w.heap.size w w'
/-- A row that was filled reads as a slice. -/
theorem Filling.rec {e m : Nat} {w wr : World} {g n : Nat} {f : Nat → Nat → Value} (h : Filling e m w wr g n n f) : Rec m wr (some ⟨g, 0, none⟩) n f := by
  obtain ⟨xs, hown, hxs, _⟩ := h
  refine ⟨g, 0, fun i hi => ⟨rfl, fun j hj => ?_⟩⟩
  have hl : i * m + j < n * m := by
    have h1 : (i + 1) * m ≤ n * m := Nat.mul_le_mul_right m (by omega)
    rw [Nat.add_mul] at h1
    omega
  rw [Nat.zero_add, hown.cellAt _ hl, hxs i hi j hj]
theorem Filling.bel {e m : Nat} {w wr : World} {g n k : Nat} {f : Nat → Nat → Value} (h : Filling e m w wr g n k f) : Below w.heap.size w wr := by
  obtain ⟨xs, _, _, hb⟩ := h
  exact hb
/-- A test at every index below n. -/
def allB (n : Nat) (p : Nat → Bool) : Bool := (List.range n).all p
theorem allB_yes {n : Nat} {p : Nat → Bool} (h : ∀ i, i < n → p i = true) : allB n p = true := by
  unfold allB
  rw [List.all_eq_true]
  intro i hi
  exact h i (List.mem_range.1 hi)
theorem allB_no {n k : Nat} {p : Nat → Bool} (hk : k < n) (h : p k = false) : allB n p = false := by
  unfold allB
  rw [List.all_eq_false]
  exact ⟨k, List.mem_range.2 hk, by simp [h]⟩
theorem allB_at {n : Nat} {p : Nat → Bool} (h : allB n p = true) : ∀ i, i < n → p i = true := by
  unfold allB at h
  rw [List.all_eq_true] at h
  exact fun i hi => h i (List.mem_range.2 hi)
end Go.Proofs.YtimfpnmcdicldaaDoor
