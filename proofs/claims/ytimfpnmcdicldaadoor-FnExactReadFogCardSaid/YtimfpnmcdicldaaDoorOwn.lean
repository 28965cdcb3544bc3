/- Rows and boxes of the call's own: what is kept when another row is written. -/
import Derived.Test.YtimfpnmcdicldaaDoorFill
namespace Go.Proofs.YtimfpnmcdicldaaDoor
open Go Go.RowKit
/-- A row of n records of the call's own, as a function of index and field; nil when there is none. -/
def SO (w : World) (base e m : Nat) (v : Value) (n : Nat) (f : Nat → Nat → Value) : Prop :=
  ∃ xs, w.ownsRow base e m v n xs ∧ ∀ i, i < n → ∀ j, j < m → xs[i * m + j]? = some (f i j)
/-- The first cells of a block. -/
def Holds (w : World) (b : Nat) (cs : List Value) : Prop := b < w.heap.size ∧ ∀ j v, cs[j]? = some v → w.cell? ⟨b, j, none⟩ = some v
section
variable {w w' : World} {base e m n : Nat} {v : Value} {f : Nat → Nat → Value}
theorem SO.below (h : SO w base e m v n f) (hb : Below w.heap.size w w') : SO w' base e m v n f := by
  obtain ⟨xs, h1, h2⟩ := h
  exact ⟨xs, own_below h1 hb, h2⟩
theorem SO.far {row : Option Nat} (h : SO w base e m v n f) (hg : w.grownBy w' row) (hne : v.ownBlock = none ∨ v.ownBlock ≠ row) : SO w' base e m v n f := by
  obtain ⟨xs, h1, h2⟩ := h
  exact ⟨xs, h1.kept hg hne, h2⟩
theorem SO.lt (h : SO w base e m v n f) : ∀ k, v.ownBlock = some k → base ≤ k ∧ k < w.heap.size := by
  obtain ⟨xs, h1, _⟩ := h
  exact h1.lt
theorem idx_lt {i j m n : Nat} (hi : i < n) (hj : j < m) : i * m + j < n * m := by
  have h1 : (i + 1) * m ≤ n * m := Nat.mul_le_mul_right m (by omega)
  rw [Nat.add_mul] at h1
  omega
theorem SO.rec {A : Option Addr} {cap : Nat} (h : SO w base e m (.slice A n cap) n f) : Rec m w A n f := by
  obtain ⟨xs, h1, h2⟩ := h
  rcases h1.2 with ⟨h0, hn⟩ | ⟨g, cap', cur, h0, _⟩
  · exact ⟨0, 0, fun i hi => by omega⟩
  · have hA : A = some ⟨g, 0, none⟩ := by injection h0
    subst hA
    refine ⟨g, 0, fun i hi => ⟨rfl, fun j hj => ?_⟩⟩
    rw [Nat.zero_add, h1.cellAt _ (idx_lt hi hj), h2 i hi j hj]
theorem SO.form (h : SO w base e m v n f) : ∃ A cap, v = .slice A n cap := by
  obtain ⟨xs, h1, _⟩ := h
  rcases h1.2 with ⟨rfl, rfl⟩ | ⟨g, cap, cur, rfl, _⟩
  · exact ⟨none, 0, rfl⟩
  · exact ⟨_, _, rfl⟩
theorem SO.mono {base' : Nat} (h : SO w base e m v n f) (hb : base' ≤ base) : SO w base' e m v n f := by
  obtain ⟨xs, h1, h2⟩ := h
  refine ⟨xs, ⟨h1.1, ?_⟩, h2⟩
  rcases h1.2 with h0 | ⟨g, cap, cur, k1, k2, k3⟩
  · exact .inl h0
  · exact .inr ⟨g, cap, cur, k1, Nat.le_trans hb k2, k3⟩
theorem SO.congr {f' : Nat → Nat → Value} (h : SO w base e m v n f) (he : ∀ i, i < n → ∀ j, j < m → f i j = f' i j) : SO w base e m v n f' := by
  obtain ⟨xs, h1, h2⟩ := h
  exact ⟨xs, h1, fun i hi j hj => by rw [h2 i hi j hj, he i hi j hj]⟩
theorem SO.nil : SO w base e m (.slice none 0 0) 0 f := ⟨[], ⟨by simp, .inl ⟨rfl, rfl⟩⟩, fun i hi => by omega⟩
theorem Filling.so {w0 : World} {g : Nat} (h : Filling e m w0 w g n n f) : SO w w0.heap.size e m (.slice (some ⟨g, 0, none⟩) n n) n f := by
  obtain ⟨xs, h1, h2, _⟩ := h
  exact ⟨xs, h1, h2⟩
theorem grown_below {w0 : World} {row : Option Nat} (hb : Below w0.heap.size w0 w) (hg : w.grownBy w' row) (h : ∀ k, row = some k → w0.heap.size ≤ k) : Below w0.heap.size w0 w' := hb.grown hg hb.size h
theorem Holds.below {b : Nat} {cs : List Value} (h : Holds w b cs) (hb : Below w.heap.size w w') : Holds w' b cs :=
  ⟨Nat.lt_of_lt_of_le h.1 hb.size, fun j v hj => (hb.cell (p := ⟨b, j, none⟩) h.1).trans (h.2 j v hj)⟩
theorem Holds.far {b : Nat} {cs : List Value} {row : Option Nat} (h : Holds w b cs) (hg : w.grownBy w' row) (hne : row ≠ some b) : Holds w' b cs :=
  ⟨Nat.lt_of_lt_of_le h.1 hg.size, fun j v hj => (World.cell?_of_block (hg.block b h.1 (fun e => hne e.symm))).trans (h.2 j v hj)⟩
theorem Holds.new (w : World) (cs : Array Value) (T : TypeId) : Holds (w.alloc (.cells cs T)) w.heap.size cs.toList :=
  ⟨by simp, fun j v hj => by rw [cell_new]; simpa using hj⟩
theorem grown_trans {a b c : World} {row : Option Nat} (h : a.grownBy b row) (k : b.grownBy c row) : a.grownBy c row :=
  ⟨k.os.trans h.os, k.tape.trans h.tape, k.output.trans h.output, Nat.le_trans h.size k.size, fun i hi hn => (k.block i (Nat.lt_of_lt_of_le hi h.size) hn).trans (h.block i hi hn)⟩
end
end Go.Proofs.YtimfpnmcdicldaaDoor
