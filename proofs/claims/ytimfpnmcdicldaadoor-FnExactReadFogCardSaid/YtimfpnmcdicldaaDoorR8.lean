/- The numbers that an input chooses: what is known of them is their range. -/
import Derived.Test.YtimfpnmcdicldaaDoorBase
namespace Go.Proofs.YtimfpnmcdicldaaDoor
open Go.RowKit Go.OpenShut
/-- Some number from 0 to n - 1; the world is as it was. -/
def SomeLt (n : Int) (w : World) (e : Ending) (w' : World) : Prop := ∃ v : Int, 0 ≤ v ∧ v < n ∧ e = .returned (.int .i64 v) ∧ w = w'
theorem IsRow.len_le {k : IntKind} {w : World} {a : Option Addr} {len cap : Nat} {zs : List Int} (h : IsRow k w a len cap zs) : (len : Int) ≤ 9223372036854775807 := by
  rcases h with ⟨_, rfl, _, _⟩ | ⟨x, _, h1, h2, _⟩
  · omega
  · unfold maxLen at h2; omega
theorem cell_lt {w : World} {a : Addr} {v : Value} (h : w.cell? a = some v) : a.block < w.heap.size := by
  rcases Nat.lt_or_ge a.block w.heap.size with h' | h'
  · exact h'
  · exfalso
    unfold World.cell? at h
    rw [Array.getElem?_eq_none h'] at h
    simp at h
/-- A row that came in reads as it did, whatever has been laid since (its cells lie below the heap's end: they are there). -/
theorem IsRow.aft {k : IntKind} {w : World} {a : Option Addr} {len cap : Nat} {zs : List Int} (h : IsRow k w a len cap zs) (x : Aft w) : IsRow k x.w1 a len cap zs := by
  rcases h with h | ⟨ad, h1, h2, h3, h4, h5, h6⟩
  · exact .inl h
  · refine .inr ⟨ad, h1, h2, h3, h4, fun i hi => ?_, h6⟩
    have hc := h5 i hi
    have hlt : (ad.add i).block < w.heap.size := cell_lt hc
    exact (x.below.cell hlt).trans hc
end Go.Proofs.YtimfpnmcdicldaaDoor
