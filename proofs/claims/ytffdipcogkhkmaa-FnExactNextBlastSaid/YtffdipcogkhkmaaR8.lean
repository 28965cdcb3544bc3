/- The numbers that an input chooses: what is known of them is their range. -/
import Derived.Test.YtffdipcogkhkmaaBase
namespace Go.Proofs.Ytffdipcogkhkmaa
open Go.RowKit Go.OpenShut
/-- Some number from 0 to n - 1; the world is as it was. -/
def SomeLt (n : Int) (w : World) (e : Ending) (w' : World) : Prop := ∃ v : Int, 0 ≤ v ∧ v < n ∧ e = .returned (.int .i64 v) ∧ w = w'
theorem IsRow.len_le {k : IntKind} {w : World} {a : Option Addr} {len cap : Nat} {zs : List Int} (h : IsRow k w a len cap zs) : (len : Int) ≤ 9223372036854775807 := by
  rcases h with ⟨_, rfl, _, _⟩ | ⟨x, _, h1, h2, _⟩
  · omega
  · unfold maxLen at h2; omega
theorem cell_lt {w : World} {a : Addr} {v : Value} (h : w.cell? a = some v) : a.block < w.heap.size := by
  rcases Nat.lt_or_ge a.block w.heap.size with h' | h'
  · exact h'
  · exfalso
    unfold World.cell? at h
    rw [Array.getElem?_eq_none h'] at h
    simp at h
/-- A row that came in reads as it did, whatever has been laid since (its cells lie below the heap's end: they are there). -/
theorem IsRow.aft {k : IntKind} {w : World} {a : Option Addr} {len cap : Nat} {zs : List Int} (h : IsRow k w a len cap zs) (x : Aft w) : IsRow k x.w1 a len cap zs := by
  rcases h with h | ⟨ad, h1, h2, h3, h4, h5, h6⟩
  · exact .inl h
  · refine .inr ⟨ad, h1, h2, h3, h4, fun i hi => ?_, h6⟩
    have hc := h5 i hi
    have hlt : (ad.add i).block < w.heap.size := cell_lt hc
    exact (x.below.cell hlt).trans hc
set_option maxHeartbeats 1000000 in
theorem r8At_c (a : Option Addr) (len cap : Nat) (zs : List Int) (k n : Int) (hk : 0 ≤ k) (hn : 2 ≤ n) (w : World) (hr : IsRow .u8 w a len cap zs) :
    Calls Try.prog 16 #[.slice a len cap, .int .i64 k, .int .i64 n] w (SomeLt n w) := by
  have hl := hr.len_le
  have e1 : decide (n ≤ 1) = false := by simp; omega
  by_cases hlt : k < (len : Int)
  · rcases hr with ⟨_, rfl, _, _⟩ | ⟨x, rfl, h1, h2, h3, hcell, hwf⟩
    · exfalso; simp at hlt; omega
    · obtain ⟨b, off, spot⟩ := x
      have hc := hcell k.toNat (by omega)
      have hspot : spot = none := by
        simpa [Addr.add] using World.cell?_spot (hcell 0 (by omega))
      subst hspot
      have hz : 0 ≤ zs.getD k.toNat 0 ∧ zs.getD k.toNat 0 ≤ 255 := by
        have hm : zs.getD k.toNat 0 ∈ zs := by
          rw [List.getD_eq_getElem?_getD, List.getElem?_eq_getElem (by omega)]
          exact List.getElem_mem _
        exact bounds_u8 (hwf _ hm)
      generalize zs.getD k.toNat 0 = z at hc hz
      have hc' : w.cell? ⟨b, off + k.toNat, none⟩ = some (.int .u8 z) := by
        rw [← hc]; congr 1
        simp only [Addr.add]
        split
        · simp
        · rfl
      have hz0 := hz.1
      have hz1 := hz.2
      have hnz : (n == 0) = false := by simp; omega
      clear hcell hwf hc hz
      go_enter Try.func16, Try.ntmps16
      go_wp2
      go_ret
      exact ⟨z % n, Int.emod_nonneg _ (by omega), Int.emod_lt_of_pos _ (by omega), rfl, rfl⟩
  · have hge : (len : Int) ≤ k := by omega
    clear hlt hr
    go_enter Try.func16, Try.ntmps16
    go_wp2
    go_ret
    exact ⟨0, by omega, by omega, rfl, rfl⟩
set_option maxHeartbeats 1000000 in
theorem r8Wide_c (a : Option Addr) (len cap : Nat) (zs : List Int) (k n : Int) (hk : 0 ≤ k) (hk2 : k ≤ 1000) (hn : 1 ≤ n) (w : World) (hr : IsRow .u8 w a len cap zs) :
    Calls Try.prog 15 #[.slice a len cap, .int .i64 k, .int .i64 n] w (SomeLt n w) := by
  have hnz : (n == 0) = false := by simp; omega
  go_enter Try.func15, Try.ntmps15
  go_wp2_with fail
  refine (r8At_c a len cap zs k 256 hk (by omega) w hr).mono ?_
  rintro e _ ⟨u, u0, u1, rfl, rfl⟩
  go_wp2_with fail
  refine (r8At_c a len cap zs (k + 1) 256 (by omega) (by omega) w hr).mono ?_
  rintro e _ ⟨v, v0, v1, rfl, rfl⟩
  go_wp2
  go_ret
  exact ⟨(256 * u + v) % n, Int.emod_nonneg _ (by omega), Int.emod_lt_of_pos _ (by omega), rfl, rfl⟩
end Go.Proofs.Ytffdipcogkhkmaa
