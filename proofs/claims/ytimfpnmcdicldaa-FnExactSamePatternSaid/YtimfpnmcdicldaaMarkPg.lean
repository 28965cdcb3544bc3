/- Rows of phases: the laws' marks on them: nothing else is changed. -/
import Derived.Test.YtimfpnmcdicldaaMarkPh
import Derived.Test.YtimfpnmcdicldaaBlk
namespace Go.Proofs.Ytimfpnmcdicldaa
open Go Go.RowKit
set_option maxHeartbeats 4000000 in
theorem markPhaseS_g (A : Option Addr) (n cap : Nat) (k : Int) (base : Nat) (f : Nat → Nat → Value) (w : World) (hn : n ≤ 1048576) (k0 : 1 ≤ k) (k1 : k ≤ 1000000) (h : SO w base 100 2 (.slice A n cap) n f) :
    Calls Try.prog 37 #[.slice A n cap, .int .i64 k] w fun e w' => e = .returned (.int .i64 (k + 2 * n)) ∧ w.grownBy w' (Value.slice A n cap).ownBlock ∧ SO w' base 100 2 (.slice A n cap) n (mkPhase k) := by
  go_enter Try.func37, Try.ntmps37
  go_wp2
  go_loopw [1, 5] (fun c i wr => ∃ (q : Nat) (xs : List Value), q ≤ n ∧ i = .int .i64 q ∧ c = .int .i64 (k + 2 * q) ∧ wr.ownsRow base 100 2 (.slice A n cap) n xs ∧ Hid (∀ i, i < q → ∀ j, j < 2 → xs[i * 2 + j]? = some (mkPhase k i j)) ∧ w.grownBy wr (Value.slice A n cap).ownBlock) (fun _ i _ => n - (intOf i).toNat)
  case atStart =>
    obtain ⟨xs, h1, h2⟩ := h
    exact ⟨0, xs, by omega, rfl, by simp, h1, Lib.hid (fun i hi => by omega), World.grownBy.refl w _⟩
  case round =>
    obtain ⟨q, xs, hq, rfl, rfl, hown, hxs, hgr⟩ := hrel
    by_cases hlt : q < n
    · obtain ⟨g, cap', hv⟩ : ∃ g cap', Value.slice A n cap = .slice (some ⟨g, 0, none⟩) n cap' := by
        rcases hown.2 with ⟨_, h0⟩ | ⟨g, cap', cur, h0, _⟩
        · omega
        · exact ⟨g, cap', h0⟩
      injection hv with hA _ hcap
      subst hA hcap
      have hg : g < wr.heap.size := (hown.lt g rfl).2
      obtain ⟨m, hm⟩ : ∃ m : Nat, k + 2 * (q : Int) = (m : Int) := ⟨(k + 2 * (q : Int)).toNat, by omega⟩
      have HMT := Lib.hid (fun W => markText_c m (by omega) (by omega) W)
      have hlen : xs.length = n * 2 := hown.1
      obtain ⟨u0, d0⟩ : ∃ u, wr.cell? ⟨g, q * 2, none⟩ = some u := ⟨_, (hown.cellAt (q * 2) (by omega)).trans (List.getElem?_eq_getElem (by omega))⟩
      obtain ⟨u1, d1⟩ : ∃ u, wr.cell? ⟨g, q * 2 + 1, none⟩ = some u := ⟨_, (hown.cellAt (q * 2 + 1) (by omega)).trans (List.getElem?_eq_getElem (by omega))⟩
      have g0 := hown.frozenAt (q * 2)
      have g1 := hown.frozenAt (q * 2 + 1)
      rw [hm]
      have HW := Lib.hid hown
      have HL := Lib.hid hlen
      have HG := Lib.hid hgr
      clear hlen hown hgr h
      go_wp2_with fail
      refine (HMT.out _).mono ?_
      rintro e w2 ⟨rfl, hb2⟩
      obtain ⟨hc, hf⟩ := bcell hb2
      have e0 : w2.cell? ⟨g, q * 2, none⟩ = some u0 := (hc _ _ hg).trans d0
      have e1 : w2.cell? ⟨g, q * 2 + 1, none⟩ = some u1 := (hc _ _ hg).trans d1
      have f0 : w2.frozen? ⟨g, q * 2, none⟩ = false := (hf _ _ hg).trans g0
      have f1 : w2.frozen? ⟨g, q * 2 + 1, none⟩ = false := (hf _ _ hg).trans g1
      have HB2 := Lib.hid hb2
      clear hc hf d0 d1 g0 g1 hb2
      go_wp2
      go_roundw
      case rel =>
        have hmN : (k + 2 * (q : Int)).toNat = m := by omega
        have o0 := own_below HW.out HB2.out
        obtain ⟨o1, t1⟩ := o0.stored (q * 2) (.string (mT m))
        obtain ⟨o2, t2⟩ := o1.stored (q * 2 + 1) (.int .i64 ((m : Int) + 1))
        have bb := only_below HG.out HB2.out
        have bb2 := grown_trans (grown_trans bb t1) t2
        refine ⟨q + 1, _, by omega, by go_num, by congr 1; omega, o2, Lib.hid (fun i hi j hj => ?_), bb2⟩
        have hl := HL.out
        have e2 : j = 0 ∨ j = 1 := by omega
        by_cases e : i = q
        · subst e
          rcases e2 with rfl | rfl
          · refine (set_other (set_here (by omega)) (by omega)).trans ?_
            simp [mkPhase, hmN]
          · refine (set_here (by simp only [List.length_set]; omega)).trans ?_
            simp [mkPhase]; omega
        · exact set_other (set_other (hxs.out i (by omega) j hj) (by omega)) (by omega)
      case measure => simp [intOf]; omega
    · obtain rfl : q = n := by omega
      go_wp2
      go_ret
      exact ⟨rfl, hgr, xs, hown, hxs.out⟩
theorem phRows_apart {v1 v2 : Value} {b : Nat} (h1 : ∀ k, v1.ownBlock = some k → k < b) (h2 : ∀ k, v2.ownBlock = some k → b ≤ k) : v1.ownBlock = none ∨ v1.ownBlock ≠ v2.ownBlock := by
  cases h : v1.ownBlock with
  | none => exact .inl rfl
  | some k => exact .inr (fun e => by have := h1 k h; have := h2 k e.symm; omega)
theorem phRows_apart2 {v1 v2 : Value} {b : Nat} (h1 : ∀ k, v1.ownBlock = some k → k < b) (h2 : ∀ k, v2.ownBlock = some k → b ≤ k) : v2.ownBlock = none ∨ v2.ownBlock ≠ v1.ownBlock := by
  cases h : v2.ownBlock with
  | none => exact .inl rfl
  | some k => exact .inr (fun e => by have := h2 k h; have := h1 k e.symm; omega)
end Go.Proofs.Ytimfpnmcdicldaa
