/- ReverseChannel: what both answer; a channel marked and held. -/
import Derived.Test.YtimfpnmcdicldaaRevB
namespace Go.Proofs.Ytimfpnmcdicldaa
open Go Go.RowKit
theorem rows_apart {v1 v2 : Value} {b : Nat} (h1 : ∀ k, v1.ownBlock = some k → k < b) (h2 : ∀ k, v2.ownBlock = some k → b ≤ k) : v1.ownBlock = none ∨ v1.ownBlock ≠ v2.ownBlock := by
  cases h : v1.ownBlock with
  | none => exact .inl rfl
  | some k => exact .inr (fun e => by have := h1 k h; have := h2 k e.symm; omega)
theorem rows_apart2 {v1 v2 : Value} {b : Nat} (h1 : ∀ k, v1.ownBlock = some k → k < b) (h2 : ∀ k, v2.ownBlock = some k → b ≤ k) : v2.ownBlock = none ∨ v2.ownBlock ≠ v1.ownBlock := by
  cases h : v2.ownBlock with
  | none => exact .inl rfl
  | some k => exact .inr (fun e => by have := h2 k h; have := h1 k e.symm; omega)
set_option maxHeartbeats 1000000 in
theorem markChannel_c (nm : ByteArray) (A : Option Addr) (n cap : Nat) (wd k : Int) (base : Nat) (f : Nat → Nat → Value) (w : World) (hn : n ≤ 1048576) (k0 : 0 ≤ k) (k1 : k ≤ 1000000000000) (h : SO w base 27 2 (.slice A n cap) n f) :
    Calls Try.prog 24 #[.agg #[.string nm, .slice A n cap, .int .i64 wd], .int .i64 k] w fun e w' => e = .returned (.int .i64 (k + 2 * n)) ∧ w.grownBy w' (Value.slice A n cap).ownBlock ∧ SO w' base 27 2 (.slice A n cap) n (mkPoint k) := by
  have h2 := h.below (w' := w.alloc (.cells #[.string nm, .slice A n cap, .int .i64 wd] 32)) (by repeat (first | exact Below.refl _ _ | refine Below.alloc ?_ (by simp; try omega) _ | refine Below.drew ?_))
  go_enter Try.func24, Try.ntmps24
  go_wp2_with fail
  refine (markPointS_c A n cap k base f _ hn k0 k1 h2).mono ?_
  rintro e w1 ⟨rfl, hg, hS⟩
  have HS := Lib.hid hS
  clear hS h h2
  go_wp2
  go_ret
  exact ⟨rfl, grown_trans (World.grownBy_alloc w _ _) hg, HS.out⟩
end Go.Proofs.Ytimfpnmcdicldaa
