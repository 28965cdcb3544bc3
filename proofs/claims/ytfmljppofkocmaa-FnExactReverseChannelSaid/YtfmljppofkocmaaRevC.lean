/- ReverseChannel: what both answer; a channel marked and held. -/
import Derived.Test.YtfmljppofkocmaaRevB
namespace Go.Proofs.Ytfmljppofkocmaa
open Go Go.RowKit
theorem rows_apart {v1 v2 : Value} {b : Nat} (h1 : ∀ k, v1.ownBlock = some k → k < b) (h2 : ∀ k, v2.ownBlock = some k → b ≤ k) : v1.ownBlock = none ∨ v1.ownBlock ≠ v2.ownBlock := by
  cases h : v1.ownBlock with
  | none => exact .inl rfl
  | some k => exact .inr (fun e => by have := h1 k h; have := h2 k e.symm; omega)
theorem rows_apart2 {v1 v2 : Value} {b : Nat} (h1 : ∀ k, v1.ownBlock = some k → k < b) (h2 : ∀ k, v2.ownBlock = some k → b ≤ k) : v2.ownBlock = none ∨ v2.ownBlock ≠ v1.ownBlock := by
  cases h : v2.ownBlock with
  | none => exact .inl rfl
  | some k => exact .inr (fun e => by have := h2 k h; have := h1 k e.symm; omega)
theorem rev_same (nm : ByteArray) (n : Nat) (wd : Int) (X Y : Nat → Int) (hs : nm.size ≤ maxLen) (hn : n ≤ 1048576) :
    ∃ (rnm : ByteArray) (rn : Nat) (rwd code : Int) (X' Y' : Nat → Int), rn ≤ 1048576 ∧
      (∀ (A : Option Addr) (cap : Nat) (W : World), Rec 2 W A n (vPoint X Y) → Calls Try.prog 51 #[.agg #[.string nm, .slice A n cap, .int .i64 wd]] W fun e w' => ∃ B c, e = .returned (.tuple #[.agg #[.string rnm, .slice B rn c, .int .i64 rwd], .int .i64 code]) ∧ SO w' W.heap.size 73 2 (.slice B rn c) rn (vPoint X' Y') ∧ Below W.heap.size W w') ∧
      (∀ (A : Option Addr) (cap : Nat) (W : World), Rec 2 W A n (vPoint X Y) → Calls Try.prog 52 #[.agg #[.string nm, .slice A n cap, .int .i64 wd]] W fun e w' => ∃ B c, e = .returned (.tuple #[.agg #[.string rnm, .slice B rn c, .int .i64 rwd], .int .i64 code]) ∧ SO w' W.heap.size 73 2 (.slice B rn c) rn (vPoint X' Y') ∧ Below W.heap.size W w') := by
  cases hv : okChan nm n X Y wd
  · exact ⟨⟨#[]⟩, 0, 0, 1, X, Y, by omega, fun A cap W h => (specRev_no nm A n cap wd X Y W hs hn hv h).mono fun e w' ⟨he, hb⟩ => ⟨none, 0, he, SO.nil, hb⟩,
      fun A cap W h => (implRev_no nm A n cap wd X Y W hs hn hv h).mono fun e w' ⟨he, hb⟩ => ⟨none, 0, he, SO.nil, hb⟩⟩
  · exact ⟨nm, n, wd, 0, fun i => X (n - 1 - i), fun i => Y (n - 1 - i), hn, fun A cap W h => specRev_yes nm A n cap wd X Y W hs hn hv h, fun A cap W h => implRev_yes nm A n cap wd X Y W hs hn hv h⟩
set_option maxHeartbeats 1000000 in
theorem markChannel_c (nm : ByteArray) (A : Option Addr) (n cap : Nat) (wd k : Int) (base : Nat) (f : Nat → Nat → Value) (w : World) (hn : n ≤ 1048576) (k0 : 0 ≤ k) (k1 : k ≤ 1000000000000) (h : SO w base 73 2 (.slice A n cap) n f) :
    Calls Try.prog 53 #[.agg #[.string nm, .slice A n cap, .int .i64 wd], .int .i64 k] w fun e w' => e = .returned (.int .i64 (k + 2 * n)) ∧ w.grownBy w' (Value.slice A n cap).ownBlock ∧ SO w' base 73 2 (.slice A n cap) n (mkPoint k) := by
  have h2 := h.below (w' := w.alloc (.cells #[.string nm, .slice A n cap, .int .i64 wd] 47)) (by repeat (first | exact Below.refl _ _ | refine Below.alloc ?_ (by simp; try omega) _ | refine Below.drew ?_))
  go_enter Try.func53, Try.ntmps53
  go_wp2_with fail
  refine (markPointS_c A n cap k base f _ hn k0 k1 h2).mono ?_
  rintro e w1 ⟨rfl, hg, hS⟩
  have HS := Lib.hid hS
  clear hS h h2
  go_wp2
  go_ret
  exact ⟨rfl, grown_trans (World.grownBy_alloc w _ _) hg, HS.out⟩
set_option maxHeartbeats 1000000 in
theorem heldChannel_c (nm : ByteArray) (A : Option Addr) (n cap : Nat) (wd k : Int) (w : World) (hn : n ≤ 1048576) (k0 : 0 ≤ k) (k1 : k ≤ 1000000000000) (h : Rec 2 w A n (mkPoint k)) :
    Calls Try.prog 54 #[.agg #[.string nm, .slice A n cap, .int .i64 wd], .int .i64 k] w fun e w' => e = .returned (.int .i64 (k + 2 * n)) ∧ Below w.heap.size w w' := by
  have h2 := h.below (w' := w.alloc (.cells #[.string nm, .slice A n cap, .int .i64 wd] 47)) (by repeat (first | exact Below.refl _ _ | refine Below.alloc ?_ (by simp; try omega) _ | refine Below.drew ?_))
  go_enter Try.func54, Try.ntmps54
  go_wp2_with fail
  refine (heldPointS_c A n cap k _ hn k0 k1 h2).mono ?_
  rintro e w1 ⟨rfl, rfl⟩
  clear h h2
  go_wp2
  go_ret
  exact ⟨rfl, (by repeat (first | exact Below.refl _ _ | refine Below.alloc ?_ (by simp; try omega) _ | refine Below.drew ?_))⟩
end Go.Proofs.Ytfmljppofkocmaa
