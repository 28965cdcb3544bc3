/- GatesFor: what both answer. -/
import Derived.Test.YtimfpnmcdicldaaGateI
import Derived.Test.YtimfpnmcdicldaaRevC
namespace Go.Proofs.Ytimfpnmcdicldaa
open Go Go.RowKit
theorem gaM_le (nm : ByteArray) (n : Nat) (wd sp : Int) (X Y : Nat → Int) : gaM X Y n wd sp nm ≤ 32 := by
  unfold gaM
  split
  · rename_i h
    unfold gaCode at h
    split at h
    · split at h
      · split at h
        · omega
        · omega
      · omega
    · omega
  · omega
theorem ga_same (nm : ByteArray) (n : Nat) (wd sp : Int) (X Y : Nat → Int) (hs : nm.size ≤ maxLen) (hn : n ≤ 1048576) :
    ∃ (m : Nat) (code : Int) (f0 f1 f2 f3 f4 : Nat → Int), m ≤ 1048576 ∧
      (∀ (A : Option Addr) (cap : Nat) (W : World), Rec 2 W A n (vPoint X Y) → Calls Try.prog 21 #[.agg #[.string nm, .slice A n cap, .int .i64 wd], .int .i64 sp] W (GPost f0 f1 f2 f3 f4 m code W)) ∧
      (∀ (A : Option Addr) (cap : Nat) (W : World), Rec 2 W A n (vPoint X Y) → Calls Try.prog 22 #[.agg #[.string nm, .slice A n cap, .int .i64 wd], .int .i64 sp] W (GPost f0 f1 f2 f3 f4 m code W)) :=
  ⟨gaM X Y n wd sp nm, gaCode X Y n wd sp nm, _, _, _, _, _, Nat.le_trans (gaM_le nm n wd sp X Y) (by omega), fun A cap W h => specGatesFor_c nm A n cap wd sp X Y W hs hn h, fun A cap W h => implGates_c nm A n cap wd sp X Y W hs hn h⟩
theorem heldGate_c (A : Option Addr) (n cap : Nat) (k : Int) (w : World) (hn : n ≤ 1048576) (k0 : 0 ≤ k) (k1 : k ≤ 1000000000000) (h : Rec 5 w A n (mkGate k)) :
    Calls Try.prog 26 #[.slice A n cap, .int .i64 k] w fun e w' => e = .returned (.int .i64 (k + 5 * n)) ∧ Below w.heap.size w w' :=
  (heldGateS_c A n cap k w hn k0 k1 h).mono fun _e _w' ⟨h1, h2⟩ => ⟨h1, h2 ▸ Below.refl _ _⟩
end Go.Proofs.Ytimfpnmcdicldaa
