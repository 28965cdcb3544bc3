/- Names: contracts of the program's IsName and of the reference's l01Name. -/
import Derived.Test.YtolijmldobncbaaDoorFill
import Derived.Test.YtolijmldobncbaaDoorFog
namespace Go.Proofs.YtolijmldobncbaaDoor
open Go Go.RowKit
def byteAt (s : ByteArray) (k : Nat) : Int := if h : k < s.size then ((s[k]'h).toNat : Int) else 0
theorem byteAt_in {s : ByteArray} {k : Nat} (h : k < s.size) : byteAt s k = ((s[k]'h).toNat : Int) := by unfold byteAt; rw [dif_pos h]
theorem byteAt_bd (s : ByteArray) (k : Nat) : 0 ≤ byteAt s k ∧ byteAt s k ≤ 255 := by
  unfold byteAt
  split
  · rename_i h
    have := (s[k]'h).toNat_lt
    omega
  · omega
def nmB (s : ByteArray) (k : Nat) : Bool := inR (byteAt s k) 97 122 || (decide (0 < k) && inR (byteAt s k) 48 57)
def okName (s : ByteArray) : Bool := decide (1 ≤ s.size) && (decide (s.size ≤ 10) && allB s.size (nmB s))
theorem few_c (n m : Int) (w : World) (_h0 : 0 ≤ n) (_h1 : n ≤ 9223372036854775807) :
    Calls Tryd.prog 96 #[.int .i64 n, .int .i64 m] w fun e w' => e = .returned (.bool (decide (n ≤ m))) ∧ w = w' := by
  go_enter Tryd.func96, Tryd.ntmps96
  go_wp2
  go_ret
  exact ⟨rfl, rfl⟩
theorem not_name_first {s : ByteArray} (h : 0 < s.size) (h0 : inR (byteAt s 0) 97 122 = false) : okName s = false := by
  unfold okName
  rw [allB_no h (by unfold nmB; rw [h0]; rfl)]
  simp
end Go.Proofs.YtolijmldobncbaaDoor
