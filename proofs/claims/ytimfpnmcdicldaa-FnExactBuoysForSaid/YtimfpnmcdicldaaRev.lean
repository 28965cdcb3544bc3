/- A channel turned round: the program and the reference. -/
import Derived.Test.YtimfpnmcdicldaaChLen
import Derived.Test.YtimfpnmcdicldaaQMix
import Derived.Test.YtimfpnmcdicldaaBlk
import Derived.Deep.AppendLies
namespace Go.Proofs.Ytimfpnmcdicldaa
open Go Go.RowKit
attribute [local go_sem ↓] Go.wp_at_zero Go.wp_at_succ
/-- All cells of n records in one list. -/
def flatF (m n : Nat) (f : Nat → Nat → Value) : List Value := (List.range (n * m)).map (fun q => f (q / m) (q % m))
theorem flatF_len (m n : Nat) (f : Nat → Nat → Value) : (flatF m n f).length = n * m := by simp [flatF]
theorem flatF_at {m n i j : Nat} (f : Nat → Nat → Value) (hi : i < n) (hj : j < m) : (flatF m n f)[i * m + j]? = some (f i j) := by
  have h := idx_lt hi hj
  unfold flatF
  rw [List.getElem?_map, List.getElem?_range h]
  have e1 : (i * m + j) / m = i := by rw [Nat.add_comm, Nat.add_mul_div_right _ _ (by omega), Nat.div_eq_of_lt hj, Nat.zero_add]
  have e2 : (i * m + j) % m = j := by rw [Nat.add_comm, Nat.add_mul_mod_self_right, Nat.mod_eq_of_lt hj]
  simp [e1, e2]
end Go.Proofs.Ytimfpnmcdicldaa
