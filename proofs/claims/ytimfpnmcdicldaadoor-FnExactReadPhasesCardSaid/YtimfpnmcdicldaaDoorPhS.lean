/- The text of phases: the plain law. No function of the program is walked here. -/
import Derived.Test.YtimfpnmcdicldaaDoorSecT
import Derived.Test.YtimfpnmcdicldaaDoorPhV
import Derived.Lib.Join
import Derived.Test.YtimfpnmcdicldaaDoorFill
namespace Go.Proofs.YtimfpnmcdicldaaDoor
open Go Go.RowKit Go.Shelf
/-- A color as it is written. -/
def colT (c : ByteArray) : ByteArray := if c.toList.isEmpty then (⟨#[45]⟩ : ByteArray) else c
/-- The text of a phase, and of the first k of them. -/
def phT (C : Nat → ByteArray) (L : Nat → Int) (i : Nat) : ByteArray := colT (C i) ++ dec (L i)
def phsT (C : Nat → ByteArray) (L : Nat → Int) : Nat → ByteArray
  | 0 => ⟨#[]⟩
  | k + 1 => (if k = 0 then ⟨#[]⟩ else phsT C L k ++ (⟨#[44]⟩ : ByteArray)) ++ phT C L k
theorem join_snoc (xs : List (List UInt8)) (y sep : List UInt8) : Lib.join (xs ++ [y]) sep = if xs = [] then y else Lib.join xs sep ++ sep ++ y := by
  cases xs with
  | nil => rw [List.nil_append, Lib.join_one, if_pos rfl]
  | cons x r =>
    rw [List.cons_append, Lib.join_cons, Lib.join_cons, if_neg (by simp)]
    simp [Lib.joinTail]
theorem phsT_join (C : Nat → ByteArray) (L : Nat → Int) : ∀ n, Lib.join (((List.range n).map (phT C L)).map (·.data.toList)) ((⟨#[44]⟩ : ByteArray)).data.toList = (phsT C L n).data.toList
  | 0 => rfl
  | n + 1 => by
    rw [List.range_succ, List.map_append, List.map_append, List.map_cons, List.map_nil, List.map_cons, List.map_nil, join_snoc, phsT_join C L n, phsT]
    rcases Nat.eq_zero_or_pos n with h | h
    · subst h
      rw [if_pos (by rfl), if_pos rfl, ByteArray.data_append]
      simp
    · rw [if_neg (by simp; omega), if_neg (by omega), ByteArray.data_append, ByteArray.data_append]
      simp
theorem colT_size {c : ByteArray} (h : c.size ≤ 1) : (colT c).size ≤ 1 := by
  unfold colT
  split
  · exact Nat.le_refl _
  · exact h
theorem phsT_size {C : Nat → ByteArray} {L : Nat → Int} : ∀ k, (∀ i, i < k → (C i).size ≤ 1 ∧ 0 ≤ L i ∧ L i ≤ 600) → (phsT C L k).size ≤ 30 * k
  | 0, _ => Nat.zero_le _
  | k + 1, h => by
    have h1 := phsT_size k (fun i hi => h i (by omega))
    have h2 := h k (by omega)
    have h3 := colT_size h2.1
    have h4 := dec_small (n := L k) (by omega) (by omega)
    have : ((⟨#[44]⟩ : ByteArray)).size = 1 := rfl
    rw [phsT]
    unfold phT
    split
    · simp only [ByteArray.size_append]
      have : (⟨#[]⟩ : ByteArray).size = 0 := rfl
      omega
    · simp only [ByteArray.size_append]
      omega
end Go.Proofs.YtimfpnmcdicldaaDoor
