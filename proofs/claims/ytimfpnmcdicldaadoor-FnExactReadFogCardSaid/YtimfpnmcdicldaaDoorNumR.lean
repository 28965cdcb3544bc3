/- Reading a number in decimal form, on both sides. -/
import Derived.Test.YtimfpnmcdicldaaDoorNumS
import Derived.Test.YtimfpnmcdicldaaDoorDoorP
import Derived.Test.YtimfpnmcdicldaaDoorNames
namespace Go.Proofs.YtimfpnmcdicldaaDoor
open Go Go.RowKit Go.Shelf
/-- The number that a text spells. -/
def num (s : ByteArray) : Option Int := numL s.data.toList
theorem data_len (s : ByteArray) : s.data.toList.length = s.size := Array.length_toList
theorem data_at {s : ByteArray} {k : Nat} (h : k < s.size) : s.data.toList[k]? = some s[k] := by
  rw [List.getElem?_eq_getElem (by rw [data_len]; exact h)]
  rfl
/-- How many bytes the sign takes. -/
def signN (s : ByteArray) : Nat := if s.data.toList.head? = some 45 then 1 else 0
theorem signN_le (s : ByteArray) : signN s ≤ 1 ∧ signN s ≤ s.size := by
  unfold signN
  split
  · rename_i h
    refine ⟨by omega, ?_⟩
    rcases Nat.eq_zero_or_pos s.size with e | e
    · have : s.data.toList = [] := List.eq_nil_of_length_eq_zero (by rw [data_len]; exact e)
      rw [this] at h; cases h
    · omega
  · omega
theorem body_drop (s : ByteArray) : bodyL s.data.toList = s.data.toList.drop (signN s) := by
  unfold bodyL signN
  split <;> simp
theorem body_size (s : ByteArray) : (bodyL s.data.toList).length = s.size - signN s := by rw [body_drop, List.length_drop, data_len]
theorem body_at {s : ByteArray} {k : Nat} (h : k < s.size) (h0 : signN s ≤ k) : (bodyL s.data.toList)[k - signN s]? = some s[k] := by
  rw [body_drop, List.getElem?_drop, show signN s + (k - signN s) = k by omega, data_at h]
theorem sign_yes {s : ByteArray} (h : 0 < s.size) (h0 : s[0].toNat = 45) : signN s = 1 := by
  unfold signN
  have e : s[0] = 45 := UInt8.toNat_inj.1 h0
  have := data_at h
  rw [e] at this
  rw [List.head?_eq_getElem?, this, if_pos rfl]
theorem sign_no {s : ByteArray} (h : 0 < s.size) (h0 : s[0].toNat ≠ 45) : signN s = 0 := by
  unfold signN
  rw [List.head?_eq_getElem?, data_at h, if_neg]
  intro e
  apply h0
  have : s[0] = 45 := by simpa using e
  rw [this]; rfl
theorem num_of_none {s : ByteArray} (h : Lib.decNat (bodyL s.data.toList) = none) : num s = none := by
  unfold num numL
  split
  · rw [h]; rfl
  · rfl
theorem num_empty {s : ByteArray} (h : s.size = signN s) : num s = none := by
  apply num_of_none
  have : bodyL s.data.toList = [] := List.eq_nil_of_length_eq_zero (by rw [body_size]; omega)
  rw [this]; rfl
theorem num_long {s : ByteArray} (h : 18 < s.size - signN s) : num s = none := by
  unfold num numL
  rw [if_neg]
  rw [body_size]
  omega
theorem num_naught {s : ByteArray} (h : signN s < s.size) (h0 : s[signN s].toNat = 48) (h1 : 1 < s.size) : num s = none := by
  unfold num numL
  rw [if_neg]
  rintro ⟨_, hn⟩
  apply hn
  have := body_at h (Nat.le_refl _)
  rw [Nat.sub_self, ← List.head?_eq_getElem?] at this
  exact ⟨by rw [this]; congr 1; exact UInt8.toNat_inj.1 h0, by rw [data_len]; exact h1⟩
theorem num_bad {s : ByteArray} {k : Nat} (hk : k < s.size) (h0 : signN s ≤ k) (hb : inR (s[k].toNat : Int) 48 57 = false) : num s = none := by
  apply num_of_none
  cases hd : Lib.decNat (bodyL s.data.toList) with
  | none => rfl
  | some m =>
    obtain ⟨_, hf⟩ := Lib.decNat_some hd
    obtain ⟨d, hdg⟩ := Lib.digit_of_decFrom _ 0 m hf _ _ (body_at hk h0)
    have := Lib.digitVal_eq hdg
    rw [inR_yes (by omega)] at hb
    cases hb
theorem num_yes {s : ByteArray} {m : Nat} (h : signN s < s.size) (h18 : s.size - signN s ≤ 18) (h0 : ¬ (s[signN s].toNat = 48 ∧ 1 < s.size)) (hd : Lib.decFrom 0 ((bodyL s.data.toList).take (s.size - signN s)) = some m) :
    num s = some (if signN s = 1 then -(m : Int) else m) := by
  rw [List.take_of_length_le (by rw [body_size]; exact Nat.le_refl _)] at hd
  unfold num numL
  have hne : bodyL s.data.toList ≠ [] := fun e => by
    have := body_size s
    rw [e] at this
    simp at this
    omega
  rw [if_pos, decNat_ne hne, hd]
  · simp only [Option.map_some]
    congr 1
    unfold signN
    by_cases e : s.data.toList.head? = some 45
    · rw [if_pos e, if_pos e, if_pos rfl]
    · rw [if_neg e, if_neg e, if_neg (by omega)]
  · refine ⟨by rw [body_size]; exact h18, fun ⟨e1, e2⟩ => h0 ⟨?_, by rw [data_len] at e2; exact e2⟩⟩
    have := body_at h (Nat.le_refl _)
    rw [Nat.sub_self, ← List.head?_eq_getElem?, e1] at this
    have e : s[signN s] = 48 := by simpa using this.symm
    rw [e]; rfl
/-- How far a number is read. -/
def NInv (s : ByteArray) (q m : Nat) : Prop := Lib.decFrom 0 ((bodyL s.data.toList).take (q - signN s)) = some m
theorem nInv_start (s : ByteArray) : NInv s (signN s) 0 := by unfold NInv; rw [Nat.sub_self]; rfl
theorem nInv_step {s : ByteArray} {q m : Nat} (h : NInv s q m) (hq : q < s.size) (h0 : signN s ≤ q) (hb : inR (s[q].toNat : Int) 48 57 = true) : NInv s (q + 1) (m * 10 + (s[q].toNat - 48)) := by
  have hd : Lib.digitVal s[q] = some (s[q].toNat - 48) := by
    have := inR_iff.1 hb
    unfold Lib.digitVal
    rw [if_pos (by omega)]
  unfold NInv at h ⊢
  rw [show q + 1 - signN s = (q - signN s) + 1 by omega]
  exact Lib.decFrom_take _ _ 0 m _ _ h (body_at hq h0) hd
theorem nInv_lt {s : ByteArray} {q m : Nat} (h : NInv s q m) (h18 : q - signN s ≤ 18) : m < 1000000000000000000 := by
  have := Lib.decFrom_lt _ 0 m h
  have hl : ((bodyL s.data.toList).take (q - signN s)).length ≤ 18 := by rw [List.length_take]; omega
  have hp : 10 ^ ((bodyL s.data.toList).take (q - signN s)).length ≤ 10 ^ 18 := Nat.pow_le_pow_right (by decide) hl
  have e18 : (10 : Nat) ^ 18 = 1000000000000000000 := by decide
  omega
theorem num_end1 {s : ByteArray} {m : Nat} (hsg : signN s = 1) (h : 1 < s.size) (h18 : s.size - 1 ≤ 18) (h0 : ¬ s[1].toNat = 48) (hd : NInv s s.size m) : num s = some (-(m : Int)) := by
  have := num_yes (s := s) (m := m) (by omega) (by omega) (by simp only [hsg]; exact fun hh => h0 hh.1) hd
  rwa [if_pos hsg] at this
theorem num_end0 {s : ByteArray} {m : Nat} (hsg : signN s = 0) (h : 0 < s.size) (h18 : s.size ≤ 18) (h0 : ¬ (s[0].toNat = 48 ∧ 1 < s.size)) (hd : NInv s s.size m) : num s = some (m : Int) := by
  have := num_yes (s := s) (m := m) (by omega) (by omega) (by simp only [hsg]; exact h0) hd
  rwa [if_neg (by omega)] at this
theorem nInv_lt17 {s : ByteArray} {q m : Nat} (h : NInv s q m) (h17 : q - signN s ≤ 17) : m < 100000000000000000 := by
  have := Lib.decFrom_lt _ 0 m h
  have hl : ((bodyL s.data.toList).take (q - signN s)).length ≤ 17 := by rw [List.length_take]; omega
  have hp : 10 ^ ((bodyL s.data.toList).take (q - signN s)).length ≤ 10 ^ 17 := Nat.pow_le_pow_right (by decide) hl
  have e17 : (10 : Nat) ^ 17 = 100000000000000000 := by decide
  omega
end Go.Proofs.YtimfpnmcdicldaaDoor
