/- ReadMark: the plain law: a mark read from the pieces of a text, and from its words. -/
import Derived.Test.YtolijmldobncbaaDoorSplitW
import Derived.Test.YtolijmldobncbaaDoorMarkT
import Derived.Test.YtolijmldobncbaaDoorNamed
namespace Go.Proofs.YtolijmldobncbaaDoor
open Go Go.RowKit Go.Shelf
def kindOf (a : ByteArray) : Option Nat := (List.range 10).find? fun n => (nameN n).toList == a.toList
theorem kindOf_none {a : ByteArray} (h : NoName a 10) : kindOf a = none := by
  unfold kindOf
  rw [List.find?_eq_none.2 (fun n hn => by rw [h n (List.mem_range.1 hn)]; simp)]
theorem kindOf_some {a : ByteArray} {n : Nat} (h : FirstName a n) : kindOf a = some n := by
  unfold kindOf
  rw [List.find?_range_eq_some]
  exact ⟨h.2.1, List.mem_range.2 h.1, fun m hm => by rw [h.2.2 m hm]; rfl⟩
theorem kindOf_name {a : ByteArray} {n : Nat} (h : kindOf a = some n) : n < 10 ∧ (nameN n).toList = a.toList := by
  unfold kindOf at h
  rw [List.find?_range_eq_some] at h
  exact ⟨List.mem_range.1 h.2.1, by simpa using h.1⟩
def topB (d : ByteArray) : ByteArray := if (d.toList == ((⟨#[45]⟩ : ByteArray)).toList) = true then ⟨#[]⟩ else d
def markOk (s b c d : ByteArray) (k : Nat) : Bool := decide (1 ≤ k ∧ k ≤ 9) && (okM k b c (topB d) && ((markTxt (pickS markNames k) b c (topB d)).toList == s.toList))
def markOf (s a b c d : ByteArray) : Option (Nat × ByteArray × ByteArray × ByteArray) :=
  match kindOf a with
  | none => none
  | some k => if markOk s b c d k = true then some (k, b, c, topB d) else none
def four (s : ByteArray) : List ByteArray → Option (Nat × ByteArray × ByteArray × ByteArray)
  | [a, b, c, d] => markOf s a b c d
  | _ => none
theorem toList_size (s : ByteArray) : s.toList.length = s.size := by rw [ByteArray.toList_eq]; exact Array.length_toList
theorem ba_ext {a b : ByteArray} (h : a.toList = b.toList) : a = b := by
  rw [ByteArray.toList_eq, ByteArray.toList_eq] at h
  exact ByteArray.ext (Array.toList_inj.1 h)
theorem markNames_ne : ∀ n, n < 10 → (nameN n).toList ≠ [] := by
  intro n hn h
  have h2 : (nameN n).size = 0 := by rw [← toList_size, h]; rfl
  rw [nameN_eq hn] at h2
  have : n = 0 ∨ n = 1 ∨ n = 2 ∨ n = 3 ∨ n = 4 ∨ n = 5 ∨ n = 6 ∨ n = 7 ∨ n = 8 ∨ n = 9 := by omega
  rcases this with rfl | rfl | rfl | rfl | rfl | rfl | rfl | rfl | rfl | rfl <;> exact absurd h2 (by decide +kernel)
theorem cols_ne {k : Int} (h : 1 ≤ k ∧ k ≤ 9) : (pickS markCols k).size ≠ 0 := by
  rcases nine_cases h with rfl | rfl | rfl | rfl | rfl | rfl | rfl | rfl | rfl <;> decide +kernel
theorem shapes_ne {k : Int} (h : 1 ≤ k ∧ k ≤ 9) : Lib.containsS (shapes k) ⟨#[]⟩ = false := by
  rcases nine_cases h with rfl | rfl | rfl | rfl | rfl | rfl | rfl | rfl | rfl <;> decide +kernel
/-- What is read holds no empty word. -/
theorem markOf_full {s a b c d : ByteArray} (hs : s.data.toList = a.data.toList ++ 32 :: (b.data.toList ++ 32 :: (c.data.toList ++ 32 :: d.data.toList))) (h : a.toList.isEmpty = true ∨ b.toList.isEmpty = true ∨ c.toList.isEmpty = true ∨ d.toList.isEmpty = true) : markOf s a b c d = none := by
  unfold markOf
  cases hk : kindOf a with
  | none => rfl
  | some k =>
    obtain ⟨hk10, hnm⟩ := kindOf_name hk
    simp only
    rw [if_neg]
    intro ho
    unfold markOk at ho
    simp only [Bool.and_eq_true, decide_eq_true_eq, beq_iff_eq] at ho
    obtain ⟨h19, hok, htx⟩ := ho
    have hkk : 1 ≤ (k : Int) ∧ (k : Int) ≤ 9 := by omega
    unfold okM at hok
    rw [if_pos hkk] at hok
    simp only [Bool.and_eq_true, beq_iff_eq] at hok
    obtain ⟨hc1, hc2, _⟩ := hok
    rcases h with h | h | h | h
    · have : a.toList = [] := List.isEmpty_iff.1 h
      exact markNames_ne k hk10 (hnm.trans this)
    · have e : b.toList = [] := List.isEmpty_iff.1 h
      refine cols_ne hkk ?_
      rw [← toList_size, ← hc1, e]
      rfl
    · have e : c.toList = [] := List.isEmpty_iff.1 h
      have e2 : c = ⟨#[]⟩ := ba_ext (e.trans (by rw [ByteArray.toList_eq]))
      rw [e2, shapes_ne hkk] at hc2
      cases hc2
    · have e : d.toList = [] := List.isEmpty_iff.1 h
      have e2 : d = ⟨#[]⟩ := ba_ext (e.trans (by rw [ByteArray.toList_eq]))
      subst e2
      have e3 : topB ⟨#[]⟩ = ⟨#[]⟩ := by decide +kernel
      rw [e3] at htx
      have e4 : pickS markNames k = a := ba_ext hnm
      have hl := congrArg List.length htx
      rw [toList_size, toList_size, e4] at hl
      have hl2 := congrArg List.length hs
      have hz : ∀ x : ByteArray, x.data.toList.length = x.size := fun x => Array.length_toList
      simp only [List.length_append, List.length_cons, hz] at hl2
      unfold markTxt topT at hl
      simp only [ByteArray.size_append] at hl
      have e5 : (if (⟨#[]⟩ : ByteArray).toList.isEmpty = true then (⟨#[45]⟩ : ByteArray) else ⟨#[]⟩).size = 1 := by decide +kernel
      have e6 : ((⟨#[32]⟩ : ByteArray)).size = 1 := rfl

      rw [e5, e6] at hl
      simp only [List.length_nil] at hl2
      omega
theorem top_free {d : ByteArray} (h : (32 : UInt8) ∉ d.data.toList) : (topT (topB d)).data.toList.count 32 = 0 := by
  rw [List.count_eq_zero]
  unfold topT
  split
  · decide
  · unfold topB
    split
    · decide
    · exact h
/-- A text that holds other than three blanks is no mark's. -/
theorem markOf_count {s a b c d : ByteArray} (hs : s.data.toList.count 32 ≠ 3) (ha : (32 : UInt8) ∉ a.data.toList) (hb : (32 : UInt8) ∉ b.data.toList) (hc : (32 : UInt8) ∉ c.data.toList) (hd : (32 : UInt8) ∉ d.data.toList) : markOf s a b c d = none := by
  unfold markOf
  cases hk : kindOf a with
  | none => rfl
  | some k =>
    obtain ⟨hk10, hnm⟩ := kindOf_name hk
    simp only
    rw [if_neg]
    intro ho
    unfold markOk at ho
    simp only [Bool.and_eq_true, decide_eq_true_eq, beq_iff_eq] at ho
    obtain ⟨h19, hok, htx⟩ := ho
    have e4 : pickS markNames k = a := ba_ext hnm
    rw [e4] at htx
    have e5 := ba_ext htx
    apply hs
    rw [← e5]
    unfold markTxt
    simp only [ByteArray.data_append, Array.toList_append, List.count_append]
    rw [List.count_eq_zero.2 ha, List.count_eq_zero.2 hb, List.count_eq_zero.2 hc, top_free hd]
    rfl
/-- From the pieces or from the words: the same. -/
theorem four_same (s : ByteArray) : four s (pieces 32 s) = four s (nonB (pieces 32 s)) := by
  have hlen : (pieces 32 s).length = s.data.toList.count 32 + 1 := by unfold pieces; rw [List.length_map, spl_count]
  have hfree : ∀ p ∈ pieces 32 s, (32 : UInt8) ∉ p.data.toList := by
    intro p hp
    unfold pieces at hp
    obtain ⟨l, hl, rfl⟩ := List.mem_map.1 hp
    exact spl_free 32 _ l hl
  have hglue : glue 32 ((pieces 32 s).map (·.data.toList)) = s.data.toList := by
    unfold pieces
    rw [List.map_map]
    have : ((fun x : ByteArray => x.data.toList) ∘ fun l : List UInt8 => (⟨l.toArray⟩ : ByteArray)) = id := by funext x; simp
    rw [this, List.map_id, glue_spl]
  generalize hP : pieces 32 s = P at *
  by_cases h4 : P.length = 4
  · obtain ⟨a, b, c, d, rfl⟩ : ∃ a b c d, P = [a, b, c, d] := by
      match P, h4 with
      | [a, b, c, d], _ => exact ⟨a, b, c, d, rfl⟩
    by_cases hf : a.toList.isEmpty = true ∨ b.toList.isEmpty = true ∨ c.toList.isEmpty = true ∨ d.toList.isEmpty = true
    · have h1 : four s [a, b, c, d] = none := markOf_full (by simpa [glue] using hglue.symm) hf
      rw [h1]
      have h2 : (nonB [a, b, c, d]).length < 4 := by
        have : (nonB [a, b, c, d]).length ≠ [a, b, c, d].length := by
          intro he
          unfold nonB at he
          rw [List.length_filter_eq_length_iff] at he
          rcases hf with h | h | h | h
          · have := he a (by simp); simp [h] at this
          · have := he b (by simp); simp [h] at this
          · have := he c (by simp); simp [h] at this
          · have := he d (by simp); simp [h] at this
        have := nonB_len [a, b, c, d]
        simp only [List.length_cons, List.length_nil] at *
        omega
      unfold four
      split
      · rename_i he
        rw [he] at h2
        simp at h2
      · rfl
    · have : nonB [a, b, c, d] = [a, b, c, d] := by
        simp only [not_or, Bool.not_eq_true] at hf
        simp [nonB, hf.1, hf.2.1, hf.2.2.1, hf.2.2.2]
      rw [this]
  · have h1 : four s P = none := by
      unfold four
      split
      · exact absurd rfl h4
      · rfl
    rw [h1]
    symm
    unfold four
    split
    · rename_i a b c d he
      have hm : ∀ p ∈ [a, b, c, d], (32 : UInt8) ∉ p.data.toList := fun p hp => hfree p (nonB_mem (he ▸ hp)).1
      exact markOf_count (by omega) (hm a (by simp)) (hm b (by simp)) (hm c (by simp)) (hm d (by simp))
    · rfl
def readM (s : ByteArray) : Option (Nat × ByteArray × ByteArray × ByteArray) := if (s.toList == [110, 111, 110, 101]) = true then some (0, ⟨#[]⟩, ⟨#[]⟩, ⟨#[]⟩) else four s (pieces 32 s)
end Go.Proofs.YtolijmldobncbaaDoor
