/- ReadSignal: what is read. -/
import Derived.Test.YtolijmldobncbaaDoorSendA
namespace Go.Proofs.YtolijmldobncbaaDoor
open Go Go.RowKit Go.Shelf
/-- The letter with some signs. -/
def findL (code : ByteArray) : Option ByteArray := ((List.range 26).find? fun n => (cN n).toList == code.toList).map letN
theorem findL_none {code : ByteArray} (h : NoCode code 26) : findL code = none := by
  unfold findL
  rw [List.find?_eq_none.2 (fun n hn => by rw [h n (List.mem_range.1 hn)]; simp)]
  rfl
theorem findL_some {code : ByteArray} {n : Nat} (h : FirstCode code n) : findL code = some (letN n) := by
  unfold findL
  have : (List.range 26).find? (fun n => (cN n).toList == code.toList) = some n := by
    rw [List.find?_range_eq_some]
    exact ⟨h.2.1, List.mem_range.2 h.1, fun m hm => by rw [h.2.2 m hm]; rfl⟩
  rw [this]
  rfl
/-- One phase: the text so far and the signs so far, or an error. -/
def stepR (unit : Int) (i : Nat) (c : ByteArray) (len : Int) (st : ByteArray × ByteArray) : Option (ByteArray × ByteArray) :=
  if (c.toList.isEmpty != decide (i % 2 = 1)) = true then none
  else if c.toList.isEmpty = true then
    (if len = unit then some st
     else if len = 3 * unit then (findL st.2).map fun l => (st.1 ++ l, ⟨#[]⟩)
     else if len = 7 * unit then (findL st.2).map fun l => (st.1 ++ l ++ (⟨#[32]⟩ : ByteArray), ⟨#[]⟩)
     else none)
  else if isC c = true then
    (if len = unit then some (st.1, st.2 ++ (⟨#[46]⟩ : ByteArray)) else if len = 3 * unit then some (st.1, st.2 ++ (⟨#[45]⟩ : ByteArray)) else none)
  else none
/-- The first k phases. -/
def stR (unit : Int) (C : Nat → ByteArray) (L : Nat → Int) : Nat → Option (ByteArray × ByteArray)
  | 0 => some (⟨#[]⟩, ⟨#[]⟩)
  | k + 1 => (stR unit C L k).bind (stepR unit k (C k) (L k))
theorem stR_none {unit : Int} {C : Nat → ByteArray} {L : Nat → Int} {k : Nat} (h : stR unit C L k = none) : ∀ m, stR unit C L (k + m) = none
  | 0 => h
  | m + 1 => by
    have ih := stR_none h m
    show (stR unit C L (k + m)).bind _ = none
    rw [ih]
    rfl
theorem stR_dead {unit : Int} {C : Nat → ByteArray} {L : Nat → Int} {k n : Nat} (h : stR unit C L k = none) (hk : k ≤ n) : stR unit C L n = none := by
  have := stR_none h (n - k)
  rwa [show k + (n - k) = n by omega] at this
theorem stR_succ {unit : Int} {C : Nat → ByteArray} {L : Nat → Int} {k : Nat} {st : ByteArray × ByteArray} (h : stR unit C L k = some st) : stR unit C L (k + 1) = stepR unit k (C k) (L k) st := by
  show (stR unit C L k).bind _ = _
  rw [h]
  rfl
theorem stR_congr {unit : Int} {C C' : Nat → ByteArray} {L L' : Nat → Int} : ∀ k, (∀ i, i < k → C i = C' i ∧ L i = L' i) → stR unit C L k = stR unit C' L' k
  | 0, _ => rfl
  | k + 1, h => by
    show (stR unit C L k).bind _ = (stR unit C' L' k).bind _
    rw [stR_congr k (fun i hi => h i (by omega)), (h k (by omega)).1, (h k (by omega)).2]
/-- The phases and the pause behind them. -/
def endC (n : Nat) (C : Nat → ByteArray) (i : Nat) : ByteArray := if i < n then C i else ⟨#[]⟩
def endL (n : Nat) (unit : Int) (L : Nat → Int) (i : Nat) : Int := if i < n then L i else 3 * unit
/-- What is read: the text, or an error. -/
def readR (n : Nat) (unit : Int) (C : Nat → ByteArray) (L : Nat → Int) : ByteArray × Int :=
  match stR unit (endC n C) (endL n unit L) (n + 1) with
  | none => (⟨#[]⟩, 9)
  | some st => if okText st.1 = true then (st.1, 0) else (⟨#[]⟩, 9)
theorem readR_none {n : Nat} {unit : Int} {C : Nat → ByteArray} {L : Nat → Int} {k : Nat} (h : stR unit (endC n C) (endL n unit L) k = none) (hk : k ≤ n + 1) : readR n unit C L = (⟨#[]⟩, 9) := by
  unfold readR
  rw [stR_dead h hk]
theorem readR_some {n : Nat} {unit : Int} {C : Nat → ByteArray} {L : Nat → Int} {st : ByteArray × ByteArray} (h : stR unit (endC n C) (endL n unit L) (n + 1) = some st) : readR n unit C L = if okText st.1 = true then (st.1, 0) else (⟨#[]⟩, 9) := by
  unfold readR
  rw [h]
theorem findL_size {code l : ByteArray} (h : findL code = some l) : l.size = 1 := by
  unfold findL at h
  obtain ⟨n, _, rfl⟩ := Option.map_eq_some_iff.1 h
  rfl
theorem stepR_size {unit : Int} {i : Nat} {c : ByteArray} {len : Int} {st st' : ByteArray × ByteArray} (h : stepR unit i c len st = some st') : st'.1.size ≤ st.1.size + 2 ∧ st'.2.size ≤ st.2.size + 1 := by
  have e1 : ((⟨#[32]⟩ : ByteArray)).size = 1 := rfl
  have e2 : ((⟨#[46]⟩ : ByteArray)).size = 1 := rfl
  have e3 : ((⟨#[45]⟩ : ByteArray)).size = 1 := rfl
  have e0 : (⟨#[]⟩ : ByteArray).size = 0 := rfl
  unfold stepR at h
  repeat' split at h
  all_goals first
    | (cases h; done)
    | (cases h; constructor <;> (try simp only [ByteArray.size_append]) <;> omega)
    | (obtain ⟨l, hl, rfl⟩ := Option.map_eq_some_iff.1 h
       have := findL_size hl
       constructor <;> (try simp only [ByteArray.size_append]) <;> omega)
theorem stR_size {unit : Int} {C : Nat → ByteArray} {L : Nat → Int} : ∀ {k : Nat} {st : ByteArray × ByteArray}, stR unit C L k = some st → st.1.size ≤ 2 * k ∧ st.2.size ≤ k
  | 0, st, h => by
    cases h
    exact ⟨Nat.le_refl _, Nat.le_refl _⟩
  | k + 1, st, h => by
    cases hk : stR unit C L k with
    | none =>
      have h' : (stR unit C L k).bind (stepR unit k (C k) (L k)) = some st := h
      rw [hk] at h'
      cases h'
    | some st0 =>
      rw [stR_succ hk] at h
      have h1 := stepR_size h
      have h2 := stR_size hk
      omega
theorem stepR_badlen {unit : Int} {i : Nat} {c : ByteArray} {len : Int} {st : ByteArray × ByteArray} (h1 : len ≠ unit) (h3 : len ≠ 3 * unit) (h7 : len ≠ 7 * unit) : stepR unit i c len st = none := by
  unfold stepR
  simp only [h1, h3, h7, if_false]
  repeat' split
  all_goals rfl
theorem stepR_badcol {unit : Int} {i : Nat} {c : ByteArray} {len : Int} {st : ByteArray × ByteArray} (h : (c.toList.isEmpty != decide (i % 2 = 1)) = true) : stepR unit i c len st = none := if_pos h
theorem stepR_noC {unit : Int} {i : Nat} {c : ByteArray} {len : Int} {st : ByteArray × ByteArray} (h : c.toList.isEmpty = false) (hc : isC c = false) : stepR unit i c len st = none := by
  unfold stepR
  simp only [h, hc, if_false, Bool.false_eq_true]
  split <;> rfl
theorem stepR_sign {unit : Int} {i : Nat} {c : ByteArray} {len : Int} {st : ByteArray × ByteArray} (h : c.toList.isEmpty = false) (hi : i % 2 = 0) (hc : isC c = true) : stepR unit i c len st = if len = unit then some (st.1, st.2 ++ (⟨#[46]⟩ : ByteArray)) else if len = 3 * unit then some (st.1, st.2 ++ (⟨#[45]⟩ : ByteArray)) else none := by
  unfold stepR
  simp [h, hc, hi]
theorem stepR_gap {unit : Int} {i : Nat} {c : ByteArray} {len : Int} {st : ByteArray × ByteArray} (h : c.toList.isEmpty = true) (hi : i % 2 = 1) : stepR unit i c len st = if len = unit then some st
     else if len = 3 * unit then (findL st.2).map fun l => (st.1 ++ l, ⟨#[]⟩)
     else if len = 7 * unit then (findL st.2).map fun l => (st.1 ++ l ++ (⟨#[32]⟩ : ByteArray), ⟨#[]⟩)
     else none := by
  unfold stepR
  simp [h, hi]
theorem findL_ne {code l : ByteArray} (h : findL code = some l) : l.toList.isEmpty = false := by
  have := findL_size h
  rw [ByteArray.toList_eq]
  cases hl : l.data.toList with
  | nil =>
    have e : l.size = l.data.toList.length := (Array.length_toList).symm
    rw [e, hl] at this
    cases this
  | cons a b => rfl
theorem len_of {len unit : Int} (u0 : 1 ≤ unit) (h : len.tmod unit = 0) (q : Int) : len.tdiv unit = q ↔ len = q * unit := by
  have e := Int.mul_tdiv_add_tmod len unit
  rw [h, Int.add_zero] at e
  constructor
  · intro hq
    rw [← hq, Int.mul_comm]
    exact e.symm
  · intro hq
    rw [hq, Int.mul_tdiv_cancel _ (by omega)]
theorem mod_of {unit : Int} (q : Int) : (q * unit).tmod unit = 0 := Int.mul_tmod_left _ _
theorem endC_lt {n : Nat} {C : Nat → ByteArray} {k : Nat} (h : k < n) : endC n C k = C k := if_pos h
theorem endL_lt {n : Nat} {unit : Int} {L : Nat → Int} {k : Nat} (h : k < n) : endL n unit L k = L k := if_pos h
theorem endC_at {n : Nat} {C : Nat → ByteArray} : endC n C n = ⟨#[]⟩ := if_neg (Nat.lt_irrefl n)
theorem endL_at {n : Nat} {unit : Int} {L : Nat → Int} : endL n unit L n = 3 * unit := if_neg (Nat.lt_irrefl n)
theorem empty_em : (⟨#[]⟩ : ByteArray).toList.isEmpty = true := by rw [ByteArray.toList_eq]; rfl
/-- An even count of phases is no signal. -/
theorem readR_even {n : Nat} {unit : Int} {C : Nat → ByteArray} {L : Nat → Int} (h : n % 2 = 0) : readR n unit C L = (⟨#[]⟩, 9) := by
  refine readR_none (k := n + 1) ?_ (Nat.le_refl _)
  cases hs : stR unit (endC n C) (endL n unit L) n with
  | none => exact stR_dead hs (by omega)
  | some st =>
    rw [stR_succ hs, endC_at]
    exact stepR_badcol (by rw [empty_em]; simp [h])
/-- A phase that falls, and all falls. -/
theorem readR_fall {n : Nat} {unit : Int} {C : Nat → ByteArray} {L : Nat → Int} {k : Nat} {st : ByteArray × ByteArray} (h : stR unit (endC n C) (endL n unit L) k = some st) (hk : k < n) (hf : stepR unit k (C k) (L k) st = none) : readR n unit C L = (⟨#[]⟩, 9) := by
  refine readR_none (k := k + 1) ?_ (by omega)
  rw [stR_succ h, endC_lt hk, endL_lt hk]
  exact hf
theorem stR_next {n : Nat} {unit : Int} {C : Nat → ByteArray} {L : Nat → Int} {k : Nat} {st st' : ByteArray × ByteArray} (h : stR unit (endC n C) (endL n unit L) k = some st) (hk : k < n) (hf : stepR unit k (C k) (L k) st = some st') : stR unit (endC n C) (endL n unit L) (k + 1) = some st' := by
  rw [stR_succ h, endC_lt hk, endL_lt hk]
  exact hf
/-- The last sign and the pause behind it. -/
theorem stR_pause {n : Nat} {unit : Int} {C : Nat → ByteArray} {L : Nat → Int} {st : ByteArray × ByteArray} (u0 : 1 ≤ unit) (h : stR unit (endC n C) (endL n unit L) n = some st) (ho : n % 2 = 1) : stR unit (endC n C) (endL n unit L) (n + 1) = (findL st.2).map fun l => (st.1 ++ l, ⟨#[]⟩) := by
  rw [stR_succ h, endC_at, endL_at, stepR_gap empty_em ho, if_neg (by omega), if_pos rfl]
theorem readR_done {n : Nat} {unit : Int} {C : Nat → ByteArray} {L : Nat → Int} {st : ByteArray × ByteArray} (h : stR unit (endC n C) (endL n unit L) (if n = n ∧ 0 < n then n + 1 else n) = some st) : readR n unit C L = if okText st.1 = true then (st.1, 0) else (⟨#[]⟩, 9) := by
  rcases Nat.eq_zero_or_pos n with rfl | h0
  · rw [if_neg (by omega)] at h
    cases h
    rw [readR_even rfl]
    rfl
  · rw [if_pos ⟨rfl, h0⟩] at h
    exact readR_some h
end Go.Proofs.YtolijmldobncbaaDoor
