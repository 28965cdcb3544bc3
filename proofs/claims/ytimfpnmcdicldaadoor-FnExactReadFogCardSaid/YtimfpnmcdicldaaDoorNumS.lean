/- Numbers in decimal form as text: the plain law of reading them. No function of the program is walked here. -/
import Derived.Test.YtimfpnmcdicldaaDoorBase
import Derived.Lib.ItoaNum
import Derived.Lib.AtoiTie
import Derived.Lib.ParseIntBTie
namespace Go.Proofs.YtimfpnmcdicldaaDoor
open Go Go.RowKit
theorem decFrom_snoc (l : List UInt8) (c : UInt8) : ∀ acc, Lib.decFrom acc (l ++ [c]) = match Lib.decFrom acc l with | some m => (Lib.digitVal c).map fun d => m * 10 + d | none => none := by
  induction l with
  | nil => intro acc; simp only [List.nil_append, Lib.decFrom]; cases Lib.digitVal c <;> rfl
  | cons a t ih =>
    intro acc
    simp only [List.cons_append, Lib.decFrom]
    cases Lib.digitVal a with
    | none => rfl
    | some d => exact ih _
theorem decFrom_pos : ∀ (l : List UInt8) (acc m : Nat), 1 ≤ acc → Lib.decFrom acc l = some m → 1 ≤ m
  | [], acc, m, h, e => by simp only [Lib.decFrom, Option.some.injEq] at e; omega
  | a :: t, acc, m, h, e => by
    simp only [Lib.decFrom] at e
    cases ha : Lib.digitVal a with
    | none => rw [ha] at e; cases e
    | some d => rw [ha] at e; exact decFrom_pos t _ m (by omega) e
theorem digitVal_of {d : Nat} (h : d < 10) : Lib.digitVal (UInt8.ofNat (48 + d)) = some d := by
  unfold Lib.digitVal
  have e : (UInt8.ofNat (48 + d)).toNat = 48 + d := by simp; omega
  rw [e, if_pos (by omega)]
  congr 1
  omega
theorem decFrom_digits (m : Nat) : Lib.decFrom 0 (Lib.decDigits m) = some m := by
  induction m using Nat.strongRecOn with
  | _ m ih =>
    rw [Lib.decDigits]
    by_cases h : m < 10
    · rw [dif_pos h]
      simp only [Lib.decFrom, digitVal_of h]
      congr 1
      omega
    · rw [dif_neg h, decFrom_snoc, ih (m / 10) (by omega), digitVal_of (by omega)]
      simp only [Option.map_some]
      congr 1
      omega
theorem decDigits_ne (m : Nat) : Lib.decDigits m ≠ [] := by
  intro h
  have := Lib.decDigits_length m
  have h1 := Lib.nDigits_pos m
  rw [h] at this
  simp at this
  omega
theorem decDigits_head {m : Nat} (h : 0 < m) : (Lib.decDigits m).head? ≠ some 48 := by
  induction m using Nat.strongRecOn with
  | _ m ih =>
    rw [Lib.decDigits]
    by_cases h1 : m < 10
    · rw [dif_pos h1]
      intro e
      have e2 : UInt8.ofNat (48 + m) = 48 := by simpa using e
      have e3 := congrArg UInt8.toNat e2
      have e4 : (UInt8.ofNat (48 + m)).toNat = 48 + m := by simp; omega
      rw [e4] at e3
      have : (48 : UInt8).toNat = 48 := rfl
      omega
    · rw [dif_neg h1]
      have h2 := ih (m / 10) (by omega) (by omega)
      cases hd : Lib.decDigits (m / 10) with
      | nil => exact (decDigits_ne _ hd).elim
      | cons a t => rw [hd] at h2; simpa using h2
theorem digits_canon : ∀ (k : Nat) (b : List UInt8) (m : Nat), b.length = k + 1 → Lib.decFrom 0 b = some m → (b.head? ≠ some 48 ∨ k = 0) → Lib.decDigits m = b
  | 0, b, m, hl, hd, _ => by
    obtain ⟨c, rfl⟩ := List.length_eq_one_iff.1 hl
    simp only [Lib.decFrom] at hd
    cases hc : Lib.digitVal c with
    | none => rw [hc] at hd; cases hd
    | some d =>
      rw [hc] at hd
      obtain ⟨h1, h2, h3⟩ := Lib.digitVal_eq hc
      have h4 : 0 * 10 + d = m := by simpa using hd
      rw [Lib.decDigits, dif_pos (by omega)]
      congr 1
      apply UInt8.toNat_inj.1
      have : (UInt8.ofNat (48 + m)).toNat = 48 + m := by simp; omega
      rw [this]
      omega
  | k + 1, b, m, hl, hd, hh => by
    have hne : b ≠ [] := by rintro rfl; simp at hl
    obtain ⟨l, c, rfl⟩ : ∃ l c, b = l ++ [c] := ⟨b.dropLast, b.getLast hne, (List.dropLast_concat_getLast hne).symm⟩
    have hll : l.length = k + 1 := by simpa using hl
    rw [decFrom_snoc] at hd
    cases hm : Lib.decFrom 0 l with
    | none => rw [hm] at hd; cases hd
    | some m' =>
      rw [hm] at hd
      cases hc : Lib.digitVal c with
      | none => rw [hc] at hd; cases hd
      | some d =>
        rw [hc] at hd
        obtain ⟨h1, h2, h3⟩ := Lib.digitVal_eq hc
        have h4 : m' * 10 + d = m := by simpa using hd
        have hh' : l.head? ≠ some 48 := by
          rcases hh with h | h
          · cases l with
            | nil => simp at hll
            | cons a t => simpa using h
          · omega
        have ih := digits_canon k l m' hll hm (.inl hh')
        have hpos : 1 ≤ m' := by
          cases l with
          | nil => simp at hll
          | cons a t =>
            simp only [Lib.decFrom] at hm
            cases ha : Lib.digitVal a with
            | none => rw [ha] at hm; cases hm
            | some e =>
              rw [ha] at hm
              obtain ⟨g1, g2, g3⟩ := Lib.digitVal_eq ha
              refine decFrom_pos t _ m' ?_ hm
              have : a.toNat ≠ 48 := fun g => hh' (by
                have : a = 48 := UInt8.toNat_inj.1 g
                rw [this]; rfl)
              omega
        rw [Lib.decDigits, dif_neg (by omega), show m / 10 = m' by omega, show m % 10 = d by omega, ih]
        congr 2
        apply UInt8.toNat_inj.1
        have : (UInt8.ofNat (48 + d)).toNat = 48 + d := by simp; omega
        rw [this]
        omega
/-- What stands behind the sign. -/
def bodyL (l : List UInt8) : List UInt8 := if l.head? = some 45 then l.drop 1 else l
/-- The number that a text spells: at most 18 digits, no needless sign, no needless naught. -/
def numL (l : List UInt8) : Option Int :=
  if (bodyL l).length ≤ 18 ∧ ¬ ((bodyL l).head? = some 48 ∧ 1 < l.length) then (Lib.decNat (bodyL l)).map (fun (m : Nat) => if l.head? = some 45 then -(m : Int) else m) else none
theorem decNat_ne {l : List UInt8} (h : l ≠ []) : Lib.decNat l = Lib.decFrom 0 l := by
  unfold Lib.decNat
  cases l with
  | nil => exact (h rfl).elim
  | cons a t => rfl
theorem digits_byte (m : Nat) : ∀ c ∈ Lib.decDigits m, 48 ≤ c.toNat ∧ c.toNat ≤ 57 := by
  intro c hc
  obtain ⟨k, hk, e⟩ := List.getElem_of_mem hc
  obtain ⟨d, hd⟩ := Lib.digit_of_decFrom _ 0 m (decFrom_digits m) k c (by rw [List.getElem?_eq_getElem hk, e])
  have := Lib.digitVal_eq hd
  omega
theorem nD_le : ∀ (k u : Nat), u < 10 ^ (k + 1) → Lib.nDigits u ≤ k + 1
  | 0, u, h => by rw [Lib.nDigits_small (by omega)]; omega
  | k + 1, u, h => by
    rw [Lib.nDigits]
    split
    · omega
    · have : u / 10 < 10 ^ (k + 1) := by
        rw [Nat.pow_succ] at h
        omega
      have := nD_le k (u / 10) this
      omega
theorem digits_short {m : Nat} (h : m < 1000000000000000000) : (Lib.decDigits m).length ≤ 18 := by
  rw [Lib.decDigits_length]
  exact nD_le 17 m (by omega)
theorem digits_not_minus (m : Nat) : (Lib.decDigits m).head? ≠ some 45 := by
  cases h : Lib.decDigits m with
  | nil => simp
  | cons a t =>
    have := digits_byte m a (by rw [h]; simp)
    intro e
    have e2 : a = 45 := by simpa using e
    subst e2
    have : (45 : UInt8).toNat = 45 := rfl
    omega
/-- A number's form spells it. -/
theorem num_itoa {n : Int} (h0 : -1000000000000000000 < n) (h1 : n < 1000000000000000000) : numL (Lib.itoa n) = some n := by
  unfold Lib.itoa
  by_cases hn : n < 0
  · rw [if_pos hn]
    have hb : bodyL (45 :: Lib.decDigits n.natAbs) = Lib.decDigits n.natAbs := by simp [bodyL]
    unfold numL
    rw [hb, if_pos ⟨digits_short (by omega), fun h => decDigits_head (by omega) h.1⟩, decNat_ne (decDigits_ne _), decFrom_digits]
    simp only [Option.map_some, List.head?_cons, if_true]
    congr 1
    omega
  · rw [if_neg hn]
    have hb : bodyL (Lib.decDigits n.toNat) = Lib.decDigits n.toNat := by
      unfold bodyL
      rw [if_neg (digits_not_minus _)]
    unfold numL
    have hz : ¬ ((Lib.decDigits n.toNat).head? = some 48 ∧ 1 < (Lib.decDigits n.toNat).length) := fun h => by
      rcases Nat.eq_zero_or_pos n.toNat with h2 | h2
      · rw [h2, Lib.decDigits_one (by omega)] at h
        simp at h
      · exact decDigits_head h2 h.1
    rw [hb, if_pos ⟨digits_short (by omega), hz⟩, decNat_ne (decDigits_ne _), decFrom_digits]
    simp only [Option.map_some]
    rw [if_neg (digits_not_minus _), Int.toNat_of_nonneg (by omega)]
theorem body_len (l : List UInt8) (hne : bodyL l ≠ []) : ∃ k, (bodyL l).length = k + 1 := ⟨(bodyL l).length - 1, by
  have : 0 < (bodyL l).length := List.length_pos_iff.2 hne
  omega⟩
/-- What spells a number is its form. -/
theorem num_form {l : List UInt8} {n : Int} (h : numL l = some n) : l = Lib.itoa n ∧ -1000000000000000000 < n ∧ n < 1000000000000000000 := by
  unfold numL at h
  split at h
  · rename_i hc
    obtain ⟨hs, hz⟩ := hc
    cases hd : Lib.decNat (bodyL l) with
    | none => rw [hd] at h; cases h
    | some m =>
      rw [hd] at h
      obtain ⟨hne, hdf⟩ := Lib.decNat_some hd
      obtain ⟨k, hk⟩ := body_len l hne
      have hlt := Lib.decFrom_lt _ 0 m hdf
      have hp : 10 ^ (bodyL l).length ≤ 10 ^ 18 := Nat.pow_le_pow_right (by decide) hs
      have e18 : (10 : Nat) ^ 18 = 1000000000000000000 := by decide
      simp only [Option.map_some, Option.some.injEq] at h
      by_cases hneg : l.head? = some 45
      · rw [if_pos hneg] at h
        obtain ⟨r, rfl⟩ : ∃ r, l = 45 :: r := by
          cases l with
          | nil => simp at hneg
          | cons a t => exact ⟨t, by simp at hneg; rw [hneg]⟩
        have hb : bodyL (45 :: r) = r := by simp [bodyL]
        rw [hb] at hs hz hdf hk hne hlt hp
        have h48 : r.head? ≠ some 48 := fun e => hz ⟨e, by rw [List.length_cons]; omega⟩
        have hm : Lib.decDigits m = r := digits_canon k r m hk hdf (.inl h48)
        have hm0 : 0 < m := by
          rcases Nat.eq_zero_or_pos m with e | e
          · subst e
            rw [Lib.decDigits_one (by omega)] at hm
            subst hm
            simp at h48
          · exact e
        refine ⟨?_, by omega, by omega⟩
        unfold Lib.itoa
        rw [if_pos (by omega), ← h, show (-(m : Int)).natAbs = m by omega, hm]
      · rw [if_neg hneg] at h
        have hb : bodyL l = l := by unfold bodyL; rw [if_neg hneg]
        rw [hb] at hs hz hdf hk hne hlt hp
        have hm : Lib.decDigits m = l := digits_canon k l m hk hdf (by
          by_cases e : l.head? = some 48
          · right
            have : ¬ 1 < l.length := fun h => hz ⟨e, h⟩
            omega
          · exact .inl e)
        refine ⟨?_, by omega, by omega⟩
        unfold Lib.itoa
        rw [if_neg (by omega), ← h, show ((m : Nat) : Int).toNat = m by omega, hm]
  · cases h
theorem num_iff {l : List UInt8} {n : Int} : numL l = some n ↔ l = Lib.itoa n ∧ -1000000000000000000 < n ∧ n < 1000000000000000000 :=
  ⟨num_form, fun ⟨h, h0, h1⟩ => by rw [h]; exact num_itoa h0 h1⟩
/-- What the library reads and writes again. -/
theorem parse_num {l : List UInt8} {n : Int} (hs : (bodyL l).length ≤ 18) : (Lib.parseIntB 64 l = .ok n ∧ Lib.itoa n = l) ↔ numL l = some n := by
  constructor
  · rintro ⟨h, he⟩
    rw [num_iff]
    refine ⟨he.symm, ?_⟩
    have hb := Lib.parseIntB_bounds h
    subst he
    unfold Lib.itoa at hs
    by_cases hn : n < 0
    · rw [if_pos hn] at hs
      have e : bodyL (45 :: Lib.decDigits n.natAbs) = Lib.decDigits n.natAbs := by simp [bodyL]
      rw [e] at hs
      have h2 := Lib.decFrom_lt _ 0 _ (decFrom_digits n.natAbs)
      have hp : 10 ^ (Lib.decDigits n.natAbs).length ≤ 10 ^ 18 := Nat.pow_le_pow_right (by decide) hs
      have e18 : (10 : Nat) ^ 18 = 1000000000000000000 := by decide
      omega
    · rw [if_neg hn] at hs
      have e : bodyL (Lib.decDigits n.toNat) = Lib.decDigits n.toNat := by
        unfold bodyL
        rw [if_neg (digits_not_minus _)]
      rw [e] at hs
      have h2 := Lib.decFrom_lt _ 0 _ (decFrom_digits n.toNat)
      have hp : 10 ^ (Lib.decDigits n.toNat).length ≤ 10 ^ 18 := Nat.pow_le_pow_right (by decide) hs
      have e18 : (10 : Nat) ^ 18 = 1000000000000000000 := by decide
      omega
  · intro h
    obtain ⟨he, h0, h1⟩ := num_form h
    refine ⟨?_, he.symm⟩
    rw [Lib.parseIntB_64]
    subst he
    unfold Lib.itoa
    by_cases hn : n < 0
    · rw [if_pos hn, Lib.atoiAll_minus, Lib.signed_short (digits_short (by omega)), decNat_ne (decDigits_ne _), decFrom_digits]
      simp only [Option.map_some, Lib.NumEnd.ofOption]
      congr 1
      omega
    · rw [if_neg hn]
      cases hd : Lib.decDigits n.toNat with
      | nil => exact (decDigits_ne _ hd).elim
      | cons c r =>
        have hc := digits_byte n.toNat c (by rw [hd]; simp)
        rw [Lib.atoiAll_plain c r (by omega) (by omega), ← hd, Lib.signless_short (digits_short (by omega)), decNat_ne (decDigits_ne _), decFrom_digits]
        simp only [Option.map_some, Lib.NumEnd.ofOption]
        congr 1
        omega
theorem num_body {l : List UInt8} {n : Int} (h : numL l = some n) : (bodyL l).length ≤ 18 := by
  unfold numL at h
  split at h
  · rename_i hc; exact hc.1
  · cases h
end Go.Proofs.YtimfpnmcdicldaaDoor
