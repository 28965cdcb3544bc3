/- Reading fog signals: the plain law. No function of the program is walked here. -/
import Derived.Test.YtimfpnmcdicldaaDoorFogT
import Derived.Test.YtimfpnmcdicldaaDoorNumR
import Derived.Test.YtimfpnmcdicldaaDoorSplitW
namespace Go.Proofs.YtimfpnmcdicldaaDoor
open Go Go.RowKit Go.Shelf
/-! Texts without a byte, cut. -/
theorem spl_none {c : UInt8} : ∀ (p : List UInt8), c ∉ p → spl c p = [p]
  | [], _ => rfl
  | b :: t, h => by
    have hb : b ≠ c := fun e => h (by rw [e]; simp)
    rw [spl_miss hb (spl_none t (fun hc => h (by simp [hc])))]
theorem spl_app {c : UInt8} : ∀ (p r : List UInt8), c ∉ p → spl c (p ++ c :: r) = p :: spl c r
  | [], r, _ => by rw [List.nil_append, spl_hit]
  | b :: t, r, h => by
    have hb : b ≠ c := fun e => h (by rw [e]; simp)
    rw [List.cons_append, spl_miss hb (spl_app t r (fun hc => h (by simp [hc])))]
theorem index_none1 {c : UInt8} : ∀ (p : List UInt8), c ∉ p → Lib.index p [c] = -1
  | [], _ => by simp [Lib.index]
  | b :: t, h => by
    have hb : ¬ c = b := fun e => h (by rw [e]; simp)
    have ih := index_none1 (c := c) t (fun hc => h (List.mem_cons_of_mem _ hc))
    rw [Lib.index]
    simp [List.isPrefixOf, hb, ih]
theorem index_app1 {c : UInt8} : ∀ (p r : List UInt8), c ∉ p → Lib.index (p ++ c :: r) [c] = (p.length : Int)
  | [], r, _ => by
    rw [List.nil_append, Lib.index]
    simp [List.isPrefixOf]
  | b :: t, r, h => by
    have hb : ¬ c = b := fun e => h (by rw [e]; simp)
    have ih := index_app1 (c := c) t r (fun hc => h (List.mem_cons_of_mem _ hc))
    rw [List.cons_append, Lib.index]
    have h1 : ¬ ((t.length : Int) = -1) := by omega
    simp [List.isPrefixOf, hb, ih, h1]
theorem cut_none {c : UInt8} {p : List UInt8} (h : c ∉ p) : Lib.cut p [c] = (p, [], false) := by
  unfold Lib.cut
  rw [index_none1 p h, if_neg (by omega)]
theorem cut_app {c : UInt8} {p r : List UInt8} (h : c ∉ p) : Lib.cut (p ++ c :: r) [c] = (p, r, true) := by
  unfold Lib.cut
  rw [index_app1 p r h, if_pos (by omega)]
  have e : ((p.length : Int)).toNat = p.length := by omega
  rw [e]
  simp
theorem cut_le (p q : List UInt8) : (Lib.cut p q).1.length ≤ p.length ∧ (Lib.cut p q).2.1.length ≤ p.length := by
  unfold Lib.cut
  split
  · simp only [List.length_take, List.length_drop]
    omega
  · simp
theorem trimS_app (p : List UInt8) (c : UInt8) : Lib.trimSuffix (p ++ [c]) [c] = p := by
  unfold Lib.trimSuffix Lib.hasSuffix
  have h : [c].isSuffixOf (p ++ [c]) = true := by
    rw [List.isSuffixOf_iff_suffix]
    exact List.suffix_append _ _
  rw [if_pos h]
  simp
theorem trimS_le (p q : List UInt8) : (Lib.trimSuffix p q).length ≤ p.length := by
  unfold Lib.trimSuffix
  split
  · rw [List.length_take]; omega
  · exact Nat.le_refl _
/-! The texts of numbers, seconds, heads. -/
theorem dec_bytes {n : Int} (h : 0 ≤ n) : ∀ c ∈ (dec n).data.toList, 48 ≤ c.toNat ∧ c.toNat ≤ 57 := by
  intro c hc
  have e : (dec n).data.toList = Lib.decDigits n.toNat := by
    show (Lib.itoa n).toArray.toList = _
    unfold Lib.itoa
    rw [if_neg (by omega)]
  rw [e] at hc
  exact digits_byte _ c hc
theorem dec_free {n : Int} (h : 0 ≤ n) {c : UInt8} (hc : c.toNat < 48 ∨ 57 < c.toNat) : c ∉ (dec n).data.toList := fun hm => by
  have := dec_bytes h c hm
  omega
theorem num_dec {n : Int} (h0 : -1000000000000000000 < n) (h1 : n < 1000000000000000000) : num (dec n) = some n := num_itoa h0 h1
theorem dec_inj {n m : Int} (h0 : 0 ≤ n ∧ n ≤ 1000000) (h1 : 0 ≤ m ∧ m ≤ 1000000) (h : dec n = dec m) : n = m := by
  have a := num_dec (n := n) (by omega) (by omega)
  have b := num_dec (n := m) (by omega) (by omega)
  rw [h, b] at a
  exact (Option.some.inj a).symm
theorem num_of_dec {s : ByteArray} {n : Int} (h : num s = some n) : s = dec n := by
  have := (num_form h).1
  apply ByteArray.ext
  apply Array.toList_inj.1
  exact this
theorem sec_data (p : Int) : (secT p).data.toList = if p % 10 = 0 then (dec (p / 10)).data.toList else (dec (p / 10)).data.toList ++ 46 :: (dec (p % 10)).data.toList := by
  unfold secT
  split
  · rfl
  · simp [ByteArray.data_append]
theorem sec_free {p : Int} (h : 0 ≤ p) {c : UInt8} (hc : c.toNat < 46 ∨ 57 < c.toNat) : c ∉ (secT p).data.toList := by
  rw [sec_data]
  have h1 : c ∉ (dec (p / 10)).data.toList := dec_free (by omega) (by omega)
  have h2 : c ∉ (dec (p % 10)).data.toList := dec_free (by omega) (by omega)
  split
  · exact h1
  · rw [List.mem_append, List.mem_cons]
    rintro (h | h | h)
    · exact h1 h
    · subst h
      have : (46 : UInt8).toNat = 46 := rfl
      omega
    · exact h2 h
theorem sec_inj {p q : Int} (h0 : 0 ≤ p ∧ p ≤ 1200) (h1 : 0 ≤ q ∧ q ≤ 1200) (h : secT p = secT q) : p = q := by
  have e : (secT p).data.toList = (secT q).data.toList := by rw [h]
  rw [sec_data, sec_data] at e
  have f1 : (46 : UInt8) ∉ (dec (p / 10)).data.toList := dec_free (by omega) (.inl (by decide))
  have f2 : (46 : UInt8) ∉ (dec (q / 10)).data.toList := dec_free (by omega) (.inl (by decide))
  have g1 : (46 : UInt8) ∉ (dec (p % 10)).data.toList := dec_free (by omega) (.inl (by decide))
  have g2 : (46 : UInt8) ∉ (dec (q % 10)).data.toList := dec_free (by omega) (.inl (by decide))
  have toEq : ∀ {a b : Int}, (dec a).data.toList = (dec b).data.toList → dec a = dec b := fun h => ByteArray.ext (Array.toList_inj.1 h)
  by_cases hp : p % 10 = 0 <;> by_cases hq : q % 10 = 0
  · rw [if_pos hp, if_pos hq] at e
    have := dec_inj (by omega) (by omega) (toEq e)
    omega
  · rw [if_pos hp, if_neg hq] at e
    exact (f1 (by rw [e]; simp)).elim
  · rw [if_neg hp, if_pos hq] at e
    exact (f2 (by rw [← e]; simp)).elim
  · rw [if_neg hp, if_neg hq] at e
    have e2 := congrArg (spl 46) e
    rw [spl_app _ _ f1, spl_app _ _ f2, spl_none _ g1, spl_none _ g2] at e2
    simp only [List.cons.injEq, and_true] at e2
    have a := dec_inj (by omega) (by omega) (toEq e2.1)
    have b := dec_inj (by omega) (by omega) (toEq e2.2)
    omega
theorem fogName_bytes {k : Int} (hk : 1 ≤ k ∧ k ≤ 4) : ∀ c ∈ (pickS fogNames k).data.toList, 65 ≤ c.toNat := by
  rcases four_cases hk with rfl | rfl | rfl | rfl <;> decide +kernel
theorem fogName_inj {k j : Int} (hk : 1 ≤ k ∧ k ≤ 4) (hj : 1 ≤ j ∧ j ≤ 4) (h : pickS fogNames k = pickS fogNames j) : k = j := by
  rcases four_cases hk with rfl | rfl | rfl | rfl <;> rcases four_cases hj with rfl | rfl | rfl | rfl <;> first | rfl | (exfalso; revert h; decide +kernel)
theorem head_data (k b : Int) : (fogHead k b).data.toList = if 1 < b then (pickS fogNames k).data.toList ++ 40 :: ((dec b).data.toList ++ [41]) else (pickS fogNames k).data.toList := by
  unfold fogHead
  split
  · simp [ByteArray.data_append]
  · rfl
theorem head_free {k b : Int} (hk : 1 ≤ k ∧ k ≤ 4) (hb : 1 ≤ b ∧ b ≤ 6) : (32 : UInt8) ∉ (fogHead k b).data.toList := by
  have h1 : ∀ c : UInt8, c.toNat < 65 → c ∉ (pickS fogNames k).data.toList := fun c hc hm => by have := fogName_bytes hk c hm; omega
  have h2 : (32 : UInt8) ∉ (dec b).data.toList := dec_free (by omega) (.inl (by decide))
  rw [head_data]
  split
  · intro h
    simp only [List.mem_append, List.mem_cons, List.not_mem_nil, or_false] at h
    rcases h with h | h | h | h
    · exact h1 32 (by decide) h
    · exact absurd h (by decide)
    · exact h2 h
    · exact absurd h (by decide)
  · exact h1 32 (by decide)
theorem name_free {k : Int} (hk : 1 ≤ k ∧ k ≤ 4) : (40 : UInt8) ∉ (pickS fogNames k).data.toList := fun hm => by
  have := fogName_bytes hk 40 hm
  exact absurd this (by decide)
theorem head_inj {k b j c : Int} (hk : 1 ≤ k ∧ k ≤ 4) (hb : 1 ≤ b ∧ b ≤ 6) (hj : 1 ≤ j ∧ j ≤ 4) (hc : 1 ≤ c ∧ c ≤ 6) (h : fogHead k b = fogHead j c) : k = j ∧ b = c := by
  have e : (fogHead k b).data.toList = (fogHead j c).data.toList := by rw [h]
  rw [head_data, head_data] at e
  have f1 := name_free hk
  have f2 := name_free hj
  have toEq : (pickS fogNames k).data.toList = (pickS fogNames j).data.toList → k = j := fun h => fogName_inj hk hj (ByteArray.ext (Array.toList_inj.1 h))
  by_cases hp : 1 < b <;> by_cases hq : 1 < c
  · rw [if_pos hp, if_pos hq] at e
    have e2 := congrArg (Lib.cut · [40]) e
    simp only [cut_app f1, cut_app f2, Prod.mk.injEq, and_true] at e2
    refine ⟨toEq e2.1, dec_inj (by omega) (by omega) (ByteArray.ext (Array.toList_inj.1 ?_))⟩
    have := e2.2
    exact List.append_cancel_right this
  · rw [if_pos hp, if_neg hq] at e
    exact (f2 (by rw [← e]; simp)).elim
  · rw [if_neg hp, if_pos hq] at e
    exact (f1 (by rw [e]; simp)).elim
  · rw [if_neg hp, if_neg hq] at e
    exact ⟨toEq e, by omega⟩
/-! The text of a fog signal, cut at the blanks. -/
def FogOf (s : ByteArray) (k b p pw : Int) : Prop := okFog k b p pw = true ∧ fogTxt k b p pw = s
theorem fog_data (k b p pw : Int) : (fogTxt k b p pw).data.toList = (fogHead k b).data.toList ++ 32 :: (((secT p).data.toList ++ [115]) ++ 32 :: (dec pw).data.toList) := by
  unfold fogTxt
  simp [ByteArray.data_append]
theorem fog_pieces {k b p pw : Int} (h : okFog k b p pw = true) : pieces 32 (fogTxt k b p pw) = [fogHead k b, secT p ++ (⟨#[115]⟩ : ByteArray), dec pw] := by
  obtain ⟨hk, hb, hp, hpw⟩ := okFog_yes h
  have h1 := head_free hk hb
  have h2 : (32 : UInt8) ∉ (secT p).data.toList ++ [115] := by
    rw [List.mem_append]
    rintro (h | h)
    · exact sec_free hp.1 (.inl (by decide)) h
    · revert h; decide
  have h3 : (32 : UInt8) ∉ (dec pw).data.toList := dec_free (by omega) (.inl (by decide))
  unfold pieces
  rw [fog_data, spl_app _ _ h1, spl_app _ _ h2, spl_none _ h3]
  simp only [List.map_cons, List.map_nil]
  have e : (⟨((secT p).data.toList ++ [115]).toArray⟩ : ByteArray) = secT p ++ (⟨#[115]⟩ : ByteArray) := by
    apply ByteArray.ext
    apply Array.toList_inj.1
    rw [ByteArray.data_append, Array.toList_append]
  rw [e]
theorem fogOf_pieces {s : ByteArray} {k b p pw : Int} (h : FogOf s k b p pw) : pieces 32 s = [fogHead k b, secT p ++ (⟨#[115]⟩ : ByteArray), dec pw] := by
  rw [← h.2]
  exact fog_pieces h.1
theorem fogOf_of {s : ByteArray} {k b p pw : Int} (h : okFog k b p pw = true) (hp : pieces 32 s = [fogHead k b, secT p ++ (⟨#[115]⟩ : ByteArray), dec pw]) : FogOf s k b p pw := by
  refine ⟨h, ?_⟩
  have e : (pieces 32 s).map (·.data.toList) = spl 32 s.data.toList := by
    unfold pieces
    rw [List.map_map]
    conv => rhs; rw [← List.map_id (spl 32 s.data.toList)]
    rfl
  have e2 := glue_spl 32 s.data.toList
  rw [← e, hp] at e2
  apply ByteArray.ext
  apply Array.toList_inj.1
  rw [fog_data, ← e2]
  simp [glue, ByteArray.data_append]
theorem fogOf_inj {s : ByteArray} {k b p pw k' b' p' pw' : Int} (h : FogOf s k b p pw) (h' : FogOf s k' b' p' pw') : k = k' ∧ b = b' ∧ p = p' ∧ pw = pw' := by
  have e := (fogOf_pieces h).symm.trans (fogOf_pieces h')
  simp only [List.cons.injEq, and_true] at e
  obtain ⟨hk, hb, hp, hpw⟩ := okFog_yes h.1
  obtain ⟨hk', hb', hp', hpw'⟩ := okFog_yes h'.1
  obtain ⟨e1, e2, e3⟩ := e
  obtain ⟨a1, a2⟩ := head_inj hk hb hk' hb' e1
  refine ⟨a1, a2, sec_inj hp hp' ?_, dec_inj (by omega) (by omega) e3⟩
  have := congrArg (fun x : ByteArray => x.data.toList) e2
  simp only [ByteArray.data_append, Array.toList_append] at this
  exact ByteArray.ext (Array.toList_inj.1 (List.append_cancel_right this))
/-- What ReadFog answers. -/
def FogPost (s : ByteArray) (w : World) (e : Ending) (w' : World) : Prop :=
  Below w.heap.size w w' ∧ ((∃ k b p pw, FogOf s k b p pw ∧ e = .returned (.tuple #[.agg #[.int .i64 k, .int .i64 b, .int .i64 p, .int .i64 pw], .bool true])) ∨
    ((∀ k b p pw, ¬ FogOf s k b p pw) ∧ e = .returned (.tuple #[.agg #[.int .i64 0, .int .i64 0, .int .i64 0, .int .i64 0], .bool false])))
end Go.Proofs.YtimfpnmcdicldaaDoor
