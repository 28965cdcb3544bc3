/- The reference's cut of a text at a byte. -/
import Derived.Test.YtimfpnmcdicldaaDoorWords
import Derived.Test.YtimfpnmcdicldaaDoorNames
namespace Go.Proofs.YtimfpnmcdicldaaDoor
open Go Go.RowKit Go.Shelf
/-- The first piece with something ahead of it. -/
def headed (p : List UInt8) : List (List UInt8) → List (List UInt8)
  | [] => [p]
  | q :: qs => (p ++ q) :: qs
theorem headed_nil {c : UInt8} (l : List UInt8) : headed [] (spl c l) = spl c l := by
  cases h : spl c l with
  | nil => exact absurd h (spl_ne c l)
  | cons q qs => rfl
theorem headed_hit {c : UInt8} (p l : List UInt8) : headed p (spl c (c :: l)) = p :: spl c l := by
  rw [spl_hit]
  simp [headed]
theorem headed_miss {b c : UInt8} (h : b ≠ c) (p l : List UInt8) : headed p (spl c (b :: l)) = headed (p ++ [b]) (spl c l) := by
  cases hq : spl c l with
  | nil => exact absurd hq (spl_ne c l)
  | cons q qs =>
    rw [spl_miss h hq]
    simp [headed]
theorem headed_end {c : UInt8} (p : List UInt8) : headed p (spl c []) = [p] := by simp [spl, headed]
theorem spl_count (c : UInt8) : ∀ l, (spl c l).length = l.count c + 1
  | [] => rfl
  | b :: l => by
    by_cases h : b = c
    · subst h
      rw [spl_hit, List.length_cons, spl_count b l, List.count_cons_self]
    · cases hq : spl c l with
      | nil => exact absurd hq (spl_ne c l)
      | cons q qs =>
        have := spl_count c l
        rw [hq] at this
        rw [spl_miss h hq, List.length_cons, List.count_cons_of_ne h]
        simpa using this
theorem spl_free (c : UInt8) : ∀ l, ∀ p ∈ spl c l, c ∉ p
  | [], p, hp => by simp [spl] at hp; subst hp; simp
  | b :: l, p, hp => by
    by_cases h : b = c
    · subst h
      rw [spl_hit] at hp
      rcases List.mem_cons.1 hp with rfl | hp
      · simp
      · exact spl_free b l p hp
    · cases hq : spl c l with
      | nil => exact absurd hq (spl_ne c l)
      | cons q qs =>
        rw [spl_miss h hq] at hp
        have ih := spl_free c l
        rw [hq] at ih
        rcases List.mem_cons.1 hp with rfl | hp
        · intro hc
          rcases List.mem_cons.1 hc with e | hc
          · exact h e.symm
          · exact ih q (by simp) hc
        · exact ih p (by simp [hp])
/-- The pieces, joined again. -/
def glue (c : UInt8) : List (List UInt8) → List UInt8
  | [] => []
  | [p] => p
  | p :: q :: r => p ++ c :: glue c (q :: r)
theorem glue_cons (c : UInt8) (p : List UInt8) {ps : List (List UInt8)} (h : ps ≠ []) : glue c (p :: ps) = p ++ c :: glue c ps := by
  cases ps with
  | nil => exact absurd rfl h
  | cons q r => rfl
theorem glue_head (c b : UInt8) (p : List UInt8) (ps : List (List UInt8)) : glue c ((b :: p) :: ps) = b :: glue c (p :: ps) := by
  cases ps <;> rfl
theorem glue_spl (c : UInt8) : ∀ l, glue c (spl c l) = l
  | [] => rfl
  | b :: l => by
    by_cases h : b = c
    · subst h
      rw [spl_hit, glue_cons _ _ (spl_ne b l), glue_spl b l]
      rfl
    · cases hq : spl c l with
      | nil => exact absurd hq (spl_ne c l)
      | cons q qs =>
        rw [spl_miss h hq, glue_head, ← hq, glue_spl c l]
theorem pieces_count (c : UInt8) (s : ByteArray) : (pieces c s).length ≤ s.size + 1 := by
  unfold pieces
  rw [List.length_map, spl_count]
  have h1 := List.count_le_length (a := c) (l := s.data.toList)
  have h2 : s.data.toList.length = s.size := Array.length_toList
  omega
theorem pieces_le {c : UInt8} {s p : ByteArray} (h : p ∈ pieces c s) : p.size ≤ s.size := by
  have key : ∀ (l : List UInt8), ∀ q ∈ spl c l, q.length ≤ l.length := by
    intro l
    induction l with
    | nil => intro q hq; simp [spl] at hq; subst hq; simp
    | cons b l ih =>
      intro q hq
      by_cases h : b = c
      · subst h
        rw [spl_hit] at hq
        rcases List.mem_cons.1 hq with rfl | hq
        · simp
        · have := ih q hq; simp; omega
      · cases hs : spl c l with
        | nil => exact absurd hs (spl_ne c l)
        | cons p0 ps =>
          rw [spl_miss h hs] at hq
          rw [hs] at ih
          rcases List.mem_cons.1 hq with rfl | hq
          · have := ih p0 (by simp); simp; omega
          · have := ih q (by simp [hq]); simp; omega
  unfold pieces at h
  obtain ⟨l, hl, rfl⟩ := List.mem_map.1 h
  have := key _ l hl
  rw [Array.length_toList] at this
  exact this
/-- Texts as values. -/
def strs (ps : List ByteArray) : List Value := ps.map Value.string
def toB (l : List UInt8) : ByteArray := ⟨l.toArray⟩
theorem toB_data (s : ByteArray) : toB s.data.toList = s := by simp [toB]
/-- How far a text is cut. -/
def PInv (c : UInt8) (s : ByteArray) (P : List ByteArray) (a q : Nat) : Prop := pieces c s = P ++ (headed (s.extract a q).data.toList (spl c (s.data.toList.drop q))).map toB
theorem data_drop (s : ByteArray) (q : Nat) (h : q < s.size) : s.data.toList.drop q = s[q] :: s.data.toList.drop (q + 1) := by
  have hl : q < s.data.toList.length := by rw [Array.length_toList]; exact h
  rw [List.drop_eq_getElem_cons hl]
  rfl
theorem pinv_start (c : UInt8) (s : ByteArray) : PInv c s [] 0 0 := by
  unfold PInv pieces
  rw [Lib.extract_data]
  simp only [Nat.sub_self, List.take_zero, List.drop_zero, headed_nil, List.nil_append]
  rfl
theorem pinv_hit {c : UInt8} {s : ByteArray} {P : List ByteArray} {a q : Nat} (hq : q < s.size) (hb : s[q] = c) (h : PInv c s P a q) : PInv c s (P ++ [s.extract a q]) (q + 1) (q + 1) := by
  unfold PInv at h ⊢
  rw [h, data_drop s q hq, hb, headed_hit, List.map_cons, toB_data]
  have e : (s.extract (q + 1) (q + 1)).data.toList = [] := by rw [Lib.extract_data]; simp
  rw [e, headed_nil]
  simp
theorem pinv_miss {c : UInt8} {s : ByteArray} {P : List ByteArray} {a q : Nat} (haq : a ≤ q) (hq : q < s.size) (hb : s[q] ≠ c) (h : PInv c s P a q) : PInv c s P a (q + 1) := by
  unfold PInv at h ⊢
  rw [h, data_drop s q hq, headed_miss hb]
  have e : (s.extract a (q + 1)).data.toList = (s.extract a q).data.toList ++ [s[q]] := by
    rw [Lib.extract_data, Lib.extract_data, show q + 1 - a = (q - a) + 1 by omega, List.take_add_one]
    congr 1
    rw [List.getElem?_drop, show a + (q - a) = q by omega]
    have hl : q < s.data.toList.length := by rw [Array.length_toList]; exact hq
    rw [List.getElem?_eq_getElem hl]
    rfl
  rw [e]
theorem pinv_end {c : UInt8} {s : ByteArray} {P : List ByteArray} {a : Nat} (h : PInv c s P a s.size) : pieces c s = P ++ [s.extract a s.size] := by
  unfold PInv at h
  have hl : s.data.toList.drop s.size = [] := by
    rw [List.drop_eq_nil_iff, Array.length_toList]
    exact Nat.le_refl _
  rw [h, hl, headed_end, List.map_cons, toB_data]
  rfl
theorem byte_beq {a c : UInt8} : (((a.toNat : Int) == (c.toNat : Int)) = true) ↔ a = c := by
  rw [beq_iff_eq]
  constructor
  · intro h
    exact UInt8.toNat_inj.1 (by omega)
  · rintro rfl; rfl
theorem strs_snoc (P : List ByteArray) (x : ByteArray) : strs (P ++ [x]) = strs P ++ [.string x] := by simp [strs]
theorem strs_len (P : List ByteArray) : (strs P).length = P.length := by simp [strs]
set_option maxRecDepth 100000 in
set_option maxHeartbeats 4000000 in
theorem l01Split_c (c : UInt8) (s : ByteArray) (hs : s.size ≤ 1048576) (w : World) :
    Calls Tryd.prog 48 #[.string s, .int .u8 (c.toNat : Int)] w fun e w' => ∃ v, e = .returned v ∧ w'.ownsRow w.heap.size 9 1 v (pieces c s).length (strs (pieces c s)) ∧ Below w.heap.size w w' := by
  obtain ⟨i0, hi0, hz0, hz1, hz2⟩ := info_parts (show (Tryd.prog.info? 9).map (fun i => (i.zero, i.size, i.bytes)) = some (some (.string ByteArray.empty), 1, 16) by kernel_rfl)
  have hown0 : (w.alloc (.cells #[] 9)).ownsRow w.heap.size 9 1 (.slice (some ⟨w.heap.size, 0, none⟩) 0 0) 0 [] := ownsRow_at (cs := #[]) rfl (Nat.le_refl _) rfl (by omega) rfl
  go_enter Tryd.func48, Tryd.ntmps48
  go_wp2
  go_loopw [5, 6, 7] (fun v fr i wr => ∃ (P : List ByteArray) (a q : Nat), a ≤ q ∧ q ≤ s.size ∧ P.length ≤ q ∧ fr = .int .i64 a ∧ i = .int .i64 q ∧ Below w.heap.size w wr ∧ wr.ownsRow w.heap.size 9 1 v P.length (strs P) ∧ Hid (PInv c s P a q)) (fun _ _ i _ => s.size - (intOf i).toNat)
  case atStart => exact ⟨[], 0, 0, by omega, by omega, by simp, rfl, rfl, (by repeat (first | exact Below.refl _ _ | refine Below.alloc ?_ (by simp; try omega) _ | refine Below.drew ?_)), hown0, Lib.hid (pinv_start c s)⟩
  case round =>
    obtain ⟨P, a, q, haq, hq, hP, rfl, rfl, hbel, hown, hpc⟩ := hrel
    have HO := Lib.hid hown
    have HB := Lib.hid hbel
    have hsz := hbel.size
    clear hown hbel hown0
    by_cases hlt : q < s.size
    · cases hb : ((s[q].toNat : Int) == (c.toNat : Int))
      · have hm := Lib.hid (pinv_miss haq hlt (fun e => by rw [byte_beq.2 e] at hb; cases hb) hpc.out)
        clear hpc
        go_wp2
        go_roundw
        case rel => exact ⟨P, a, q + 1, by omega, by omega, by omega, rfl, by go_num, HB.out, HO.out, hm⟩
        case measure => simp [intOf]; omega
      · have hm := Lib.hid (pinv_hit hlt (byte_beq.1 hb) hpc.out)
        clear hpc
        go_wp2_with (at_builtin; refine wpList_append_own _ rfl _ _ 74 rfl w.heap.size 9 i0 (.string ByteArray.empty) 1 16 Tryd.underlying74 hi0 hz0 hz1 hz2 rfl (by decide) _ _ _ rfl (HO.out.alloc _) ⟨wr.heap.size, 0, none⟩ 1 1 [.string (s.extract a q)] rfl rfl (cell_one_new _ _ _) (one_string _) (by unfold maxLen; omega) (by omega) (le_alloc hsz _) ?_; intro v' w1 hown1 hgrow1 _)
        have HO1 := Lib.hid hown1
        have HG1 := Lib.hid hgrow1
        clear hown1 hgrow1
        go_roundw
        case rel => exact ⟨P ++ [s.extract a q], q + 1, q + 1, by omega, by omega, by simp; omega, by go_num, by go_num, own_next HB.out HO.out HG1.out, by rw [List.length_append, strs_snoc]; exact HO1.out, hm⟩
        case measure => simp [intOf]; omega
    · obtain rfl : q = s.size := by omega
      have hm := Lib.hid (pinv_end hpc.out)
      clear hpc
      go_wp2_with (at_builtin; refine wpList_append_own _ rfl _ _ 74 rfl w.heap.size 9 i0 (.string ByteArray.empty) 1 16 Tryd.underlying74 hi0 hz0 hz1 hz2 rfl (by decide) _ _ _ rfl (HO.out.alloc _) ⟨wr.heap.size, 0, none⟩ 1 1 [.string (s.extract a s.size)] rfl rfl (cell_one_new _ _ _) (one_string _) (by unfold maxLen; omega) (by omega) (le_alloc hsz _) ?_; intro v' w1 hown1 hgrow1 _)
      have HO1 := Lib.hid hown1
      have HG1 := Lib.hid hgrow1
      clear hown1 hgrow1
      go_ret
      exact ⟨_, rfl, by rw [hm.out, List.length_append, strs_snoc]; exact HO1.out, own_next HB.out HO.out HG1.out⟩
end Go.Proofs.YtimfpnmcdicldaaDoor
