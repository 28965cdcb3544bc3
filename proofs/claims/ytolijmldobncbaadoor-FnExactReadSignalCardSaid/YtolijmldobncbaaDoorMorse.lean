/- Morse: the signs of a letter. -/
import Derived.Test.YtolijmldobncbaaDoorPick
namespace Go.Proofs.YtolijmldobncbaaDoor
open Go.RowKit
set_option linter.unusedVariables false
/-- The signs of the 26 letters. -/
def codes : List ByteArray := [(⟨#[46, 45]⟩ : ByteArray), (⟨#[45, 46, 46, 46]⟩ : ByteArray), (⟨#[45, 46, 45, 46]⟩ : ByteArray), (⟨#[45, 46, 46]⟩ : ByteArray), (⟨#[46]⟩ : ByteArray), (⟨#[46, 46, 45, 46]⟩ : ByteArray), (⟨#[45, 45, 46]⟩ : ByteArray), (⟨#[46, 46, 46, 46]⟩ : ByteArray), (⟨#[46, 46]⟩ : ByteArray), (⟨#[46, 45, 45, 45]⟩ : ByteArray), (⟨#[45, 46, 45]⟩ : ByteArray), (⟨#[46, 45, 46, 46]⟩ : ByteArray), (⟨#[45, 45]⟩ : ByteArray), (⟨#[45, 46]⟩ : ByteArray), (⟨#[45, 45, 45]⟩ : ByteArray), (⟨#[46, 45, 45, 46]⟩ : ByteArray), (⟨#[45, 45, 46, 45]⟩ : ByteArray), (⟨#[46, 45, 46]⟩ : ByteArray), (⟨#[46, 46, 46]⟩ : ByteArray), (⟨#[45]⟩ : ByteArray), (⟨#[46, 46, 45]⟩ : ByteArray), (⟨#[46, 46, 46, 45]⟩ : ByteArray), (⟨#[46, 45, 45]⟩ : ByteArray), (⟨#[45, 46, 46, 45]⟩ : ByteArray), (⟨#[45, 46, 45, 45]⟩ : ByteArray), (⟨#[45, 45, 46, 46]⟩ : ByteArray)]
/-- The signs of a letter, for a byte; empty for others. -/
def codeB (b : Int) : ByteArray := pickS codes (b - 65)
theorem info_i64 : (Tryd.prog.info? 2).map (fun i => (i.zero, i.size, i.bytes)) = some (some (.int .i64 0), 1, 8) := by kernel_rfl
/-- Signs: dots and dashes, at most four. -/
def Signs (s : ByteArray) : Prop := s.size ≤ 4 ∧ ∀ i (h : i < s.size), s[i] = 46 ∨ s[i] = 45
theorem codes_signs : ∀ s ∈ codes, s.data.size ≤ 4 ∧ (s.data.toList.all fun c => c == 46 || c == 45) = true := by decide +kernel
theorem codeB_signs (b : Int) : Signs (codeB b) := by
  unfold codeB pickS
  split
  · rename_i h
    have hm : codes.getD (b - 65).toNat ⟨#[]⟩ ∈ codes := by
      rw [List.getD_eq_getElem?_getD, List.getElem?_eq_getElem (by omega)]
      exact List.getElem_mem _
    obtain ⟨h1, h2⟩ := codes_signs _ hm
    refine ⟨h1, fun i hi => ?_⟩
    have := List.all_eq_true.1 h2 (codes.getD (b - 65).toNat ⟨#[]⟩)[i] (by
      rw [← Array.mem_def] 
      exact Array.getElem_mem _)
    simpa using this
  · exact ⟨by decide, fun i hi => absurd hi (by simp [ByteArray.size])⟩
theorem codes_pos : ∀ s ∈ codes, 1 ≤ s.data.size := by decide +kernel
theorem codeB_pos {b : Int} (h0 : 65 ≤ b) (h1 : b ≤ 90) : 1 ≤ (codeB b).size := by
  have h : 0 ≤ b - 65 ∧ b - 65 < (codes.length : Int) := ⟨by omega, by show b - 65 < 26; omega⟩
  unfold codeB
  rw [pickS_in h, List.getD_eq_getElem?_getD, List.getElem?_eq_getElem (by omega)]
  exact codes_pos _ (List.getElem_mem _)
/-- How long a sign is, in tenths of a second. -/
def sgn (c : UInt8) : Int := if c = 46 then 5 else 15
def sgns (s : ByteArray) (k : Nat) : List Value := (s.data.toList.take k).map fun c => Value.int .i64 (sgn c)
theorem take_snoc (s : ByteArray) (k : Nat) (h : k < s.size) : s.data.toList.take (k + 1) = s.data.toList.take k ++ [s[k]] := by
  rw [List.take_succ_eq_append_getElem (by simpa using h)]; rfl
theorem sgns_succ (s : ByteArray) (k : Nat) (h : k < s.size) : sgns s (k + 1) = sgns s k ++ [.int .i64 (sgn s[k])] := by
  unfold sgns; rw [take_snoc s k h]; simp
theorem sgns_len (s : ByteArray) (k : Nat) (h : k ≤ s.size) : (sgns s k).length = k := by
  unfold sgns; simp; omega
set_option maxRecDepth 100000 in
set_option maxHeartbeats 4000000 in
theorem l05Morse_c (b : Int) (h0 : 65 ≤ b) (h1 : b ≤ 90) (w : World) :
    Calls Tryd.prog 82 #[.int .u8 b] w fun e w' => ∃ v, e = .returned v ∧ w'.ownsRow w.heap.size 2 1 v (codeB b).size (sgns (codeB b) (codeB b).size) ∧ Below w.heap.size w w' := by
  obtain ⟨i0, hi0, hz0, hz1, hz2⟩ := info_parts info_i64
  have hi := row_getS (ss := codes) (k := b - 65) ⟨by omega, by show b - 65 < 26; omega⟩
  rw [show pickS codes (b - 65) = codeB b from rfl] at hi
  simp only [codes, List.map] at hi
  have hsg := codeB_signs b
  generalize codeB b = s at *
  have hs4 := hsg.1
  clear hsg
  go_enter Tryd.func82, Tryd.ntmps82
  go_wp2
  go_loopw [5, 6] (fun v i wr => ∃ k : Nat, k ≤ s.size ∧ i = .int .i64 k ∧ wr.ownsRow w.heap.size 2 1 v k (sgns s k) ∧ Below w.heap.size w wr) (fun _ i _ => s.size - (intOf i).toNat)
  case atStart =>
    exact ⟨0, by omega, rfl, ownsRow_at (by simp) (le_alloc (Nat.le_refl _) _) rfl (by omega) rfl, (((Below.refl _ _).alloc (Nat.le_refl _) _).alloc (by simp) _)⟩
  case round =>
    obtain ⟨k, hk, rfl, hown, hbel⟩ := hrel
    clear hi h0 h1
    by_cases hlt : k < s.size
    · have hsx : s[k] = 46 ∨ s[k] ≠ 46 := Decidable.em _
      rcases hsx with he | he
      · have hb : ((s[k].toNat : Int) == 46) = true := by rw [he]; rfl
        have HE := Lib.hid he
        clear he
        have q4 : (k + 1) * 8 ≤ 140737488355328 := by omega
        go_wp2_with (at_builtin; refine wpList_append_own _ rfl (.tmp 24) (.tmp 25) 33 rfl w.heap.size 2 i0 (.int .i64 0) 1 8 Tryd.underlying33 hi0 hz0 hz1 hz2 rfl (by decide) _ _ _ rfl (hown.alloc _) ⟨wr.heap.size, 0, none⟩ 1 1 [.int .i64 5] rfl rfl (cell_one_new _ _ _) (one_int _ _) (small_row (by omega)) q4 (le_alloc hbel.size _) ?_; intro v' w1 hown1 hgrow1 _)
        have hs1 : sgn s[k] = 5 := by unfold sgn; rw [if_pos HE.out]
        go_roundw
        case rel => exact ⟨k + 1, by omega, by go_num, by rw [sgns_succ s k hlt, hs1]; exact hown1, own_next hbel hown hgrow1⟩
        case measure => simp [intOf]; omega
      · have hb : ((s[k].toNat : Int) == 46) = false := by
          have : s[k].toNat ≠ 46 := fun e => he (UInt8.toNat_inj.1 e)
          simp; omega
        have HE := Lib.hid he
        clear he
        have q4 : (k + 1) * 8 ≤ 140737488355328 := by omega
        go_wp2_with (at_builtin; refine wpList_append_own _ rfl (.tmp 27) (.tmp 28) 33 rfl w.heap.size 2 i0 (.int .i64 0) 1 8 Tryd.underlying33 hi0 hz0 hz1 hz2 rfl (by decide) _ _ _ rfl (hown.alloc _) ⟨wr.heap.size, 0, none⟩ 1 1 [.int .i64 15] rfl rfl (cell_one_new _ _ _) (one_int _ _) (small_row (by omega)) q4 (le_alloc hbel.size _) ?_; intro v' w1 hown1 hgrow1 _)
        have hs1 : sgn s[k] = 15 := by unfold sgn; rw [if_neg HE.out]
        go_roundw
        case rel => exact ⟨k + 1, by omega, by go_num, by rw [sgns_succ s k hlt, hs1]; exact hown1, own_next hbel hown hgrow1⟩
        case measure => simp [intOf]; omega
    · obtain rfl : k = s.size := by omega
      go_wp2
      go_ret
      exact ⟨_, rfl, hown, hbel⟩
theorem sgns_at (s : ByteArray) (i : Nat) (h : i < s.size) : (sgns s s.size)[i]? = some (.int .i64 (sgn s[i])) := by
  have h' : i < s.data.toList.length := by rw [Array.length_toList]; exact h
  unfold sgns
  rw [List.take_of_length_le (by rw [Array.length_toList]; exact Nat.le_refl _), List.getElem?_map, List.getElem?_eq_getElem h']
  rfl
/-- The signs lie in a block of the call's own. -/
theorem l05Morse_c2 (b : Int) (h0 : 65 ≤ b) (h1 : b ≤ 90) (s : ByteArray) (hs : codeB b = s) (w : World) :
    Calls Tryd.prog 82 #[.int .u8 b] w fun e w' => ∃ g cap, e = .returned (.slice (some ⟨g, 0, none⟩) s.size cap) ∧ (∀ i (h : i < s.size), w'.cell? ⟨g, i, none⟩ = some (.int .i64 (sgn s[i]))) ∧ Below w.heap.size w w' := by
  subst hs
  refine (l05Morse_c b h0 h1 w).mono ?_
  rintro e w' ⟨v, rfl, hown, hb⟩
  obtain ⟨g, cap, rfl⟩ := Go.Joins.ownsRow_form hown (codeB_pos h0 h1)
  exact ⟨g, cap, rfl, fun i h => (hown.cellAt i (by omega)).trans (sgns_at _ i h), hb⟩
/-- The signs of a letter, as far as k. -/
def codeTo (s : ByteArray) (k : Nat) : ByteArray := ⟨(s.data.toList.take k).toArray⟩
theorem codeTo_all (s : ByteArray) : codeTo s s.size = s := by
  unfold codeTo
  rw [List.take_of_length_le (by show s.data.toList.length ≤ s.data.size; rw [Array.length_toList]; exact Nat.le_refl _), Array.toArray_toList]
theorem codeTo_size (s : ByteArray) (k : Nat) : (codeTo s k).size ≤ s.size := by
  show (s.data.toList.take k).toArray.size ≤ s.data.size
  simp only [List.size_toArray, List.length_take, Array.length_toList]
  omega
theorem codeTo_succ (s : ByteArray) (k : Nat) (h : k < s.size) (c : UInt8) (hc : s[k] = c) : codeTo s k ++ ⟨#[c]⟩ = codeTo s (k + 1) := by
  unfold codeTo
  rw [take_snoc s k h, hc]
  apply ByteArray.ext
  simp
set_option maxRecDepth 100000 in
set_option maxHeartbeats 4000000 in
theorem l07Code_c (b : Int) (h0 : 65 ≤ b) (h1 : b ≤ 90) (w : World) :
    Calls Tryd.prog 52 #[.int .u8 b] w fun e w' => e = .returned (.string (codeB b)) ∧ Below w.heap.size w w' := by
  have hsg := codeB_signs b
  have HM := Lib.hid (fun W => l05Morse_c2 b h0 h1 _ rfl W)
  generalize codeB b = s at *
  have hs4 := hsg.1
  have HS := Lib.hid hsg.2
  clear hsg
  go_enter Tryd.func52, Tryd.ntmps52
  go_wp2_with fail
  refine (HM.out w).mono ?_
  rintro e w1 ⟨g, cap, rfl, hcell, hbel⟩
  have HC := Lib.hid hcell
  clear hcell
  go_wp2
  go_loop [4, 5] (fun o i => ∃ k : Nat, k ≤ s.size ∧ i = .int .i64 k ∧ o = .string (codeTo s k)) (fun _ i => s.size - (intOf i).toNat)
  case atStart => exact ⟨0, by omega, rfl, rfl⟩
  case round =>
    clear h0 h1
    obtain ⟨k, hk, rfl, rfl⟩ := hrel
    by_cases hlt : k < s.size
    · have hc := HC.out k hlt
      have hz : (codeTo s k).size ≤ 4 := Nat.le_trans (codeTo_size s k) hs4
      rcases HS.out k hlt with he | he
      · rw [show sgn s[k] = 5 by unfold sgn; rw [if_pos he]] at hc
        have hn := codeTo_succ s k hlt 46 he
        have HN := Lib.hid hn
        clear hn he
        go_wp2
        go_round
        case rel => exact ⟨k + 1, by omega, by go_num, by rw [← HN.out]⟩
        case measure => simp [intOf]; omega
      · rw [show sgn s[k] = 15 by unfold sgn; rw [if_neg (by rw [he]; decide)]] at hc
        have hn := codeTo_succ s k hlt 45 he
        have HN := Lib.hid hn
        clear hn he
        go_wp2
        go_round
        case rel => exact ⟨k + 1, by omega, by go_num, by rw [← HN.out]⟩
        case measure => simp [intOf]; omega
    · obtain rfl : k = s.size := by omega
      have ha := codeTo_all s
      go_wp2
      go_ret
      exact ⟨rfl, hbel⟩
/-- The signs of a text that is one letter, empty for others. -/
def sigS (s : ByteArray) : ByteArray := if s.size = 1 then codeB (s.data.toList.headD 0).toNat else ⟨#[]⟩
theorem info_str : (Tryd.prog.info? 9).map (fun i => (i.zero, i.size, i.bytes)) = some (some (.string ⟨#[]⟩), 1, 16) := by kernel_rfl
theorem codeB_out {b : Int} (h : b < 65 ∨ 90 < b) : codeB b = ⟨#[]⟩ := pickS_out (by
  intro g
  have : b - 65 < 26 := g.2
  omega)
theorem one_byte {s : ByteArray} (h : s.size = 1) : ∃ c : UInt8, s = ⟨#[c]⟩ := by
  obtain ⟨⟨l⟩⟩ := s
  match l, h with
  | [c], _ => exact ⟨c, rfl⟩
set_option maxRecDepth 100000 in
set_option maxHeartbeats 4000000 in
theorem signsOf_c (s : ByteArray) (hs : (s.size : Int) ≤ 9223372036854775807) (w : World) :
    Calls Tryd.prog 55 #[.string s] w fun e w' => e = .returned (.string (sigS s)) ∧ w = w' := by
  by_cases h1 : s.size = 1
  · obtain ⟨c, rfl⟩ := one_byte h1
    have hr : sigS ⟨#[c]⟩ = codeB c.toNat := rfl
    rw [hr]
    clear hr hs h1
    by_cases hlo : c.toNat < 65
    · have b1 : Op.bytesLess [c] [65] = true := by rw [bytesLess_one]; simpa [UInt8.lt_iff_toNat_lt] using hlo
      have HO := Lib.hid (codeB_out (b := c.toNat) (by omega))
      rw [HO.out]
      clear hlo HO
      go_enter Tryd.func55, Tryd.ntmps55
      go_wp2
      go_ret
      exact ⟨rfl, rfl⟩
    · have b1 : Op.bytesLess [c] [65] = false := by rw [bytesLess_one]; simp [UInt8.lt_iff_toNat_lt]; omega
      by_cases hhi : 90 < c.toNat
      · have b2 : Op.bytesLess [c] [90] = false := by rw [bytesLess_one]; simp [UInt8.lt_iff_toNat_lt]; omega
        have b3 : (c == 90) = false := by
          have : c ≠ 90 := fun e => by rw [e] at hhi; exact absurd hhi (by decide)
          simpa using this
        have HO := Lib.hid (codeB_out (b := c.toNat) (by omega))
        rw [HO.out]
        clear hlo hhi HO
        go_enter Tryd.func55, Tryd.ntmps55
        go_wp2
        go_ret
        exact ⟨rfl, rfl⟩
      · obtain ⟨i0, hi0, hz0, hz1, hz2⟩ := info_parts info_str
        have b0 : (!Op.bytesLess [c] [90] && !(c == 90)) = false := by
          rw [bytesLess_one]
          by_cases e : c = 90
          · simp [e]
          · have : c < 90 := by
              rw [UInt8.lt_iff_toNat_lt]
              have : c.toNat ≠ 90 := fun h => e (UInt8.toNat_inj.1 h)
              show c.toNat < 90
              omega
            simp [this]
        have hi := row_getS (ss := codes) (k := (c.toNat : Int) - 65) ⟨by omega, by show (c.toNat : Int) - 65 < 26; omega⟩
        have hx := fun w => run_index_array_in (P := Tryd.prog) (k := .u8) (i := (c.toNat : Int) - 65) (cs := (codes.map Value.string).toArray) Tryd.underlying92 hi0 hz1 (fun w => by kernel_rfl) (by omega) (by omega) (by rw [List.getElem?_toArray]; exact hi) w
        rw [show pickS codes ((c.toNat : Int) - 65) = codeB c.toNat from rfl] at hx
        simp only [codes, List.map] at hx
        clear hi hi0 hz0 hz1 hz2
        have g0 : 65 ≤ (c.toNat : Int) := by omega
        have g1 : (c.toNat : Int) ≤ 90 := by omega
        have hbe : (⟨#[c]⟩ : ByteArray)[0]'(Nat.zero_lt_one) = c := rfl
        have hmm : ((c.toNat : Int) - 65) % 256 = (c.toNat : Int) - 65 := by omega
        generalize codeB c.toNat = r at *
        go_enter Tryd.func55, Tryd.ntmps55
        go_wp2
        go_ret
        exact ⟨rfl, rfl⟩
  · have hr : sigS s = ⟨#[]⟩ := if_neg h1
    rw [hr]
    clear hr
    have h1' : ((s.size : Int) == 1) = false := by simp; omega
    go_enter Tryd.func55, Tryd.ntmps55
    go_wp2
    go_ret
    exact ⟨rfl, rfl⟩
end Go.Proofs.YtolijmldobncbaaDoor
