/- The letter with some signs: contracts of the program's and of the reference's functions. -/
import Derived.Test.YtolijmldobncbaaDoorMorseOf
import Derived.Lib.OthersKept
namespace Go.Proofs.YtolijmldobncbaaDoor
open Go.RowKit
set_option linter.unusedVariables false
def cN (n : Nat) : ByteArray := codeB (65 + (n : Int))
/-- What is known of a letter by its signs: none of the first n has them; or the n-th is the first that has. -/
def NoCode (s : ByteArray) (n : Nat) : Prop := ∀ m, m < n → ((cN m).toList == s.toList) = false
def FirstCode (s : ByteArray) (n : Nat) : Prop := n < 26 ∧ ((cN n).toList == s.toList) = true ∧ NoCode s n
theorem NoCode.up {s : ByteArray} {n : Nat} (h : NoCode s n) (h2 : ((cN n).toList == s.toList) = false) : NoCode s (n + 1) := fun m hm => by
  by_cases e : m = n
  · rw [e]; exact h2
  · exact h m (by omega)
theorem code_or {s : ByteArray} : ∀ k, k ≤ 26 → (NoCode s k ∨ ∃ n, FirstCode s n)
  | 0, _ => .inl (fun m hm => by omega)
  | k + 1, hk => by
    rcases code_or (s := s) k (by omega) with h | h
    · cases hv : ((cN k).toList == s.toList)
      · exact .inl (h.up hv)
      · exact .inr ⟨k, by omega, hv, h⟩
    · exact .inr h
/-- The n-th letter as a text. -/
def letN (n : Nat) : ByteArray := ⟨#[UInt8.ofNat (65 + n)]⟩
theorem letN_byte {n : Nat} (h : n < 26) : ((UInt8.ofNat (65 + n)).toNat : Int) = 65 + (n : Int) := by
  rw [UInt8.toNat_ofNat']
  omega
theorem letter_back {n : Nat} (h : n < 26) (W : World) : (convert 62 9 (.slice (some ⟨W.heap.size, 0, none⟩) 1 1)).run Tryd.prog (W.alloc (.cells #[.int .u8 (65 + (n : Int))] 5)) = .ok (.string (letN n)) (W.alloc (.cells #[.int .u8 (65 + (n : Int))] 5)) := by
  refine run_convert_bytes_back (P := Tryd.prog) _ _ _ 5 ⟨W.heap.size, 0, none⟩ 1 [UInt8.ofNat (65 + n)] Tryd.underlying62 Tryd.underlying5 Tryd.underlying9 ?_
  intro j hj
  obtain rfl : j = 0 := by simpa using hj
  show (W.alloc _).cell? ⟨W.heap.size, 0, none⟩ = _
  rw [cell_new]
  simp only [List.getElem_cons_zero, letN_byte h]
  rfl
set_option maxHeartbeats 2000000 in
theorem l07Find_no (s : ByteArray) (hn : NoCode s 26) (w : World) :
    Calls Tryd.prog 70 #[.string s] w fun e w' => e = .returned (.string ⟨#[]⟩) ∧ Below w.heap.size w w' := by
  have HN := Lib.hid hn
  clear hn
  go_enter Tryd.func70, Tryd.ntmps70
  go_wp2
  go_loopw [3] (fun i wr => ∃ (k : Nat) (x : Aft w), k ≤ 26 ∧ i = .int .u8 (65 + (k : Int)) ∧ wr = x.w1) (fun i _ => (91 - intOf i).toNat)
  case atStart => exact ⟨0, ⟨w, Below.refl _ _⟩, by omega, rfl, rfl⟩
  case round =>
    obtain ⟨k, x, r0, rfl, rfl⟩ := hrel
    by_cases hlt : k < 26
    · have hne : ((codeB (65 + (k : Int))).toList == s.toList) = false := HN.out k hlt
      go_wp2_with (go_at_call 52; refine (Aft.call (l07Code_c _ (by omega) (by omega) _)).mono ?_; rintro e _ ⟨rfl, y, rfl⟩)
      go_roundw
      case rel => exact ⟨k + 1, _, by omega, by go_num, rfl⟩
      case measure => simp [intOf]; omega
    · go_wp2
      go_ret
      exact ⟨rfl, x.below⟩
set_option maxRecDepth 100000 in
set_option maxHeartbeats 2000000 in
theorem l07Find_yes (s : ByteArray) (n : Nat) (hn : FirstCode s n) (w : World) :
    Calls Tryd.prog 70 #[.string s] w fun e w' => e = .returned (.string (letN n)) ∧ Below w.heap.size w w' := by
  have h26 := hn.1
  have HN := Lib.hid hn
  clear hn
  go_enter Tryd.func70, Tryd.ntmps70
  go_wp2
  go_loopw [3] (fun i wr => ∃ (k : Nat) (x : Aft w), k ≤ n ∧ i = .int .u8 (65 + (k : Int)) ∧ wr = x.w1) (fun i _ => (91 - intOf i).toNat)
  case atStart => exact ⟨0, ⟨w, Below.refl _ _⟩, by omega, rfl, rfl⟩
  case round =>
    obtain ⟨k, x, r0, rfl, rfl⟩ := hrel
    by_cases hlt : k < n
    · have hne : ((codeB (65 + (k : Int))).toList == s.toList) = false := HN.out.2.2 k hlt
      go_wp2_with (go_at_call 52; refine (Aft.call (l07Code_c _ (by omega) (by omega) _)).mono ?_; rintro e _ ⟨rfl, y, rfl⟩)
      go_roundw
      case rel => exact ⟨k + 1, _, by omega, by go_num, rfl⟩
      case measure => simp [intOf]; omega
    · obtain rfl : k = n := by omega
      have hne : ((codeB (65 + (k : Int))).toList == s.toList) = true := HN.out.2.1
      have hcv := fun W => letter_back h26 W
      go_wp2_with (go_at_call 52; refine (Aft.call (l07Code_c _ (by omega) (by omega) _)).mono ?_; rintro e _ ⟨rfl, y, rfl⟩)
      go_ret
      exact ⟨rfl, (Aft.below _).alloc (Aft.below _).size _⟩
def letters : ByteArray := (⟨#[65, 66, 67, 68, 69, 70, 71, 72, 73, 74, 75, 76, 77, 78, 79, 80, 81, 82, 83, 84, 85, 86, 87, 88, 89, 90]⟩ : ByteArray)
theorem letters_size : letters.size = 26 := rfl
theorem letters_at : ∀ n : Fin 26, (letters[n.val]'(by rw [letters_size]; exact n.isLt)).toNat = 65 + n.val := by decide +kernel
theorem encode_let {n : Nat} (h : n < 26) : Utf8.encode (65 + (n : Int)) = letN n := by
  have hv : Utf8.valid (65 + (n : Int)) = true := by
    simp [Utf8.valid]; omega
  unfold Utf8.encode
  simp only [hv, if_true]
  have e : (65 + (n : Int)).toNat = 65 + n := by omega
  rw [e, if_pos (by omega)]
  rfl
theorem signsOf_let {n : Nat} (h : n < 26) (w : World) :
    Calls Tryd.prog 55 #[.string (letN n)] w fun e w' => e = .returned (.string (cN n)) ∧ w = w' := by
  have he : sigS (letN n) = cN n := by
    show codeB ((UInt8.ofNat (65 + n)).toNat : Int) = codeB (65 + (n : Int))
    rw [letN_byte h]
  rw [← he]
  exact signsOf_c (letN n) (by show (1 : Int) ≤ _; omega) w
set_option maxRecDepth 100000 in
set_option maxHeartbeats 4000000 in
theorem implLetter_no (s : ByteArray) (hn : NoCode s 26) (w : World) :
    Calls Tryd.prog 73 #[.string s] w fun e w' => e = .returned (.tuple #[.string ⟨#[]⟩, .int .i64 3]) ∧ Below w.heap.size w w' := by
  have HN := Lib.hid hn
  clear hn
  go_enter Tryd.func73, Tryd.ntmps73
  go_wp2
  go_loopw [5] (fun _ wr => ∃ pos : Nat, pos ≤ 26 ∧ wr.heap[w.heap.size]? = some (.stringIter letters pos) ∧ Below w.heap.size w wr) (fun _ wr => 26 - wr.iterPos w.heap.size)
  case atStart => exact ⟨0, by omega, World.iter_heap w letters 0, (Below.refl _ _).alloc (Nat.le_refl _) _⟩
  case round =>
    obtain ⟨pos, hp, hit, hbw⟩ := hrel
    have hpos0 := iterPos_of hit
    by_cases hlt : pos < 26
    · have hlt' : pos < letters.size := hlt
      have hl : (letters[pos]'hlt').toNat = 65 + pos := letters_at ⟨pos, hlt⟩
      have hnx := fun ty => Lib.run_next_ascii_at (P := Tryd.prog) wr w.heap.size letters pos ty hit hlt' (by rw [hl]; omega)
      rw [hl] at hnx
      have henc := encode_let hlt
      have hne : ((cN pos).toList == s.toList) = false := HN.out pos hlt
      have hit2 := Lib.iterAt_heap wr w.heap.size letters pos (pos + 1) hit
      have hbw2 := Lib.below_iterAt hbw (k := w.heap.size) (Nat.le_refl _) letters (pos + 1)
      obtain ⟨W1, hW1⟩ : ∃ W1, W1 = wr.iterAt w.heap.size letters (pos + 1) := ⟨_, rfl⟩
      rw [← hW1] at hnx hit2 hbw2
      have HI2 := Lib.hid hit2
      have HP := Lib.hid hpos0
      clear hl hW1 hit hit2 hpos0
      go_wp2_with (go_at_call 55; refine (signsOf_let hlt _).mono ?_; rintro e w' ⟨rfl, rfl⟩)
      refine ⟨⟨pos + 1, by omega, HI2.out, hbw2⟩, ?_⟩
      rw [iterPos_of HI2.out, HP.out]
      omega
    · have hnx := fun ty => Lib.run_next_end_at (P := Tryd.prog) wr w.heap.size letters pos ty hit (by rw [letters_size]; omega)
      clear hpos0 hit
      go_wp2
      go_ret2
      exact ⟨rfl, hbw⟩
set_option maxRecDepth 100000 in
set_option maxHeartbeats 4000000 in
theorem implLetter_yes (s : ByteArray) (n : Nat) (hn : FirstCode s n) (w : World) :
    Calls Tryd.prog 73 #[.string s] w fun e w' => e = .returned (.tuple #[.string (letN n), .int .i64 0]) ∧ Below w.heap.size w w' := by
  have h26 := hn.1
  have HN := Lib.hid hn
  clear hn
  go_enter Tryd.func73, Tryd.ntmps73
  go_wp2
  go_loopw [5] (fun _ wr => ∃ pos : Nat, pos ≤ n ∧ wr.heap[w.heap.size]? = some (.stringIter letters pos) ∧ Below w.heap.size w wr) (fun _ wr => 26 - wr.iterPos w.heap.size)
  case atStart => exact ⟨0, by omega, World.iter_heap w letters 0, (Below.refl _ _).alloc (Nat.le_refl _) _⟩
  case round =>
    obtain ⟨pos, hp, hit, hbw⟩ := hrel
    have hpos0 := iterPos_of hit
    have h27 : pos < 26 := by omega
    have hlt' : pos < letters.size := h27
    have hl : (letters[pos]'hlt').toNat = 65 + pos := letters_at ⟨pos, h27⟩
    have hnx := fun ty => Lib.run_next_ascii_at (P := Tryd.prog) wr w.heap.size letters pos ty hit hlt' (by rw [hl]; omega)
    rw [hl] at hnx
    have henc := encode_let h27
    have hit2 := Lib.iterAt_heap wr w.heap.size letters pos (pos + 1) hit
    have hbw2 := Lib.below_iterAt hbw (k := w.heap.size) (Nat.le_refl _) letters (pos + 1)
    obtain ⟨W1, hW1⟩ : ∃ W1, W1 = wr.iterAt w.heap.size letters (pos + 1) := ⟨_, rfl⟩
    rw [← hW1] at hnx hit2 hbw2
    have HI2 := Lib.hid hit2
    have HP := Lib.hid hpos0
    clear hl hW1 hit hit2 hpos0
    by_cases hlt : pos < n
    · have hne : ((cN pos).toList == s.toList) = false := HN.out.2.2 pos hlt
      go_wp2_with (go_at_call 55; refine (signsOf_let h27 _).mono ?_; rintro e w' ⟨rfl, rfl⟩)
      refine ⟨⟨pos + 1, by omega, HI2.out, hbw2⟩, ?_⟩
      rw [iterPos_of HI2.out, HP.out]
      omega
    · obtain rfl : pos = n := by omega
      have hne : ((cN pos).toList == s.toList) = true := HN.out.2.1
      go_wp2_with (go_at_call 55; refine (signsOf_let h27 _).mono ?_; rintro e w' ⟨rfl, rfl⟩)
      go_ret2
      exact ⟨rfl, hbw2⟩
theorem lets_ne : ∀ n : Fin 26, (letN n.val).toList.isEmpty = false := by decide +kernel
theorem letN_ne {n : Nat} (h : n < 26) : (letN n).toList.isEmpty = false := lets_ne ⟨n, h⟩
end Go.Proofs.YtolijmldobncbaaDoor
