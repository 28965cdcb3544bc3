/- The kind of a mark by its name: the program's MarkNamed answers as the reference's, for all texts. -/
import Derived.Test.YtolijmldobncbaaDoorPick
namespace Go.Proofs.YtolijmldobncbaaDoor
open Go.RowKit
set_option linter.unusedVariables false
/-- The name of kind n. -/
def nameN (n : Nat) : ByteArray := pickS markNames n
theorem nameN_eq {n : Nat} (h : n < 10) : nameN n = markNames.getD n ⟨#[]⟩ := by
  have := pickS_in (ss := markNames) (k := n) ⟨by omega, by show (n : Int) < 10; omega⟩
  simpa [nameN] using this
/-- What is known of a kind by its name: none is named so; or n is the first that is. -/
def NoName (s : ByteArray) (n : Nat) : Prop := ∀ m, m < n → ((nameN m).toList == s.toList) = false
def FirstName (s : ByteArray) (n : Nat) : Prop := n < 10 ∧ ((nameN n).toList == s.toList) = true ∧ NoName s n
theorem NoName.up {s : ByteArray} {n : Nat} (h : NoName s n) (h2 : ((nameN n).toList == s.toList) = false) : NoName s (n + 1) := fun m hm => by
  by_cases e : m = n
  · rw [e]; exact h2
  · exact h m (by omega)
theorem first_or {s : ByteArray} : ∀ k, k ≤ 10 → (NoName s k ∨ ∃ n, FirstName s n)
  | 0, _ => .inl (fun m hm => by omega)
  | k + 1, hk => by
    rcases first_or (s := s) k (by omega) with h | h
    · cases hv : ((nameN k).toList == s.toList)
      · exact .inl (h.up hv)
      · exact .inr ⟨k, by omega, hv, h⟩
    · exact .inr h
set_option maxHeartbeats 2000000 in
theorem implNamed_no (s : ByteArray) (hn : NoName s 10) (w : World) :
    Calls Tryd.prog 76 #[.string s] w fun e w' => e = .returned (.tuple #[.int .i64 0, .bool false]) ∧ Below w.heap.size w w' := by
  have HN := Lib.hid hn
  clear hn
  go_enter Tryd.func76, Tryd.ntmps76
  go_wp2
  go_loopw [4] (fun i wr => ∃ (k : Nat) (x : Aft w), k ≤ 10 ∧ i = .int .i64 k ∧ wr = x.w1) (fun i _ => (10 - intOf i).toNat)
  case atStart => exact ⟨0, ⟨w, Below.refl _ _⟩, by omega, rfl, rfl⟩
  case round =>
    obtain ⟨k, x, r0, rfl, rfl⟩ := hrel
    by_cases hlt : k < 10
    · have hne : ((pickS markNames (k : Int)).toList == s.toList) = false := HN.out k hlt
      go_wp2_with (go_at_call 57; refine (Aft.call (markName_c _ _)).mono ?_; rintro e _ ⟨rfl, y, rfl⟩)
      go_roundw
      case rel => exact ⟨k + 1, _, by omega, by go_num, rfl⟩
      case measure => simp [intOf]; omega
    · go_wp2
      go_ret2
      exact ⟨rfl, x.below⟩
set_option maxHeartbeats 2000000 in
theorem implNamed_yes (s : ByteArray) (n : Nat) (hn : FirstName s n) (w : World) :
    Calls Tryd.prog 76 #[.string s] w fun e w' => e = .returned (.tuple #[.int .i64 n, .bool true]) ∧ Below w.heap.size w w' := by
  have h10 := hn.1
  have HN := Lib.hid hn
  clear hn
  go_enter Tryd.func76, Tryd.ntmps76
  go_wp2
  go_loopw [4] (fun i wr => ∃ (k : Nat) (x : Aft w), k ≤ n ∧ i = .int .i64 k ∧ wr = x.w1) (fun i _ => (10 - intOf i).toNat)
  case atStart => exact ⟨0, ⟨w, Below.refl _ _⟩, by omega, rfl, rfl⟩
  case round =>
    obtain ⟨k, x, r0, rfl, rfl⟩ := hrel
    by_cases hlt : k < n
    · have hne : ((pickS markNames (k : Int)).toList == s.toList) = false := HN.out.2.2 k hlt
      go_wp2_with (go_at_call 57; refine (Aft.call (markName_c _ _)).mono ?_; rintro e _ ⟨rfl, y, rfl⟩)
      go_roundw
      case rel => exact ⟨k + 1, _, by omega, by go_num, rfl⟩
      case measure => simp [intOf]; omega
    · obtain rfl : k = n := by omega
      have hne : ((pickS markNames (k : Int)).toList == s.toList) = true := HN.out.2.1
      go_wp2_with (go_at_call 57; refine (Aft.call (markName_c _ _)).mono ?_; rintro e _ ⟨rfl, y, rfl⟩)
      go_ret2
      exact ⟨rfl, Aft.below _⟩
set_option maxHeartbeats 2000000 in
theorem specNames_c (w : World) :
    Calls Tryd.prog 91 #[] w fun e w' => e = .returned (.slice (some ⟨w.heap.size, 0, none⟩) 10 10) ∧ w' = w.alloc (.cells (markNames.map Value.string).toArray 9) := by
  go_enter Tryd.func91, Tryd.ntmps91
  go_wp2
  go_ret
  exact ⟨rfl, rfl⟩
set_option maxHeartbeats 2000000 in
theorem specNamed_no (s : ByteArray) (hn : NoName s 10) (w : World) :
    Calls Tryd.prog 99 #[.string s] w fun e w' => e = .returned (.int .i64 (-1)) ∧ Below w.heap.size w w' := by
  have HN := Lib.hid hn
  have hrow : ∀ x : Aft (w.alloc (.cells (markNames.map Value.string).toArray 9)), RowS x.w1 w.heap.size markNames := fun x => rowS_aft (rowS_new w markNames _) (by simp) x
  have HR := Lib.hid hrow
  clear hn hrow
  go_enter Tryd.func99, Tryd.ntmps99
  go_wp2_with fail
  refine (specNames_c w).mono ?_
  rintro e _ ⟨rfl, rfl⟩
  generalize hW : w.alloc (.cells (markNames.map Value.string).toArray 9) = W at *
  have HW := Lib.hid hW
  clear hW
  go_wp2
  go_loopw [4] (fun i wr => ∃ (k : Nat) (x : Aft W), k ≤ 10 ∧ i = .int .i64 k ∧ wr = x.w1) (fun i _ => (10 - intOf i).toNat)
  case atStart => exact ⟨0, ⟨W, Below.refl _ _⟩, by omega, rfl, rfl⟩
  case round =>
    obtain ⟨k, x, r0, rfl, rfl⟩ := hrel
    by_cases hlt : k < 10
    · have hc := HR.out x k hlt
      rw [← nameN_eq hlt] at hc
      have hne : ((nameN k).toList == s.toList) = false := HN.out k hlt
      go_wp2
      go_roundw
      case rel => exact ⟨k + 1, x, by omega, by go_num, rfl⟩
      case measure => simp [intOf]; omega
    · go_wp2
      go_ret
      obtain rfl := HW.out
      exact ⟨rfl, below_box x.below⟩
set_option maxHeartbeats 2000000 in
theorem specNamed_yes (s : ByteArray) (n : Nat) (hn : FirstName s n) (w : World) :
    Calls Tryd.prog 99 #[.string s] w fun e w' => e = .returned (.int .i64 n) ∧ Below w.heap.size w w' := by
  have h10 := hn.1
  have HN := Lib.hid hn
  have hrow : ∀ x : Aft (w.alloc (.cells (markNames.map Value.string).toArray 9)), RowS x.w1 w.heap.size markNames := fun x => rowS_aft (rowS_new w markNames _) (by simp) x
  have HR := Lib.hid hrow
  clear hn hrow
  go_enter Tryd.func99, Tryd.ntmps99
  go_wp2_with fail
  refine (specNames_c w).mono ?_
  rintro e _ ⟨rfl, rfl⟩
  generalize hW : w.alloc (.cells (markNames.map Value.string).toArray 9) = W at *
  have HW := Lib.hid hW
  clear hW
  go_wp2
  go_loopw [4] (fun i wr => ∃ (k : Nat) (x : Aft W), k ≤ n ∧ i = .int .i64 k ∧ wr = x.w1) (fun i _ => (10 - intOf i).toNat)
  case atStart => exact ⟨0, ⟨W, Below.refl _ _⟩, by omega, rfl, rfl⟩
  case round =>
    obtain ⟨k, x, r0, rfl, rfl⟩ := hrel
    by_cases hlt : k < n
    · have hc := HR.out x k (Nat.lt_trans hlt h10)
      rw [← nameN_eq (Nat.lt_trans hlt h10)] at hc
      have hne : ((nameN k).toList == s.toList) = false := HN.out.2.2 k hlt
      go_wp2
      go_roundw
      case rel => exact ⟨k + 1, x, by omega, by go_num, rfl⟩
      case measure => simp [intOf]; omega
    · obtain rfl : k = n := by omega
      have hc := HR.out x k h10
      rw [← nameN_eq h10] at hc
      have hne : ((nameN k).toList == s.toList) = true := HN.out.2.1
      go_wp2
      go_ret
      obtain rfl := HW.out
      exact ⟨rfl, below_box x.below⟩
end Go.Proofs.YtolijmldobncbaaDoor
