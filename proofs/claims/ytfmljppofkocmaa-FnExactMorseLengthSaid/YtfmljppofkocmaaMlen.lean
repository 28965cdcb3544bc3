/- How many units a letter takes. -/
import Derived.Test.YtfmljppofkocmaaMorseOf
import Derived.Lib.ConvBytes
namespace Go.Proofs.Ytfmljppofkocmaa
open Go.RowKit
set_option linter.unusedVariables false
/-- The units of a sign, and of the first k signs. -/
def us (c : UInt8) : Int := if c = 45 then 3 else 1
def uSum (s : ByteArray) (k : Nat) : Int := ((s.data.toList.take k).map us).sum
theorem uSum_succ (s : ByteArray) (k : Nat) (h : k < s.size) : uSum s (k + 1) = uSum s k + us s[k] := by
  unfold uSum; rw [take_snoc s k h]; simp
theorem uSum_zero (s : ByteArray) : uSum s 0 = 0 := by simp [uSum]
theorem us_bound (c : UInt8) : 1 ≤ us c ∧ us c ≤ 3 := by unfold us; split <;> omega
theorem uSum_bound (s : ByteArray) : ∀ k, k ≤ s.size → 0 ≤ uSum s k ∧ uSum s k ≤ 3 * (k : Int)
  | 0, _ => by simp [uSum]
  | k + 1, h => by
    have h1 := uSum_bound s k (by omega)
    have h2 := us_bound s[k]
    rw [uSum_succ s k (by omega)]
    omega
def unitsOf (s : ByteArray) : Int := (s.size : Int) - 1 + uSum s s.size
set_option maxRecDepth 100000 in
set_option maxHeartbeats 4000000 in
theorem l07Units_c (b : Int) (h0 : 65 ≤ b) (h1 : b ≤ 90) (w : World) :
    Calls Try.prog 61 #[.int .u8 b] w fun e w' => e = .returned (.int .i64 (unitsOf (codeB b))) ∧ Below w.heap.size w w' := by
  have hsg := codeB_signs b
  have HM := Lib.hid (fun W => l07Code_c b h0 h1 W)
  generalize codeB b = s at *
  have hs4 := hsg.1
  have HS := Lib.hid hsg.2
  clear hsg
  go_enter Try.func61, Try.ntmps61
  go_wp2_with fail
  refine (HM.out w).mono ?_
  rintro e w1 ⟨rfl, hbel⟩
  go_wp2
  go_loop [4, 5] (fun o i => ∃ k : Nat, k ≤ s.size ∧ i = .int .i64 k ∧ o = .int .i64 ((s.size : Int) - 1 + uSum s k)) (fun _ i => s.size - (intOf i).toNat)
  case atStart => exact ⟨0, by omega, rfl, by have hu := uSum_zero s; go_num⟩
  case round =>
    clear h0 h1
    obtain ⟨k, hk, rfl, rfl⟩ := hrel
    have hbd := uSum_bound s k hk
    by_cases hlt : k < s.size
    · have hn := uSum_succ s k hlt
      rcases HS.out k hlt with he | he
      · rw [show us s[k] = 1 by unfold us; rw [if_neg (by rw [he]; decide)]] at hn
        have HN := Lib.hid hn
        clear hn
        go_wp2
        go_round
        case rel => exact ⟨k + 1, by omega, by go_num, by rw [HN.out]; go_num⟩
        case measure => simp [intOf]; omega
      · rw [show us s[k] = 3 by unfold us; rw [if_pos he]] at hn
        have HN := Lib.hid hn
        clear hn
        go_wp2
        go_round
        case rel => exact ⟨k + 1, by omega, by go_num, by rw [HN.out]; go_num⟩
        case measure => simp [intOf]; omega
    · obtain rfl : k = s.size := by omega
      go_wp2
      go_ret
      exact ⟨rfl, hbel⟩
theorem units_dot (w : World) : Calls Try.prog 62 #[.int .u8 46] w fun e w' => e = .returned (.int .i64 1) ∧ w = w' := by
  go_enter Try.func62, Try.ntmps62
  go_wp2
  go_ret
  exact ⟨rfl, rfl⟩
theorem units_dash (w : World) : Calls Try.prog 62 #[.int .u8 45] w fun e w' => e = .returned (.int .i64 3) ∧ w = w' := by
  go_enter Try.func62, Try.ntmps62
  go_wp2
  go_ret
  exact ⟨rfl, rfl⟩
theorem conv_row (s : ByteArray) (w : World) : ∃ cap W1, (convert 9 83 (.string s)).run Try.prog w = .ok (.slice (some ⟨w.heap.size, 0, none⟩) s.size cap) W1 ∧ (∀ i (h : i < s.size), W1.cell? ⟨w.heap.size, i, none⟩ = some (.int .u8 (s[i].toNat : Int))) ∧ Below w.heap.size w W1 := by
  refine ⟨_, _, Lib.run_convert_string_bytes w _ _ _ s Try.underlying9 Try.underlying83 Try.underlying5, ?_, ?_⟩
  · intro i h
    rw [Lib.bytesWorld_cell w _ s i h]
    congr 3
    rw [List.getD_eq_getElem?_getD, List.getElem?_eq_getElem (by simpa using h)]
    rfl
  · exact ⟨rfl, rfl, rfl, by rw [Lib.bytesWorld_size]; omega, fun j hj => Lib.bytesWorld_at_old w _ s j hj⟩
set_option maxHeartbeats 2000000 in
theorem implMlen_no (s : ByteArray) (hs : (s.size : Int) ≤ 9223372036854775807) (h : isL s = false) (w : World) :
    Calls Try.prog 20 #[.string s] w fun e w' => e = .returned (.tuple #[.int .i64 0, .int .i64 1]) ∧ Below w.heap.size w w' := by
  have he := isL_sig h
  go_enter Try.func20, Try.ntmps20
  go_wp2_with (go_at_call 59; refine (signsOf_c s hs _).mono ?_; rw [he]; rintro e w' ⟨rfl, rfl⟩)
  go_ret2
  exact ⟨rfl, Below.refl _ _⟩
set_option maxRecDepth 100000 in
set_option maxHeartbeats 4000000 in
theorem implMlen_yes (c : UInt8) (h0 : 65 ≤ c.toNat) (h1 : c.toNat ≤ 90) (w : World) :
    Calls Try.prog 20 #[.string ⟨#[c]⟩] w fun e w' => e = .returned (.tuple #[.int .i64 (unitsOf (codeB c.toNat)), .int .i64 0]) ∧ Below w.heap.size w w' := by
  have hz : ((⟨#[c]⟩ : ByteArray).size : Int) ≤ 9223372036854775807 := by show (1 : Int) ≤ _; omega
  have hne := codeB_ne (b := c.toNat) (by omega) (by omega)
  have hsg := codeB_signs c.toNat
  have HG := Lib.hid (show ∀ W, Calls Try.prog 59 #[.string ⟨#[c]⟩] W fun e w' => e = .returned (.string (codeB c.toNat)) ∧ W = w' from fun W => signsOf_c ⟨#[c]⟩ hz W)
  generalize codeB c.toNat = s at *
  have hs4 := hsg.1
  have HS := Lib.hid hsg.2
  clear hsg
  obtain ⟨cap, W1, hcv, hcell, hbel⟩ := conv_row s w
  have HC := Lib.hid hcell
  clear hcell
  go_enter Try.func20, Try.ntmps20
  go_wp2_with (go_at_call 59; refine (HG.out _).mono ?_; rintro e w' ⟨rfl, rfl⟩)
  go_loop [5, 18] (fun o i => ∃ k : Nat, k ≤ s.size ∧ i = .int .i64 k ∧ o = .int .i64 ((s.size : Int) - 1 + uSum s k)) (fun _ i => s.size - (intOf i).toNat)
  case atStart => exact ⟨0, by omega, rfl, by have hu := uSum_zero s; go_num⟩
  case round =>
    clear h0 h1
    obtain ⟨k, hk, rfl, rfl⟩ := hrel
    have hbd := uSum_bound s k hk
    by_cases hlt : k < s.size
    · have hn := uSum_succ s k hlt
      have hc := HC.out k hlt
      rcases HS.out k hlt with he | he
      · rw [show us s[k] = 1 by unfold us; rw [if_neg (by rw [he]; decide)]] at hn
        rw [he] at hc
        have hc2 : W1.cell? ⟨w.heap.size, k, none⟩ = some (.int .u8 46) := hc
        have HN := Lib.hid hn
        clear hn hc
        go_wp2_with (go_at_call 62; refine (units_dot _).mono ?_; rintro e w' ⟨rfl, rfl⟩)
        go_round
        case rel => exact ⟨k + 1, by omega, by go_num, by rw [HN.out]; go_num⟩
        case measure => simp [intOf]; omega
      · rw [show us s[k] = 3 by unfold us; rw [if_pos he]] at hn
        rw [he] at hc
        have hc2 : W1.cell? ⟨w.heap.size, k, none⟩ = some (.int .u8 45) := hc
        have HN := Lib.hid hn
        clear hn hc
        go_wp2_with (go_at_call 62; refine (units_dash _).mono ?_; rintro e w' ⟨rfl, rfl⟩)
        go_round
        case rel => exact ⟨k + 1, by omega, by go_num, by rw [HN.out]; go_num⟩
        case measure => simp [intOf]; omega
    · obtain rfl : k = s.size := by omega
      go_wp2
      go_ret2
      exact ⟨rfl, hbel⟩
set_option maxHeartbeats 2000000 in
theorem specMlen_no (s : ByteArray) (hs : (s.size : Int) ≤ 9223372036854775807) (h : isL s = false) (w : World) :
    Calls Try.prog 19 #[.string s] w fun e w' => e = .returned (.tuple #[.int .i64 0, .int .i64 1]) ∧ Below w.heap.size w w' := by
  go_enter Try.func19, Try.ntmps19
  go_wp2_with (go_at_call 57; refine (l07Letter_c s hs _ h _).mono ?_; rintro e w' ⟨rfl, rfl⟩)
  go_ret2
  exact ⟨rfl, (by repeat (first | exact Below.refl _ _ | refine Below.alloc ?_ (by simp; try omega) _ | refine Below.drew ?_))⟩
set_option maxHeartbeats 2000000 in
theorem specMlen_yes (c : UInt8) (h0 : 65 ≤ c.toNat) (h1 : c.toNat ≤ 90) (w : World) :
    Calls Try.prog 19 #[.string ⟨#[c]⟩] w fun e w' => e = .returned (.tuple #[.int .i64 (unitsOf (codeB c.toNat)), .int .i64 0]) ∧ Below w.heap.size w w' := by
  have hl : isL ⟨#[c]⟩ = true := by
    simp only [isL, Bool.and_eq_true, decide_eq_true_eq]
    exact ⟨rfl, h0, h1⟩
  have hz : ((⟨#[c]⟩ : ByteArray).size : Int) ≤ 9223372036854775807 := by show (1 : Int) ≤ _; omega
  have hbe : (⟨#[c]⟩ : ByteArray)[0]'(Nat.zero_lt_one) = c := rfl
  have HC := Lib.hid (fun W => l07Units_c (c.toNat : Int) (by omega) (by omega) W)
  go_enter Try.func19, Try.ntmps19
  go_wp2_with (first
    | (go_at_call 57; refine (l07Letter_c _ hz _ hl _).mono ?_; rintro e w' ⟨rfl, rfl⟩)
    | (go_at_call 61; refine (HC.out _).mono ?_; rintro e w' ⟨rfl, hb1⟩))
  go_ret2
  exact ⟨rfl, by assumption⟩
end Go.Proofs.Ytfmljppofkocmaa
