/- The signs of a letter: contracts of the exported functions. -/
import Derived.Test.YtfmljppofkocmaaMorse
namespace Go.Proofs.Ytfmljppofkocmaa
open Go.RowKit
set_option linter.unusedVariables false
/-- A text is one capital letter. -/
def isL (s : ByteArray) : Bool := decide (s.size = 1) && (decide (65 ≤ (s.data.toList.headD 0).toNat) && decide ((s.data.toList.headD 0).toNat ≤ 90))
theorem isL_yes {s : ByteArray} (h : isL s = true) : ∃ c : UInt8, s = ⟨#[c]⟩ ∧ 65 ≤ c.toNat ∧ c.toNat ≤ 90 := by
  simp only [isL, Bool.and_eq_true, decide_eq_true_eq] at h
  obtain ⟨h1, h2, h3⟩ := h
  obtain ⟨c, rfl⟩ := one_byte h1
  exact ⟨c, rfl, h2, h3⟩
theorem isL_sig {s : ByteArray} (h : isL s = false) : sigS s = ⟨#[]⟩ := by
  unfold sigS
  split
  · rename_i h1
    obtain ⟨c, rfl⟩ := one_byte h1
    refine codeB_out ?_
    have h' : ¬ (65 ≤ c.toNat ∧ c.toNat ≤ 90) := fun g => by
      have : isL ⟨#[c]⟩ = true := by
        simp only [isL, Bool.and_eq_true, decide_eq_true_eq]
        exact ⟨rfl, g.1, g.2⟩
      rw [this] at h; cases h
    show ((c.toNat : Int) < 65 ∨ 90 < (c.toNat : Int))
    omega
  · rfl
theorem codes_ne : ∀ s ∈ codes, s.toList.isEmpty = false := by decide +kernel
theorem codeB_ne {b : Int} (h0 : 65 ≤ b) (h1 : b ≤ 90) : (codeB b).toList.isEmpty = false := by
  have h : 0 ≤ b - 65 ∧ b - 65 < (codes.length : Int) := ⟨by omega, by show b - 65 < 26; omega⟩
  unfold codeB
  rw [pickS_in h, List.getD_eq_getElem?_getD, List.getElem?_eq_getElem (by omega)]
  exact codes_ne _ (List.getElem_mem _)
set_option maxHeartbeats 2000000 in
theorem l07Letter_c (s : ByteArray) (hs : (s.size : Int) ≤ 9223372036854775807) (v : Bool) (hv : isL s = v) (w : World) :
    Calls Try.prog 57 #[.string s] w fun e w' => e = .returned (.bool v) ∧ w = w' := by
  subst hv
  by_cases h1 : s.size = 1
  · obtain ⟨c, rfl⟩ := one_byte h1
    have hr : isL ⟨#[c]⟩ = (decide (65 ≤ c.toNat) && decide (c.toNat ≤ 90)) := rfl
    rw [hr]
    clear hr hs h1
    have hbe : (⟨#[c]⟩ : ByteArray)[0]'(Nat.zero_lt_one) = c := rfl
    by_cases hlo : 65 ≤ c.toNat
    · go_enter Try.func57, Try.ntmps57
      go_wp2
      go_ret
      exact ⟨ret_bool (by simp [hlo]; omega), rfl⟩
    · go_enter Try.func57, Try.ntmps57
      go_wp2
      go_ret
      exact ⟨ret_bool (by simp), rfl⟩
  · have hr : isL s = false := by simp [isL, h1]
    rw [hr]
    have h1' : ((s.size : Int) == 1) = false := by simp; omega
    clear hr h1
    go_enter Try.func57, Try.ntmps57
    go_wp2
    go_ret
    exact ⟨rfl, rfl⟩
set_option maxHeartbeats 2000000 in
theorem specMorse_no (s : ByteArray) (hs : (s.size : Int) ≤ 9223372036854775807) (h : isL s = false) (w : World) :
    Calls Try.prog 15 #[.string s] w fun e w' => e = .returned (.tuple #[.string ⟨#[]⟩, .int .i64 1]) ∧ Below w.heap.size w w' := by
  go_enter Try.func15, Try.ntmps15
  go_wp2_with (go_at_call 57; refine (l07Letter_c s hs _ h _).mono ?_; rintro e w' ⟨rfl, rfl⟩)
  go_ret2
  exact ⟨rfl, (by repeat (first | exact Below.refl _ _ | refine Below.alloc ?_ (by simp; try omega) _ | refine Below.drew ?_))⟩
set_option maxHeartbeats 2000000 in
theorem specMorse_yes (c : UInt8) (h0 : 65 ≤ c.toNat) (h1 : c.toNat ≤ 90) (w : World) :
    Calls Try.prog 15 #[.string ⟨#[c]⟩] w fun e w' => e = .returned (.tuple #[.string (codeB c.toNat), .int .i64 0]) ∧ Below w.heap.size w w' := by
  have hl : isL ⟨#[c]⟩ = true := by
    simp only [isL, Bool.and_eq_true, decide_eq_true_eq]
    exact ⟨rfl, h0, h1⟩
  have hz : ((⟨#[c]⟩ : ByteArray).size : Int) ≤ 9223372036854775807 := by show (1 : Int) ≤ _; omega
  have hbe : (⟨#[c]⟩ : ByteArray)[0]'(Nat.zero_lt_one) = c := rfl
  have HC := Lib.hid (fun W => l07Code_c (c.toNat : Int) (by omega) (by omega) W)
  go_enter Try.func15, Try.ntmps15
  go_wp2_with (first
    | (go_at_call 57; refine (l07Letter_c _ hz _ hl _).mono ?_; rintro e w' ⟨rfl, rfl⟩)
    | (go_at_call 58; refine (HC.out _).mono ?_; rintro e w' ⟨rfl, hb1⟩))
  go_ret2
  exact ⟨rfl, by assumption⟩
set_option maxHeartbeats 2000000 in
theorem implMorse_no (s : ByteArray) (hs : (s.size : Int) ≤ 9223372036854775807) (h : isL s = false) (w : World) :
    Calls Try.prog 16 #[.string s] w fun e w' => e = .returned (.tuple #[.string ⟨#[]⟩, .int .i64 1]) ∧ w = w' := by
  have he := isL_sig h
  go_enter Try.func16, Try.ntmps16
  go_wp2_with (go_at_call 59; refine (signsOf_c s hs _).mono ?_; rw [he]; rintro e w' ⟨rfl, rfl⟩)
  go_ret2
  exact ⟨rfl, rfl⟩
set_option maxHeartbeats 2000000 in
theorem implMorse_yes (c : UInt8) (h0 : 65 ≤ c.toNat) (h1 : c.toNat ≤ 90) (w : World) :
    Calls Try.prog 16 #[.string ⟨#[c]⟩] w fun e w' => e = .returned (.tuple #[.string (codeB c.toNat), .int .i64 0]) ∧ w = w' := by
  have hz : ((⟨#[c]⟩ : ByteArray).size : Int) ≤ 9223372036854775807 := by show (1 : Int) ≤ _; omega
  have hne := codeB_ne (b := c.toNat) (by omega) (by omega)
  have HS := Lib.hid (show ∀ W, Calls Try.prog 59 #[.string ⟨#[c]⟩] W fun e w' => e = .returned (.string (codeB c.toNat)) ∧ W = w' from fun W => signsOf_c ⟨#[c]⟩ hz W)
  generalize codeB c.toNat = r at *
  go_enter Try.func16, Try.ntmps16
  go_wp2_with (go_at_call 59; refine (HS.out _).mono ?_; rintro e w' ⟨rfl, rfl⟩)
  go_ret2
  exact ⟨rfl, rfl⟩
end Go.Proofs.Ytfmljppofkocmaa
