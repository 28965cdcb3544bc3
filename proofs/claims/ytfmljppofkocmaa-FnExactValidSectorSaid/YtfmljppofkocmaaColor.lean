/- Colors: one byte of WRGY. -/
import Derived.Test.YtfmljppofkocmaaBase
import Derived.Shelf.Strings.Search3
import Derived.Shelf.Lay
import Derived.Laws.Strings
namespace Go.Proofs.Ytfmljppofkocmaa
open Go.RowKit Go.Shelf
/-- A text is one color. -/
def isC (s : ByteArray) : Bool := decide (s.size = 1) && (s.data.toList.headD 0 == 87 || s.data.toList.headD 0 == 82 || s.data.toList.headD 0 == 71 || s.data.toList.headD 0 == 89)
theorem one_of {s : ByteArray} (h : s.size = 1) : ∃ c, s = ⟨#[c]⟩ := by
  obtain ⟨a⟩ := s
  have h' : a.size = 1 := h
  obtain ⟨c, hc⟩ := Array.size_eq_one_iff.1 h'
  exact ⟨c, by rw [hc]⟩
theorem eq_one (c d : UInt8) : ((⟨#[c]⟩ : ByteArray).toList == (⟨#[d]⟩ : ByteArray).toList) = (c == d) := by
  rw [ByteArray.toList_eq, ByteArray.toList_eq]
  simp
theorem ne_one {s : ByteArray} (h : ¬ s.size = 1) (d : UInt8) : (s.toList == (⟨#[d]⟩ : ByteArray).toList) = false := by
  rw [ByteArray.toList_eq, ByteArray.toList_eq]
  rw [beq_eq_false_iff_ne]
  intro e
  apply h
  have := congrArg List.length e
  simpa using this
theorem isC_eq (s : ByteArray) : isC s = ((s.toList == (⟨#[87]⟩ : ByteArray).toList) || (s.toList == (⟨#[82]⟩ : ByteArray).toList) || (s.toList == (⟨#[71]⟩ : ByteArray).toList) || (s.toList == (⟨#[89]⟩ : ByteArray).toList)) := by
  by_cases h : s.size = 1
  · obtain ⟨c, rfl⟩ := one_of h
    rw [eq_one, eq_one, eq_one, eq_one]
    rfl
  · rw [ne_one h, ne_one h, ne_one h, ne_one h]
    simp [isC, h]
theorem indexByte_color (c : UInt8) : decide (0 ≤ Lib.indexByte [87, 82, 71, 89] c) = (c == 87 || c == 82 || c == 71 || c == 89) := by
  by_cases h1 : c = 87
  · subst h1; rfl
  by_cases h2 : c = 82
  · subst h2; rfl
  by_cases h3 : c = 71
  · subst h3; rfl
  by_cases h4 : c = 89
  · subst h4; rfl
  simp [Lib.indexByte, h1, h2, h3, h4, Ne.symm h1, Ne.symm h2, Ne.symm h3, Ne.symm h4]
shelf_lay Lays.n144 Nm 144 at Try as lays144
theorem contains_one (c : UInt8) (w : World) :
    Calls Try.prog 119 #[.string (⟨#[87, 82, 71, 89]⟩ : ByteArray), .string ⟨#[c]⟩] w fun e w' => e = .returned (.bool (c == 87 || c == 82 || c == 71 || c == 89)) ∧ w = w' := by
  rw [← indexByte_color]
  exact (Any.strings_Contains_one lays144 _ c w).mono fun _ _ h => ⟨h.1, h.2.symm⟩
set_option maxHeartbeats 1000000 in
theorem isColor_c (s : ByteArray) (hs : (s.size : Int) ≤ 9223372036854775807) (v : Bool) (hv : isC s = v) (w : World) :
    Calls Try.prog 88 #[.string s] w fun e w' => e = .returned (.bool v) ∧ w = w' := by
  subst hv
  by_cases h : s.size = 1
  · obtain ⟨c, rfl⟩ := one_of h
    have hr : isC ⟨#[c]⟩ = (c == 87 || c == 82 || c == 71 || c == 89) := rfl
    rw [hr]
    have HC := Lib.hid (fun W => contains_one c W)
    generalize (c == 87 || c == 82 || c == 71 || c == 89) = v at *
    clear hr h hs
    go_enter Try.func88, Try.ntmps88
    go_wp2_with (go_at_call 119; refine (HC.out _).mono ?_; rintro e w' ⟨rfl, rfl⟩)
    go_ret
    exact ⟨rfl, rfl⟩
  · have hr : isC s = false := by simp [isC, h]
    rw [hr]
    have h1 : ((s.size : Int) == 1) = false := by simp; omega
    clear hr h
    go_enter Try.func88, Try.ntmps88
    go_wp2
    go_ret
    exact ⟨rfl, rfl⟩
set_option maxHeartbeats 1000000 in
theorem l08Color_c (s : ByteArray) (v : Bool) (hv : isC s = v) (w : World) :
    Calls Try.prog 118 #[.string s] w fun e w' => e = .returned (.bool v) ∧ w = w' := by
  subst hv
  have hE : isC s = (s.toList == [87] || s.toList == [82] || s.toList == [71] || s.toList == [89]) := by rw [isC_eq]; simp only [ByteArray.toList_eq]
  rw [hE]
  clear hE
  cases h1 : (s.toList == [87])
  · cases h2 : (s.toList == [82])
    · cases h3 : (s.toList == [71])
      · go_enter Try.func118, Try.ntmps118
        go_wp2
        go_ret
        exact ⟨ret_bool (by simp), rfl⟩
      · go_enter Try.func118, Try.ntmps118
        go_wp2
        go_ret
        exact ⟨ret_bool (by simp), rfl⟩
    · go_enter Try.func118, Try.ntmps118
      go_wp2
      go_ret
      exact ⟨ret_bool (by simp), rfl⟩
  · go_enter Try.func118, Try.ntmps118
    go_wp2
    go_ret
    exact ⟨ret_bool (by simp), rfl⟩
end Go.Proofs.Ytfmljppofkocmaa
