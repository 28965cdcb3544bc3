/- Colors: one byte of WRGY. -/
import Derived.Test.YtimfpnmcdicldaaBase
import Derived.Shelf.Strings.Search3
import Derived.Shelf.Lays
import Derived.Laws.Strings
namespace Go.Proofs.Ytimfpnmcdicldaa
open Go.RowKit Go.Shelf
/-- A text is one color. -/
def isC (s : ByteArray) : Bool := decide (s.size = 1) && (s.data.toList.headD 0 == 87 || s.data.toList.headD 0 == 82 || s.data.toList.headD 0 == 71 || s.data.toList.headD 0 == 89)
theorem one_of {s : ByteArray} (h : s.size = 1) : ∃ c, s = ⟨#[c]⟩ := by
  obtain ⟨a⟩ := s
  have h' : a.size = 1 := h
  obtain ⟨c, hc⟩ := Array.size_eq_one_iff.1 h'
  exact ⟨c, by rw [hc]⟩
theorem eq_one (c d : UInt8) : ((⟨#[c]⟩ : ByteArray).toList == (⟨#[d]⟩ : ByteArray).toList) = (c == d) := by
  rw [ByteArray.toList_eq, ByteArray.toList_eq]
  simp
theorem ne_one {s : ByteArray} (h : ¬ s.size = 1) (d : UInt8) : (s.toList == (⟨#[d]⟩ : ByteArray).toList) = false := by
  rw [ByteArray.toList_eq, ByteArray.toList_eq]
  rw [beq_eq_false_iff_ne]
  intro e
  apply h
  have := congrArg List.length e
  simpa using this
theorem isC_eq (s : ByteArray) : isC s = ((s.toList == (⟨#[87]⟩ : ByteArray).toList) || (s.toList == (⟨#[82]⟩ : ByteArray).toList) || (s.toList == (⟨#[71]⟩ : ByteArray).toList) || (s.toList == (⟨#[89]⟩ : ByteArray).toList)) := by
  by_cases h : s.size = 1
  · obtain ⟨c, rfl⟩ := one_of h
    rw [eq_one, eq_one, eq_one, eq_one]
    rfl
  · rw [ne_one h, ne_one h, ne_one h, ne_one h]
    simp [isC, h]
theorem indexByte_color (c : UInt8) : decide (0 ≤ Lib.indexByte [87, 82, 71, 89] c) = (c == 87 || c == 82 || c == 71 || c == 89) := by
  by_cases h1 : c = 87
  · subst h1; rfl
  by_cases h2 : c = 82
  · subst h2; rfl
  by_cases h3 : c = 71
  · subst h3; rfl
  by_cases h4 : c = 89
  · subst h4; rfl
  simp [Lib.indexByte, h1, h2, h3, h4, Ne.symm h1, Ne.symm h2, Ne.symm h3, Ne.symm h4]
def lays144_ren : Go.Shelf.Ren := ⟨fun | 144 => 118 | 143 => 125 | 219 => 128 | 217 => 129 | 225 => 130 | 224 => 131 | 267 => 132 | 266 => 133 | 314 => 134 | n => n, fun | 9 => 9 | 4 => 4 | 3 => 3 | 5 => 5 | 46 => 134 | 146 => 138 | 51 => 137 | n => n, fun | 1 => 0 | n => n⟩
theorem lays144 : Lays.n144 Try.prog lays144_ren where
  mixed := by kernel_rfl
  f143 := Try.func125.trans (congrArg some (by kernel_rfl))
  f144 := Try.func118.trans (congrArg some (by kernel_rfl))
  f217 := Try.func129.trans (congrArg some (by kernel_rfl))
  f219 := Try.func128.trans (congrArg some (by kernel_rfl))
  f224 := Try.func131.trans (congrArg some (by kernel_rfl))
  f225 := Try.func130.trans (congrArg some (by kernel_rfl))
  f266 := Try.func133.trans (congrArg some (by kernel_rfl))
  f267 := Try.func132.trans (congrArg some (by kernel_rfl))
  f314 := Try.func134.trans (congrArg some (by kernel_rfl))
  t3 := Try.underlying3
  a3 := Try.isAgg3
  z3 := Try.sizeOf3
  v3 := Try.zeroValue3
  t4 := Try.underlying4
  a4 := Try.isAgg4
  z4 := Try.sizeOf4
  v4 := Try.zeroValue4
  t5 := Try.underlying5
  a5 := Try.isAgg5
  z5 := Try.sizeOf5
  v5 := Try.zeroValue5
  t9 := Try.underlying9
  a9 := Try.isAgg9
  z9 := Try.sizeOf9
  v9 := Try.zeroValue9
  t46 := Try.underlying134
  a46 := Try.isAgg134
  z46 := Try.sizeOf134
  v46 := Try.zeroValue134
  t51 := Try.underlying137
  a51 := Try.isAgg137
  z51 := Try.sizeOf137
  v51 := Try.zeroValue137
  t146 := Try.underlying138
  a146 := Try.isAgg138
  z146 := Try.sizeOf138
  v146 := Try.zeroValue138
  g1 := by kernel_rfl
theorem contains_one (c : UInt8) (w : World) :
    Calls Try.prog 118 #[.string (⟨#[87, 82, 71, 89]⟩ : ByteArray), .string ⟨#[c]⟩] w fun e w' => e = .returned (.bool (c == 87 || c == 82 || c == 71 || c == 89)) ∧ w = w' := by
  rw [← indexByte_color]
  exact (Any.strings_Contains_one lays144 _ c w).mono fun _ _ h => ⟨h.1, h.2.symm⟩
set_option maxHeartbeats 1000000 in
theorem isColor_c (s : ByteArray) (hs : (s.size : Int) ≤ 9223372036854775807) (v : Bool) (hv : isC s = v) (w : World) :
    Calls Try.prog 96 #[.string s] w fun e w' => e = .returned (.bool v) ∧ w = w' := by
  subst hv
  by_cases h : s.size = 1
  · obtain ⟨c, rfl⟩ := one_of h
    have hr : isC ⟨#[c]⟩ = (c == 87 || c == 82 || c == 71 || c == 89) := rfl
    rw [hr]
    have HC := Lib.hid (fun W => contains_one c W)
    generalize (c == 87 || c == 82 || c == 71 || c == 89) = v at *
    clear hr h hs
    go_enter Try.func96, Try.ntmps96
    go_wp2_with (go_at_call 118; refine (HC.out _).mono ?_; rintro e w' ⟨rfl, rfl⟩)
    go_ret
    exact ⟨rfl, rfl⟩
  · have hr : isC s = false := by simp [isC, h]
    rw [hr]
    have h1 : ((s.size : Int) == 1) = false := by simp; omega
    clear hr h
    go_enter Try.func96, Try.ntmps96
    go_wp2
    go_ret
    exact ⟨rfl, rfl⟩
end Go.Proofs.Ytimfpnmcdicldaa
