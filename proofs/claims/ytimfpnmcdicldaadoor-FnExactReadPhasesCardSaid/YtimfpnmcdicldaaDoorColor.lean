/- Colors: one byte of WRGY. -/
import Derived.Test.YtimfpnmcdicldaaDoorBase
import Derived.Shelf.Strings.Search3
import Derived.Shelf.Lays
import Derived.Laws.Strings
namespace Go.Proofs.YtimfpnmcdicldaaDoor
open Go.RowKit Go.Shelf
/-- A text is one color. -/
def isC (s : ByteArray) : Bool := decide (s.size = 1) && (s.data.toList.headD 0 == 87 || s.data.toList.headD 0 == 82 || s.data.toList.headD 0 == 71 || s.data.toList.headD 0 == 89)
theorem one_of {s : ByteArray} (h : s.size = 1) : ∃ c, s = ⟨#[c]⟩ := by
  obtain ⟨a⟩ := s
  have h' : a.size = 1 := h
  obtain ⟨c, hc⟩ := Array.size_eq_one_iff.1 h'
  exact ⟨c, by rw [hc]⟩
theorem eq_one (c d : UInt8) : ((⟨#[c]⟩ : ByteArray).toList == (⟨#[d]⟩ : ByteArray).toList) = (c == d) := by
  rw [ByteArray.toList_eq, ByteArray.toList_eq]
  simp
theorem ne_one {s : ByteArray} (h : ¬ s.size = 1) (d : UInt8) : (s.toList == (⟨#[d]⟩ : ByteArray).toList) = false := by
  rw [ByteArray.toList_eq, ByteArray.toList_eq]
  rw [beq_eq_false_iff_ne]
  intro e
  apply h
  have := congrArg List.length e
  simpa using this
theorem isC_eq (s : ByteArray) : isC s = ((s.toList == (⟨#[87]⟩ : ByteArray).toList) || (s.toList == (⟨#[82]⟩ : ByteArray).toList) || (s.toList == (⟨#[71]⟩ : ByteArray).toList) || (s.toList == (⟨#[89]⟩ : ByteArray).toList)) := by
  by_cases h : s.size = 1
  · obtain ⟨c, rfl⟩ := one_of h
    rw [eq_one, eq_one, eq_one, eq_one]
    rfl
  · rw [ne_one h, ne_one h, ne_one h, ne_one h]
    simp [isC, h]
theorem indexByte_color (c : UInt8) : decide (0 ≤ Lib.indexByte [87, 82, 71, 89] c) = (c == 87 || c == 82 || c == 71 || c == 89) := by
  by_cases h1 : c = 87
  · subst h1; rfl
  by_cases h2 : c = 82
  · subst h2; rfl
  by_cases h3 : c = 71
  · subst h3; rfl
  by_cases h4 : c = 89
  · subst h4; rfl
  simp [Lib.indexByte, h1, h2, h3, h4, Ne.symm h1, Ne.symm h2, Ne.symm h3, Ne.symm h4]
def lays144_ren : Go.Shelf.Ren := ⟨fun | 144 => 95 | 143 => 100 | 219 => 104 | 217 => 121 | 225 => 122 | 224 => 123 | 267 => 124 | 266 => 136 | 314 => 137 | n => n, fun | 9 => 9 | 4 => 4 | 3 => 3 | 5 => 5 | 46 => 138 | 146 => 154 | 51 => 145 | n => n, fun | 1 => 0 | n => n⟩
theorem lays144 : Lays.n144 Tryd.prog lays144_ren where
  mixed := by kernel_rfl
  f143 := Tryd.func100.trans (congrArg some (by kernel_rfl))
  f144 := Tryd.func95.trans (congrArg some (by kernel_rfl))
  f217 := Tryd.func121.trans (congrArg some (by kernel_rfl))
  f219 := Tryd.func104.trans (congrArg some (by kernel_rfl))
  f224 := Tryd.func123.trans (congrArg some (by kernel_rfl))
  f225 := Tryd.func122.trans (congrArg some (by kernel_rfl))
  f266 := Tryd.func136.trans (congrArg some (by kernel_rfl))
  f267 := Tryd.func124.trans (congrArg some (by kernel_rfl))
  f314 := Tryd.func137.trans (congrArg some (by kernel_rfl))
  t3 := Tryd.underlying3
  a3 := Tryd.isAgg3
  z3 := Tryd.sizeOf3
  v3 := Tryd.zeroValue3
  t4 := Tryd.underlying4
  a4 := Tryd.isAgg4
  z4 := Tryd.sizeOf4
  v4 := Tryd.zeroValue4
  t5 := Tryd.underlying5
  a5 := Tryd.isAgg5
  z5 := Tryd.sizeOf5
  v5 := Tryd.zeroValue5
  t9 := Tryd.underlying9
  a9 := Tryd.isAgg9
  z9 := Tryd.sizeOf9
  v9 := Tryd.zeroValue9
  t46 := Tryd.underlying138
  a46 := Tryd.isAgg138
  z46 := Tryd.sizeOf138
  v46 := Tryd.zeroValue138
  t51 := Tryd.underlying145
  a51 := Tryd.isAgg145
  z51 := Tryd.sizeOf145
  v51 := Tryd.zeroValue145
  t146 := Tryd.underlying154
  a146 := Tryd.isAgg154
  z146 := Tryd.sizeOf154
  v146 := Tryd.zeroValue154
  g1 := by kernel_rfl
theorem contains_one (c : UInt8) (w : World) :
    Calls Tryd.prog 95 #[.string (⟨#[87, 82, 71, 89]⟩ : ByteArray), .string ⟨#[c]⟩] w fun e w' => e = .returned (.bool (c == 87 || c == 82 || c == 71 || c == 89)) ∧ w = w' := by
  rw [← indexByte_color]
  exact (Any.strings_Contains_one lays144 _ c w).mono fun _ _ h => ⟨h.1, h.2.symm⟩
set_option maxHeartbeats 1000000 in
theorem isColor_c (s : ByteArray) (hs : (s.size : Int) ≤ 9223372036854775807) (v : Bool) (hv : isC s = v) (w : World) :
    Calls Tryd.prog 78 #[.string s] w fun e w' => e = .returned (.bool v) ∧ w = w' := by
  subst hv
  by_cases h : s.size = 1
  · obtain ⟨c, rfl⟩ := one_of h
    have hr : isC ⟨#[c]⟩ = (c == 87 || c == 82 || c == 71 || c == 89) := rfl
    rw [hr]
    have HC := Lib.hid (fun W => contains_one c W)
    generalize (c == 87 || c == 82 || c == 71 || c == 89) = v at *
    clear hr h hs
    go_enter Tryd.func78, Tryd.ntmps78
    go_wp2_with (go_at_call 95; refine (HC.out _).mono ?_; rintro e w' ⟨rfl, rfl⟩)
    go_ret
    exact ⟨rfl, rfl⟩
  · have hr : isC s = false := by simp [isC, h]
    rw [hr]
    have h1 : ((s.size : Int) == 1) = false := by simp; omega
    clear hr h
    go_enter Tryd.func78, Tryd.ntmps78
    go_wp2
    go_ret
    exact ⟨rfl, rfl⟩
end Go.Proofs.YtimfpnmcdicldaaDoor
