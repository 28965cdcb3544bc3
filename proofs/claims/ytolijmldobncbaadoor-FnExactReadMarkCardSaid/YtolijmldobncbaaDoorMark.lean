/- Marks: the colors, shapes and topmarks of the kinds; contracts of the program's and of the reference's functions. -/
import Derived.Test.YtolijmldobncbaaDoorNamed
import Derived.Test.YtolijmldobncbaaDoorStMark
import Derived.Test.YtolijmldobncbaaDoorDoorB
import Derived.Shelf.Strings.Fields
import Derived.Shelf.Slices.Turned
import Derived.Shelf.Lays
namespace Go.Proofs.YtolijmldobncbaaDoor
open Go Go.RowKit Go.Shelf
def markCols : List ByteArray := [⟨#[]⟩, (⟨#[82]⟩ : ByteArray), (⟨#[71]⟩ : ByteArray), (⟨#[66, 89]⟩ : ByteArray), (⟨#[66, 89, 66]⟩ : ByteArray), (⟨#[89, 66]⟩ : ByteArray), (⟨#[89, 66, 89]⟩ : ByteArray), (⟨#[66, 82, 66]⟩ : ByteArray), (⟨#[82, 87]⟩ : ByteArray), (⟨#[89]⟩ : ByteArray)]
def markTops : List ByteArray := [⟨#[]⟩, (⟨#[99, 97, 110]⟩ : ByteArray), (⟨#[99, 111, 110, 101]⟩ : ByteArray), (⟨#[117, 112]⟩ : ByteArray), (⟨#[98, 97, 115, 101]⟩ : ByteArray), (⟨#[100, 111, 119, 110]⟩ : ByteArray), (⟨#[112, 111, 105, 110, 116]⟩ : ByteArray), (⟨#[98, 97, 108, 108, 115]⟩ : ByteArray), (⟨#[98, 97, 108, 108]⟩ : ByteArray), (⟨#[99, 114, 111, 115, 115]⟩ : ByteArray)]
def shapeTxt : List ByteArray := [⟨#[]⟩, (⟨#[99, 97, 110, 32, 112, 105, 108, 108, 97, 114, 32, 115, 112, 97, 114]⟩ : ByteArray), (⟨#[99, 111, 110, 101, 32, 112, 105, 108, 108, 97, 114, 32, 115, 112, 97, 114]⟩ : ByteArray), (⟨#[112, 105, 108, 108, 97, 114, 32, 115, 112, 97, 114]⟩ : ByteArray), (⟨#[112, 105, 108, 108, 97, 114, 32, 115, 112, 97, 114]⟩ : ByteArray), (⟨#[112, 105, 108, 108, 97, 114, 32, 115, 112, 97, 114]⟩ : ByteArray), (⟨#[112, 105, 108, 108, 97, 114, 32, 115, 112, 97, 114]⟩ : ByteArray), (⟨#[112, 105, 108, 108, 97, 114, 32, 115, 112, 97, 114]⟩ : ByteArray), (⟨#[115, 112, 104, 101, 114, 101, 32, 112, 105, 108, 108, 97, 114, 32, 115, 112, 97, 114]⟩ : ByteArray), (⟨#[99, 97, 110, 32, 99, 111, 110, 101, 32, 112, 105, 108, 108, 97, 114, 32, 115, 112, 97, 114, 32, 115, 112, 104, 101, 114, 101]⟩ : ByteArray)]
def shapes (k : Int) : List ByteArray := if k = 1 then [(⟨#[99, 97, 110]⟩ : ByteArray), (⟨#[112, 105, 108, 108, 97, 114]⟩ : ByteArray), (⟨#[115, 112, 97, 114]⟩ : ByteArray)] else if k = 2 then [(⟨#[99, 111, 110, 101]⟩ : ByteArray), (⟨#[112, 105, 108, 108, 97, 114]⟩ : ByteArray), (⟨#[115, 112, 97, 114]⟩ : ByteArray)] else if k = 8 then [(⟨#[115, 112, 104, 101, 114, 101]⟩ : ByteArray), (⟨#[112, 105, 108, 108, 97, 114]⟩ : ByteArray), (⟨#[115, 112, 97, 114]⟩ : ByteArray)] else if k = 9 then [(⟨#[99, 97, 110]⟩ : ByteArray), (⟨#[99, 111, 110, 101]⟩ : ByteArray), (⟨#[112, 105, 108, 108, 97, 114]⟩ : ByteArray), (⟨#[115, 112, 97, 114]⟩ : ByteArray), (⟨#[115, 112, 104, 101, 114, 101]⟩ : ByteArray)] else [(⟨#[112, 105, 108, 108, 97, 114]⟩ : ByteArray), (⟨#[115, 112, 97, 114]⟩ : ByteArray)]
theorem nine_cases {k : Int} (h : 1 ≤ k ∧ k ≤ 9) : k = 1 ∨ k = 2 ∨ k = 3 ∨ k = 4 ∨ k = 5 ∨ k = 6 ∨ k = 7 ∨ k = 8 ∨ k = 9 := by omega
theorem shapes_fields {k : Int} (h : 1 ≤ k ∧ k ≤ 9) : (Lib.fields (pickS shapeTxt k).data.toList).map (fun l => (⟨l.toArray⟩ : ByteArray)) = shapes k := by
  rcases nine_cases h with rfl | rfl | rfl | rfl | rfl | rfl | rfl | rfl | rfl <;> rfl
theorem shapeTxt_ascii {k : Int} (h : 1 ≤ k ∧ k ≤ 9) : ((pickS shapeTxt k).data.toList.all fun b => decide (b.toNat < 128)) = true := by
  rcases nine_cases h with rfl | rfl | rfl | rfl | rfl | rfl | rfl | rfl | rfl <;> decide +kernel
theorem shapeTxt_size {k : Int} (h : 1 ≤ k ∧ k ≤ 9) : (pickS shapeTxt k).size < 4294967281 := by
  rcases nine_cases h with rfl | rfl | rfl | rfl | rfl | rfl | rfl | rfl | rfl <;> decide +kernel
theorem shapes_len {k : Int} (h : 1 ≤ k ∧ k ≤ 9) : 1 ≤ (shapes k).length ∧ (shapes k).length ≤ 5 := by
  rcases nine_cases h with rfl | rfl | rfl | rfl | rfl | rfl | rfl | rfl | rfl <;> decide +kernel
theorem ascii_of_all' {l : List UInt8} (h : l.all (fun b => decide (b.toNat < 128)) = true) : ∀ (j : Nat) b, l[j]? = some b → b.toNat < 128 :=
  fun _ b hb => of_decide_eq_true (List.all_eq_true.1 h b (List.mem_of_getElem? hb))
theorem has_yes {ss : List ByteArray} {x : ByteArray} {i : Nat} (hi : i < ss.length) (h : ((ss.getD i ⟨#[]⟩).toList == x.toList) = true) : Lib.containsS ss x = true := by
  rw [Lib.containsS_iff]
  have e : ss.getD i ⟨#[]⟩ = x := by
    have := beq_iff_eq.1 h
    rw [ByteArray.toList_eq, ByteArray.toList_eq] at this
    exact ByteArray.ext (Array.toList_inj.1 this)
  rw [← e, List.getD_eq_getElem?_getD, List.getElem?_eq_getElem hi]
  exact List.getElem_mem hi
theorem has_no {ss : List ByteArray} {x : ByteArray} (h : ∀ i, i < ss.length → ((ss.getD i ⟨#[]⟩).toList == x.toList) = false) : Lib.containsS ss x = false := by
  cases hc : Lib.containsS ss x
  · rfl
  · exfalso
    obtain ⟨i, hi, rfl⟩ := List.getElem_of_mem ((Lib.containsS_iff _ _).1 hc)
    have := h i hi
    rw [List.getD_eq_getElem?_getD, List.getElem?_eq_getElem hi] at this
    simp at this
theorem l11KindM_c (n : Int) (v : Bool) (hv : inR n 1 9 = v) (w : World) :
    Calls Tryd.prog 41 #[.int .i64 n] w fun e w' => e = .returned (.bool v) ∧ w = w' := by
  subst hv
  go_enter Tryd.func41, Tryd.ntmps41
  go_wp2_with (go_at_call 77; refine (l00In_c _ _ _ _).mono ?_; rintro e w' ⟨rfl, rfl⟩)
  go_ret
  exact ⟨rfl, rfl⟩
theorem isMarkKindM_c (n : Int) (v : Bool) (hv : inR n 1 9 = v) (w : World) :
    Calls Tryd.prog 45 #[.int .i64 n] w fun e w' => e = .returned (.bool v) ∧ w = w' := by
  subst hv
  go_enter Tryd.func45, Tryd.ntmps45
  go_wp2_with (go_at_call 78; refine (within_c _ _ _ _).mono ?_; rintro e w' ⟨rfl, rfl⟩)
  go_ret
  exact ⟨rfl, rfl⟩
set_option maxHeartbeats 1000000 in
theorem markColors_c (k : Int) (w : World) :
    Calls Tryd.prog 46 #[.int .i64 k] w fun e w' => e = .returned (.string (pickS markCols k)) ∧ Below w.heap.size w w' := by
  go_enter Tryd.func46, Tryd.ntmps46
  go_wp2_with fail
  refine (pick_c markCols 10 rfl (by omega) _ _ _ (rowS_new w markCols 9)).mono ?_
  rintro e _ ⟨rfl, rfl⟩
  go_wp2
  go_ret
  exact ⟨rfl, (by repeat (first | exact Below.refl _ _ | refine Below.alloc ?_ (by simp; try omega) _ | refine Below.drew ?_))⟩
set_option maxHeartbeats 1000000 in
theorem markTop_c (k : Int) (w : World) :
    Calls Tryd.prog 48 #[.int .i64 k] w fun e w' => e = .returned (.string (pickS markTops k)) ∧ Below w.heap.size w w' := by
  go_enter Tryd.func48, Tryd.ntmps48
  go_wp2_with fail
  refine (pick_c markTops 10 rfl (by omega) _ _ _ (rowS_new w markTops 9)).mono ?_
  rintro e _ ⟨rfl, rfl⟩
  go_wp2
  go_ret
  exact ⟨rfl, (by repeat (first | exact Below.refl _ _ | refine Below.alloc ?_ (by simp; try omega) _ | refine Below.drew ?_))⟩
set_option maxHeartbeats 1000000 in
theorem l11Colors_c (k : Int) (h : 1 ≤ k ∧ k ≤ 9) (w : World) :
    Calls Tryd.prog 42 #[.int .i64 k] w fun e w' => e = .returned (.string (pickS markCols k)) ∧ Below w.heap.size w w' := by
  have hi := row_getS (ss := markCols) (k := k) ⟨by omega, by show k < 10; omega⟩
  have h0 : 0 ≤ k := by omega
  have h1 : k ≤ 9 := h.2
  generalize pickS markCols k = r at *
  simp only [markCols, List.map] at hi
  go_enter Tryd.func42, Tryd.ntmps42
  go_wp2
  go_ret
  exact ⟨rfl, (by repeat (first | exact Below.refl _ _ | refine Below.alloc ?_ (by simp; try omega) _ | refine Below.drew ?_))⟩
set_option maxHeartbeats 1000000 in
theorem l11Topmark_c (k : Int) (h : 1 ≤ k ∧ k ≤ 9) (w : World) :
    Calls Tryd.prog 44 #[.int .i64 k] w fun e w' => e = .returned (.string (pickS markTops k)) ∧ Below w.heap.size w w' := by
  have hi := row_getS (ss := markTops) (k := k) ⟨by omega, by show k < 10; omega⟩
  have h0 : 0 ≤ k := by omega
  have h1 : k ≤ 9 := h.2
  generalize pickS markTops k = r at *
  simp only [markTops, List.map] at hi
  go_enter Tryd.func44, Tryd.ntmps44
  go_wp2
  go_ret
  exact ⟨rfl, (by repeat (first | exact Below.refl _ _ | refine Below.alloc ?_ (by simp; try omega) _ | refine Below.drew ?_))⟩
set_option maxHeartbeats 2000000 in
theorem l11Shapes_c (k : Int) (h : 1 ≤ k ∧ k ≤ 9) (w : World) :
    Calls Tryd.prog 43 #[.int .i64 k] w fun e w' => ∃ g, e = .returned (.slice (some ⟨g, 0, none⟩) (shapes k).length (shapes k).length) ∧ RowS w' g (shapes k) ∧ g < w'.heap.size ∧ Below w.heap.size w w' := by
  rcases nine_cases h with rfl | rfl | rfl | rfl | rfl | rfl | rfl | rfl | rfl
  all_goals
    clear h
    go_enter Tryd.func43, Tryd.ntmps43
    go_wp2
    go_ret
    exact ⟨w.heap.size, rfl, rowS_new w (shapes _) 9, by simp, (by repeat (first | exact Below.refl _ _ | refine Below.alloc ?_ (by simp; try omega) _ | refine Below.drew ?_))⟩
def lays157_ren : Go.Shelf.Ren := ⟨fun | 157 => 80 | 229 => 101 | 199 => 102 | 261 => 111 | 311 => 120 | 312 => 121 | n => n, fun | 9 => 9 | 31 => 56 | 3 => 3 | 5 => 5 | 4 => 4 | 119 => 108 | 0 => 0 | 40 => 110 | 152 => 118 | 21 => 21 | 154 => 120 | 51 => 121 | 141 => 123 | 196 => 132 | 193 => 129 | 198 => 135 | 49 => 133 | 194 => 130 | 201 => 138 | 226 => 147 | 46 => 140 | 227 => 148 | n => n, fun | 0 => 0 | 6 => 1 | n => n⟩
theorem lays157 : Lays.n157 Tryd.prog lays157_ren where
  mixed := by kernel_rfl
  f157 := Tryd.func80.trans (congrArg some (by kernel_rfl))
  f199 := Tryd.func102.trans (congrArg some (by kernel_rfl))
  f229 := Tryd.func101.trans (congrArg some (by kernel_rfl))
  f261 := Tryd.func111.trans (congrArg some (by kernel_rfl))
  f311 := Tryd.func120.trans (congrArg some (by kernel_rfl))
  f312 := Tryd.func121.trans (congrArg some (by kernel_rfl))
  t0 := Tryd.underlying0
  a0 := Tryd.isAgg0
  z0 := Tryd.sizeOf0
  v0 := Tryd.zeroValue0
  t3 := Tryd.underlying3
  a3 := Tryd.isAgg3
  z3 := Tryd.sizeOf3
  v3 := Tryd.zeroValue3
  t4 := Tryd.underlying4
  a4 := Tryd.isAgg4
  z4 := Tryd.sizeOf4
  v4 := Tryd.zeroValue4
  t5 := Tryd.underlying5
  a5 := Tryd.isAgg5
  z5 := Tryd.sizeOf5
  v5 := Tryd.zeroValue5
  t9 := Tryd.underlying9
  a9 := Tryd.isAgg9
  z9 := Tryd.sizeOf9
  v9 := Tryd.zeroValue9
  t21 := Tryd.underlying21
  a21 := Tryd.isAgg21
  z21 := Tryd.sizeOf21
  v21 := Tryd.zeroValue21
  t31 := Tryd.underlying56
  a31 := Tryd.isAgg56
  z31 := Tryd.sizeOf56
  v31 := Tryd.zeroValue56
  t40 := Tryd.underlying110
  a40 := Tryd.isAgg110
  z40 := Tryd.sizeOf110
  v40 := Tryd.zeroValue110
  t46 := Tryd.underlying140
  a46 := Tryd.isAgg140
  z46 := Tryd.sizeOf140
  v46 := Tryd.zeroValue140
  t49 := Tryd.underlying133
  a49 := Tryd.isAgg133
  z49 := Tryd.sizeOf133
  v49 := Tryd.zeroValue133
  t51 := Tryd.underlying121
  a51 := Tryd.isAgg121
  z51 := Tryd.sizeOf121
  v51 := Tryd.zeroValue121
  t119 := Tryd.underlying108
  a119 := Tryd.isAgg108
  z119 := Tryd.sizeOf108
  t141 := Tryd.underlying123
  a141 := Tryd.isAgg123
  z141 := Tryd.sizeOf123
  v141 := Tryd.zeroValue123
  t152 := Tryd.underlying118
  a152 := Tryd.isAgg118
  z152 := Tryd.sizeOf118
  v152 := Tryd.zeroValue118
  t154 := Tryd.underlying120
  a154 := Tryd.isAgg120
  z154 := Tryd.sizeOf120
  v154 := Tryd.zeroValue120
  t193 := Tryd.underlying129
  a193 := Tryd.isAgg129
  z193 := Tryd.sizeOf129
  v193 := Tryd.zeroValue129
  t194 := Tryd.underlying130
  a194 := Tryd.isAgg130
  z194 := Tryd.sizeOf130
  v194 := Tryd.zeroValue130
  t196 := Tryd.underlying132
  a196 := Tryd.isAgg132
  z196 := Tryd.sizeOf132
  v196 := Tryd.zeroValue132
  t198 := Tryd.underlying135
  a198 := Tryd.isAgg135
  z198 := Tryd.sizeOf135
  v198 := Tryd.zeroValue135
  t201 := Tryd.underlying138
  a201 := Tryd.isAgg138
  z201 := Tryd.sizeOf138
  v201 := Tryd.zeroValue138
  t226 := Tryd.underlying147
  a226 := Tryd.isAgg147
  z226 := Tryd.sizeOf147
  v226 := Tryd.zeroValue147
  t227 := Tryd.underlying148
  a227 := Tryd.isAgg148
  z227 := Tryd.sizeOf148
  v227 := Tryd.zeroValue148
  g0 := by kernel_rfl
  g6 := by kernel_rfl
theorem fieldsM_c (k : Int) (h : 1 ≤ k ∧ k ≤ 9) (w : World) (hT : Spaces w) :
    Calls Tryd.prog 80 #[.string (pickS shapeTxt k)] w fun e w' => e = .returned (.slice (some ⟨w.heap.size, 0, none⟩) (shapes k).length (shapes k).length) ∧ w' = w.alloc (.cells ((shapes k).map Value.string).toArray 9) := by
  have hf := shapes_fields h
  have hl : (Lib.fields (pickS shapeTxt k).data.toList).length = (shapes k).length := by rw [← hf, List.length_map]
  refine (Any.strings_Fields lays157 (by kernel_rfl) (by kernel_rfl) (pickS shapeTxt k) w (shapeTxt_size h) (ascii_of_all' (shapeTxt_ascii h)) hT).mono ?_
  rintro e w' ⟨rfl, rfl⟩
  rw [hl, ← hf, List.map_map]
  exact ⟨rfl, rfl⟩
set_option maxHeartbeats 2000000 in
theorem markShapes_c (k : Int) (h : 1 ≤ k ∧ k ≤ 9) (w : World) (hT : Spaces w) :
    Calls Tryd.prog 47 #[.int .i64 k] w fun e w' => ∃ g, e = .returned (.slice (some ⟨g, 0, none⟩) (shapes k).length (shapes k).length) ∧ RowS w' g (shapes k) ∧ g < w'.heap.size ∧ Below w.heap.size w w' := by
  have HF := Lib.hid (fun W hW => fieldsM_c k h W hW)
  go_enter Tryd.func47, Tryd.ntmps47
  go_wp2_with fail
  refine (pick_c shapeTxt 10 rfl (by omega) _ _ _ (rowS_new w shapeTxt 9)).mono ?_
  rintro e _ ⟨rfl, rfl⟩
  have hT2 := hT.below (w' := w.alloc (.cells (shapeTxt.map Value.string).toArray 9)) (by repeat (first | exact Below.refl _ _ | refine Below.alloc ?_ (by simp; try omega) _ | refine Below.drew ?_))
  go_wp2_with fail
  refine (HF.out _ hT2).mono ?_
  rintro e _ ⟨rfl, rfl⟩
  have hr := rowS_new (w.alloc (.cells (shapeTxt.map Value.string).toArray 9)) (shapes k) 9
  have HR := Lib.hid hr
  clear hr
  go_wp2
  go_ret
  exact ⟨_, rfl, by simpa only [World.size_alloc] using HR.out, by simp, (by repeat (first | exact Below.refl _ _ | refine Below.alloc ?_ (by simp; try omega) _ | refine Below.drew ?_))⟩
end Go.Proofs.YtolijmldobncbaaDoor
