/- MarkText on both sides. -/
import Derived.Test.YtolijmldobncbaaDoorMarkC
import Derived.Test.YtolijmldobncbaaDoorQPlan
import Derived.Shelf.Strings.OnBuilder
import Derived.Shelf.Lays
namespace Go.Proofs.YtolijmldobncbaaDoor
open Go Go.RowKit Go.Shelf
/-- The topmark as it is written. -/
def topT (t : ByteArray) : ByteArray := if t.toList.isEmpty then (⟨#[45]⟩ : ByteArray) else t
/-- The text of a mark of a kind. -/
def markTxt (nm c sh t : ByteArray) : ByteArray := nm ++ (⟨#[32]⟩ : ByteArray) ++ c ++ (⟨#[32]⟩ : ByteArray) ++ sh ++ (⟨#[32]⟩ : ByteArray) ++ topT t
set_option maxHeartbeats 4000000 in
theorem l11Text_c (g : Nat) (k : Int) (h : 1 ≤ k ∧ k ≤ 9) (c sh t : ByteArray) (h1 : c.size ≤ 1048576) (h2 : sh.size ≤ 1048576) (h3 : t.size ≤ 1048576) (w : World) (c0 : w.cell? ⟨g, 0, none⟩ = some (.int .i64 k)) (c1 : w.cell? ⟨g, 1, none⟩ = some (.string c)) (c2 : w.cell? ⟨g, 2, none⟩ = some (.string sh)) (c3 : w.cell? ⟨g, 3, none⟩ = some (.string t)) :
    Calls Tryd.prog 56 #[.pointer (some ⟨g, 0, none⟩)] w fun e w' => e = .returned (.string (markTxt (pickS markNames k) c sh t)) ∧ Below w.heap.size w w' := by
  have hz : ((k : Int) == 0) = false := by simp; omega
  have hg : g < w.heap.size := cell_lt c0
  have k0 : ∀ y : Aft w, y.w1.cell? ⟨g, 0, none⟩ = some (.int .i64 k) := fun y => y.cell hg c0
  have k1 : ∀ y : Aft w, y.w1.cell? ⟨g, 1, none⟩ = some (.string c) := fun y => y.cell hg c1
  have k2 : ∀ y : Aft w, y.w1.cell? ⟨g, 2, none⟩ = some (.string sh) := fun y => y.cell hg c2
  have HN := Lib.hid (fun W => specNames_c W)
  have hk0 : 0 ≤ k := by omega
  have hk1 : k < 10 := by omega
  have hkn : k.toNat < markNames.length := by show k.toNat < 10; omega
  have hnm : pickS markNames k = markNames.getD k.toNat ⟨#[]⟩ := pickS_in ⟨hk0, hk1⟩
  have hns : (pickS markNames k).size ≤ 10 := by
    rcases nine_cases h with rfl | rfl | rfl | rfl | rfl | rfl | rfl | rfl | rfl <;> decide +kernel
  obtain ⟨nm, hnm2⟩ : ∃ nm, pickS markNames k = nm := ⟨_, rfl⟩
  rw [hnm2] at hnm hns ⊢
  have hts : (topT t).size ≤ 1048576 := by unfold topT; split; · decide
                                           · exact h3
  have htt : (t.toList.isEmpty = true ∧ topT t = (⟨#[45]⟩ : ByteArray)) ∨ (t.toList.isEmpty = false ∧ topT t = t) := by
    unfold topT
    cases t.toList.isEmpty
    · right; exact ⟨rfl, rfl⟩
    · left; exact ⟨rfl, rfl⟩
  have HX := Lib.hid (show markTxt nm c sh t = nm ++ (⟨#[32]⟩ : ByteArray) ++ c ++ (⟨#[32]⟩ : ByteArray) ++ sh ++ (⟨#[32]⟩ : ByteArray) ++ topT t from rfl)
  have HNM := Lib.hid hnm
  clear hnm hnm2
  clear h hg c1 c2
  rcases htt with ⟨v3, ht⟩ | ⟨v3, ht⟩
  all_goals
    rw [ht] at hts HX
    clear ht
    go_enter Tryd.func56, Tryd.ntmps56
    go_wp2_with fail
    have hb0 : Below w.heap.size w w.drew := (Below.refl _ _).drew
    refine wp_region_plan (C := fun w' => ∃ x : Aft w, w' = x.w1) [(1, true), (2, true), (3, true), (4, true), (8, true), (9, true), (10, true), (11, true), (14, true), (15, true), (16, true), (17, true), (20, true), (0, false), (5, true), (6, true), (7, true), (12, true), (13, true), (18, true), (19, true), (21, true)] (by kernel_rfl) (by kernel_rfl) (fun _ _ d _ _ h => by cases d <;> exact h) ⟨⟨_, hb0⟩, rfl⟩ ?_
    iterate 13 (refine plan_look rfl rfl (by rintro _ ⟨x, rfl⟩; go_simp; rfl) ?_; go_simp)
    refine plan_turn rfl rfl ?_
    go_simp
    refine (HN.out _).mono ?_
    rintro e _ ⟨rfl, rfl⟩
    have hb5 : Below w.heap.size w (w.drew.alloc (.cells (markNames.map Value.string).toArray 9)) := hb0.alloc hb0.size _
    have r0 : ∀ y : Aft (w.drew.alloc (.cells (markNames.map Value.string).toArray 9)), y.w1.cell? ⟨w.drew.heap.size, k.toNat, none⟩ = some (.string nm) := fun y => by
      rw [HNM.out]
      exact rowS_aft (rowS_new w.drew markNames 9) (by simp) y _ hkn
    refine ⟨fun w' => ∃ x : Aft (w.drew.alloc (.cells (markNames.map Value.string).toArray 9)), w' = x.w1, aft_within hb5, aft_self _, ?_⟩
    generalize w.drew.alloc (.cells (markNames.map Value.string).toArray 9) = w5 at *
    generalize w.drew.heap.size = g5 at *
    iterate 8 (refine plan_look rfl rfl (by rintro _ ⟨x, rfl⟩; go_simp; first | rfl | rw [if_neg (by first | omega | (simp only [ByteArray.size_append]; omega))]) ?_; go_simp)
    refine plan_end ?_
    go_wp2
    go_ret
    exact ⟨by rw [HX.out]; rfl, hb5⟩
def lays156_ren : Go.Shelf.Ren := ⟨fun | 156 => 58 | 165 => 92 | 166 => 93 | 169 => 94 | 240 => 107 | 241 => 108 | 276 => 115 | 277 => 116 | n => n, fun | 31 => 56 | 9 => 9 | 3 => 3 | 4 => 4 | 0 => 0 | 20 => 20 | 72 => 96 | 76 => 100 | 70 => 94 | 37 => 62 | 75 => 99 | 127 => 115 | 164 => 125 | 5 => 5 | 80 => 102 | n => n, fun  | n => n⟩
theorem lays156 : Lays.n156 Tryd.prog lays156_ren where
  mixed := by kernel_rfl
  f156 := Tryd.func58.trans (congrArg some (by kernel_rfl))
  f165 := Tryd.func92.trans (congrArg some (by kernel_rfl))
  f166 := Tryd.func93.trans (congrArg some (by kernel_rfl))
  f169 := Tryd.func94.trans (congrArg some (by kernel_rfl))
  f240 := Tryd.func107.trans (congrArg some (by kernel_rfl))
  f241 := Tryd.func108.trans (congrArg some (by kernel_rfl))
  f276 := Tryd.func115.trans (congrArg some (by kernel_rfl))
  f277 := Tryd.func116.trans (congrArg some (by kernel_rfl))
  t0 := Tryd.underlying0
  a0 := Tryd.isAgg0
  z0 := Tryd.sizeOf0
  v0 := Tryd.zeroValue0
  t3 := Tryd.underlying3
  a3 := Tryd.isAgg3
  z3 := Tryd.sizeOf3
  v3 := Tryd.zeroValue3
  t4 := Tryd.underlying4
  a4 := Tryd.isAgg4
  z4 := Tryd.sizeOf4
  v4 := Tryd.zeroValue4
  t9 := Tryd.underlying9
  a9 := Tryd.isAgg9
  z9 := Tryd.sizeOf9
  v9 := Tryd.zeroValue9
  t20 := Tryd.underlying20
  a20 := Tryd.isAgg20
  z20 := Tryd.sizeOf20
  v20 := Tryd.zeroValue20
  t31 := Tryd.underlying56
  a31 := Tryd.isAgg56
  z31 := Tryd.sizeOf56
  v31 := Tryd.zeroValue56
  t37 := Tryd.underlying62
  a37 := Tryd.isAgg62
  z37 := Tryd.sizeOf62
  v37 := Tryd.zeroValue62
  t70 := Tryd.underlying94
  a70 := Tryd.isAgg94
  z70 := Tryd.sizeOf94
  v70 := Tryd.zeroValue94
  t72 := Tryd.underlying96
  a72 := Tryd.isAgg96
  z72 := Tryd.sizeOf96
  v72 := Tryd.zeroValue96
  t75 := Tryd.underlying99
  a75 := Tryd.isAgg99
  z75 := Tryd.sizeOf99
  v75 := Tryd.zeroValue99
  t76 := Tryd.underlying100
  a76 := Tryd.isAgg100
  z76 := Tryd.sizeOf100
  v76 := Tryd.zeroValue100
  t127 := Tryd.underlying115
  a127 := Tryd.isAgg115
  z127 := Tryd.sizeOf115
  v127 := Tryd.zeroValue115
  t164 := Tryd.underlying125
  a164 := Tryd.isAgg125
  z164 := Tryd.sizeOf125
  v164 := Tryd.zeroValue125
theorem builder156 : Builder.Extra Tryd.prog lays156_ren where
  sizeBuilder := by kernel_rfl
  liesBuilder := by kernel_rfl
  t5 := Tryd.underlying5
  a5 := Tryd.isAgg5
  z5 := Tryd.sizeOf5
  v5 := Tryd.zeroValue5
  infoByte := by kernel_rfl
  cellsByte := by kernel_rfl
  sizeByte := by kernel_rfl
  neB5 := by decide
theorem join4 (a b c d : ByteArray) : (⟨(Lib.join ([a, b, c, d].map (·.data.toList)) ((⟨#[32]⟩ : ByteArray)).data.toList).toArray⟩ : ByteArray) = a ++ (⟨#[32]⟩ : ByteArray) ++ b ++ (⟨#[32]⟩ : ByteArray) ++ c ++ (⟨#[32]⟩ : ByteArray) ++ d := by
  apply ByteArray.ext
  apply Array.toList_inj.1
  simp [Lib.join_cons, Lib.joinTail, ByteArray.data_append]
set_option maxHeartbeats 1000000 in
theorem join4_c (g : Nat) (a b c d : ByteArray) (h1 : a.size ≤ 1048576) (h2 : b.size ≤ 1048576) (h3 : c.size ≤ 1048576) (h4 : d.size ≤ 1048576) (w : World) (hg : g < w.heap.size) (hr : RowS w g [a, b, c, d]) :
    Calls Tryd.prog 58 #[.slice (some ⟨g, 0, none⟩) 4 4, .string (⟨#[32]⟩ : ByteArray)] w fun e w' => e = .returned (.string (a ++ (⟨#[32]⟩ : ByteArray) ++ b ++ (⟨#[32]⟩ : ByteArray) ++ c ++ (⟨#[32]⟩ : ByteArray) ++ d)) ∧ Below w.heap.size w w' := by
  have h := Any.strings_Join lays156 builder156 g 0 4 [a, b, c, d] (⟨#[32]⟩ : ByteArray) w (fun j x hx => by
    have hj : j < 4 := (List.getElem?_eq_some_iff.1 hx).1
    rw [Nat.zero_add, hr j hj, List.getD_eq_getElem?_getD, hx]
    rfl) hg (by simp) (by simp) (by
      rw [List.map_cons, Lib.join_length]
      have e : ((⟨#[32]⟩ : ByteArray)).data.toList.length = 1 := rfl
      simp only [e, Lib.lens, List.map_cons, List.map_nil, List.length_cons, List.length_nil, List.sum_cons, List.sum_nil, Array.length_toList]
      have q1 : a.data.size ≤ 1048576 := h1
      have q2 : b.data.size ≤ 1048576 := h2
      have q3 : c.data.size ≤ 1048576 := h3
      have q4 : d.data.size ≤ 1048576 := h4
      omega)
  rw [join4] at h
  exact h
set_option maxHeartbeats 4000000 in
theorem implMarkText_in (k : Int) (h : 1 ≤ k ∧ k ≤ 9) (c sh t : ByteArray) (h1 : c.size ≤ 1048576) (h2 : sh.size ≤ 1048576) (h3 : t.size ≤ 1048576) (hv : okM k c sh t = true) (w : World) (hT : Spaces w) :
    Calls Tryd.prog 27 #[.agg #[.int .i64 k, .string c, .string sh, .string t]] w fun e w' => e = .returned (.string (markTxt (pickS markNames k) c sh t)) ∧ Below w.heap.size w w' := by
  have hz : ((k : Int) == 0) = false := by simp; omega
  have HV := Lib.hid (fun W hW => validMark_c k c sh t W hW)
  rw [hv] at HV
  go_enter Tryd.func27, Tryd.ntmps27
  go_wp2_with fail
  generalize hW : w.alloc (.cells #[.int .i64 k, .string c, .string sh, .string t] 23) = W at *
  have hbW : Below w.heap.size w W := hW ▸ (by repeat (first | exact Below.refl _ _ | refine Below.alloc ?_ (by simp; try omega) _ | refine Below.drew ?_))
  have hTW := hT.below hbW
  have k0 : ∀ y : Aft W, y.w1.cell? ⟨w.heap.size, 0, none⟩ = some (.int .i64 k) := by subst hW; exact fun y => y.new rfl
  have k1 : ∀ y : Aft W, y.w1.cell? ⟨w.heap.size, 1, none⟩ = some (.string c) := by subst hW; exact fun y => y.new rfl
  have k2 : ∀ y : Aft W, y.w1.cell? ⟨w.heap.size, 2, none⟩ = some (.string sh) := by subst hW; exact fun y => y.new rfl
  have k3 : ∀ y : Aft W, y.w1.cell? ⟨w.heap.size, 3, none⟩ = some (.string t) := by subst hW; exact fun y => y.new rfl
  clear hW hT
  refine (HV.out _ hTW).mono ?_
  rintro e w1 ⟨rfl, hb1⟩
  obtain ⟨x1, rfl⟩ : ∃ x : Aft W, w1 = x.w1 := ⟨⟨w1, hb1⟩, rfl⟩
  have q0 := k0 x1
  have q1 := k1 x1
  have q2 := k2 x1
  have q3 := k3 x1
  clear hb1
  have HN := Lib.hid (fun W => markName_c k W)
  have hns : (pickS markNames k).size ≤ 1048576 := by
    rcases nine_cases h with rfl | rfl | rfl | rfl | rfl | rfl | rfl | rfl | rfl <;> decide +kernel
  have hts : (topT t).size ≤ 1048576 := by unfold topT; split; · decide
                                           · exact h3
  have HJ := Lib.hid (fun G W hg hr => join4_c G (pickS markNames k) c sh (topT t) hns h1 h2 hts W hg hr)
  obtain ⟨nm, hnm⟩ : ∃ nm, pickS markNames k = nm := ⟨_, rfl⟩
  rw [hnm] at HN HJ
  have HX := Lib.hid (show markTxt (pickS markNames k) c sh t = nm ++ (⟨#[32]⟩ : ByteArray) ++ c ++ (⟨#[32]⟩ : ByteArray) ++ sh ++ (⟨#[32]⟩ : ByteArray) ++ topT t by rw [hnm]; rfl)
  have htt : (t.toList.isEmpty = true ∧ topT t = (⟨#[45]⟩ : ByteArray)) ∨ (t.toList.isEmpty = false ∧ topT t = t) := by
    unfold topT
    cases t.toList.isEmpty
    · right; exact ⟨rfl, rfl⟩
    · left; exact ⟨rfl, rfl⟩
  clear h hnm hns hts hv HV h1 h2 h3
  have hb0 : Below W.heap.size W x1.w1.drew := x1.below.drew
  rcases htt with ⟨v3, ht⟩ | ⟨v3, ht⟩
  · rw [ht] at HJ HX
    clear ht
    go_wp2_with fail
    refine wp_region_plan (C := fun w' => ∃ x : Aft W, w' = x.w1) [(0, true), (1, true), (3, true), (4, true), (5, true), (6, true), (7, true), (2, false), (8, false), (9, false)] (by kernel_rfl) (by kernel_rfl) (fun _ _ d _ _ h => by cases d <;> exact h) ⟨⟨_, hb0⟩, rfl⟩ ?_
    iterate 7 (refine plan_look rfl rfl (by rintro _ ⟨x, rfl⟩; go_simp; rfl) ?_; go_simp)
    refine plan_alone rfl rfl ?_
    go_simp
    refine (HN.out _).mono ?_
    rintro e w4 ⟨rfl, hb4⟩
    have b4 := held_next hb0 hb4
    refine ⟨⟨⟨_, b4⟩, rfl⟩, ?_⟩
    refine plan_alone rfl rfl ?_
    go_simp
    have b5 := b4.alloc b4.size (.cells ([nm, c, sh, (⟨#[45]⟩ : ByteArray)].map Value.string).toArray 9)
    refine ⟨⟨⟨_, b5⟩, rfl⟩, ?_⟩
    refine plan_alone rfl rfl ?_
    go_simp
    refine (HJ.out w4.heap.size _ (by simp) (rowS_new w4 [nm, c, sh, (⟨#[45]⟩ : ByteArray)] 9)).mono ?_
    rintro e w6 ⟨rfl, hb6⟩
    have b6 := held_next b5 hb6
    refine ⟨⟨⟨_, b6⟩, rfl⟩, ?_⟩
    refine plan_end ?_
    go_wp2
    go_ret
    exact ⟨by rw [HX.out]; rfl, held_next hbW b6⟩
  · rw [ht] at HJ HX
    clear ht
    go_wp2_with fail
    refine wp_region_plan (C := fun w' => ∃ x : Aft W, w' = x.w1) [(0, true), (1, true), (3, true), (4, true), (5, true), (6, true), (7, true), (2, false), (8, false), (9, false)] (by kernel_rfl) (by kernel_rfl) (fun _ _ d _ _ h => by cases d <;> exact h) ⟨⟨_, hb0⟩, rfl⟩ ?_
    iterate 7 (refine plan_look rfl rfl (by rintro _ ⟨x, rfl⟩; go_simp; rfl) ?_; go_simp)
    refine plan_alone rfl rfl ?_
    go_simp
    refine (HN.out _).mono ?_
    rintro e w4 ⟨rfl, hb4⟩
    have b4 := held_next hb0 hb4
    refine ⟨⟨⟨_, b4⟩, rfl⟩, ?_⟩
    refine plan_alone rfl rfl ?_
    go_simp
    have b5 := b4.alloc b4.size (.cells ([nm, c, sh, t].map Value.string).toArray 9)
    refine ⟨⟨⟨_, b5⟩, rfl⟩, ?_⟩
    refine plan_alone rfl rfl ?_
    go_simp
    refine (HJ.out w4.heap.size _ (by simp) (rowS_new w4 [nm, c, sh, t] 9)).mono ?_
    rintro e w6 ⟨rfl, hb6⟩
    have b6 := held_next b5 hb6
    refine ⟨⟨⟨_, b6⟩, rfl⟩, ?_⟩
    refine plan_end ?_
    go_wp2
    go_ret
    exact ⟨by rw [HX.out]; rfl, held_next hbW b6⟩
/-- The text of a mark. -/
def markTextS (k : Int) (c sh t : ByteArray) : ByteArray := if okM k c sh t = true then (if 1 ≤ k ∧ k ≤ 9 then markTxt (pickS markNames k) c sh t else (⟨#[110, 111, 110, 101]⟩ : ByteArray)) else ⟨#[]⟩
theorem okM_zero {k : Int} {c sh t : ByteArray} (h : ¬ (1 ≤ k ∧ k ≤ 9)) (hv : okM k c sh t = true) : k = 0 := by
  unfold okM at hv
  rw [if_neg h, dMark] at hv
  simp only [Bool.and_eq_true, beq_iff_eq] at hv
  exact hv.1.1.1
theorem szMark2_c (x0 : Int) (x1 : ByteArray) (x2 : ByteArray) (x3 : ByteArray) (left : Int) (h1 : x1.size ≤ maxLen) (h2 : x2.size ≤ maxLen) (h3 : x3.size ≤ maxLen) (l0 : 0 ≤ left) (l1 : left ≤ 1048576) (w : World) :
    Calls Tryd.prog 15 #[.agg #[.int .i64 x0, .string x1, .string x2, .string x3], .int .i64 left] w (SzPost (x1.size + x2.size + x3.size) left w) := by
  unfold maxLen at h1 h2 h3
  go_enter Tryd.func15, Tryd.ntmps15
  go_wp2
  all_goals
    go_ret
    first
      | exact ⟨.inl rfl, (by repeat (first | exact Below.refl _ _ | refine Below.alloc ?_ (by simp; try omega) _ | refine Below.drew ?_))⟩
      | exact ⟨.inr ⟨_, by omega, by omega, rfl⟩, (by repeat (first | exact Below.refl _ _ | refine Below.alloc ?_ (by simp; try omega) _ | refine Below.drew ?_))⟩
set_option maxHeartbeats 4000000 in
theorem implMarkText_c (k : Int) (c sh t : ByteArray) (h1 : c.size ≤ 1048576) (h2 : sh.size ≤ 1048576) (h3 : t.size ≤ 1048576) (w : World) (hT : Spaces w) :
    Calls Tryd.prog 27 #[.agg #[.int .i64 k, .string c, .string sh, .string t]] w fun e w' => e = .returned (.string (markTextS k c sh t)) ∧ Below w.heap.size w w' := by
  cases hv : okM k c sh t
  · have HX := Lib.hid (show markTextS k c sh t = ⟨#[]⟩ by unfold markTextS; rw [hv]; rfl)
    have HV := Lib.hid (fun W hW => validMark_c k c sh t W hW)
    rw [hv] at HV
    go_enter Tryd.func27, Tryd.ntmps27
    go_wp2_with fail
    refine (HV.out _ (hT.below (by repeat (first | exact Below.refl _ _ | refine Below.alloc ?_ (by simp; try omega) _ | refine Below.drew ?_)))).mono ?_
    rintro e w1 ⟨rfl, hb1⟩
    go_wp2
    go_ret
    exact ⟨by rw [HX.out]; rfl, below_box hb1⟩
  · by_cases h : 1 ≤ k ∧ k ≤ 9
    · have HX : markTextS k c sh t = markTxt (pickS markNames k) c sh t := by unfold markTextS; rw [if_pos hv, if_pos h]
      rw [HX]
      exact implMarkText_in k h c sh t h1 h2 h3 hv w hT
    · have hk := okM_zero h hv
      subst hk
      have HX := Lib.hid (show markTextS 0 c sh t = pickS markNames 0 by unfold markTextS; rw [if_pos hv, if_neg h]; rfl)
      have HV := Lib.hid (fun W hW => validMark_c 0 c sh t W hW)
      have HN := Lib.hid (fun W => markName_c 0 W)
      rw [hv] at HV
      generalize pickS markNames 0 = nm at *
      clear h hv
      go_enter Tryd.func27, Tryd.ntmps27
      go_wp2_with fail
      generalize hW : w.alloc (.cells #[.int .i64 0, .string c, .string sh, .string t] 23) = W at *
      have hbW : Below w.heap.size w W := hW ▸ (by repeat (first | exact Below.refl _ _ | refine Below.alloc ?_ (by simp; try omega) _ | refine Below.drew ?_))
      have k0 : ∀ y : Aft W, y.w1.cell? ⟨w.heap.size, 0, none⟩ = some (.int .i64 0) := by subst hW; exact fun y => y.new rfl
      clear hW
      refine (HV.out _ (hT.below hbW)).mono ?_
      rintro e w1 ⟨rfl, hb1⟩
      obtain ⟨x1, rfl⟩ : ∃ x : Aft W, w1 = x.w1 := ⟨⟨w1, hb1⟩, rfl⟩
      have q0 := k0 x1
      clear hb1 k0
      go_wp2_with fail
      refine (HN.out _).mono ?_
      rintro e w2 ⟨rfl, hb2⟩
      go_wp2
      go_ret
      exact ⟨by rw [HX.out]; rfl, held_next hbW (held_next x1.below hb2)⟩
set_option maxHeartbeats 4000000 in
theorem specMarkText_c (k : Int) (c sh t : ByteArray) (h1 : c.size ≤ 1048576) (h2 : sh.size ≤ 1048576) (h3 : t.size ≤ 1048576) (w : World) :
    Calls Tryd.prog 26 #[.agg #[.int .i64 k, .string c, .string sh, .string t]] w fun e w' => e = .returned (.string (markTextS k c sh t)) ∧ Below w.heap.size w w' := by
  have HT : Hid (∀ (g : Nat) (W : World), okM k c sh t = true → W.cell? ⟨g, 0, none⟩ = some (.int .i64 k) → W.cell? ⟨g, 1, none⟩ = some (.string c) → W.cell? ⟨g, 2, none⟩ = some (.string sh) → W.cell? ⟨g, 3, none⟩ = some (.string t) →
      Calls Tryd.prog 56 #[.pointer (some ⟨g, 0, none⟩)] W fun e w' => e = .returned (.string (markTextS k c sh t)) ∧ Below W.heap.size W w') := by
    refine Lib.hid fun g W hv c0 c1 c2 c3 => ?_
    by_cases h : 1 ≤ k ∧ k ≤ 9
    · have HX : markTextS k c sh t = markTxt (pickS markNames k) c sh t := by unfold markTextS; rw [if_pos hv, if_pos h]
      rw [HX]
      exact l11Text_c g k h c sh t h1 h2 h3 W c0 c1 c2 c3
    · have hk := okM_zero h hv
      subst hk
      have HX := Lib.hid (show markTextS 0 c sh t = (⟨#[110, 111, 110, 101]⟩ : ByteArray) by unfold markTextS; rw [if_pos hv, if_neg h])
      clear h hv
      go_enter Tryd.func56, Tryd.ntmps56
      go_wp2
      go_ret
      exact ⟨by rw [HX.out]; rfl, Below.refl _ _⟩
  cases hv : okM k c sh t
  · have HX := Lib.hid (show markTextS k c sh t = ⟨#[]⟩ by unfold markTextS; rw [hv]; rfl)
    clear HT
    go_enter Tryd.func26, Tryd.ntmps26
    go_wp2_with fail
    refine (l11Ok_c _ k c sh t _ (by simp [go_sem]) (by simp [go_sem]) (by simp [go_sem]) (by simp [go_sem])).mono ?_
    rintro e w1 ⟨rfl, hb1⟩
    rw [hv]
    go_wp2
    go_ret
    exact ⟨by rw [HX.out]; rfl, below_box hb1⟩
  · have HV := Lib.hid hv
    go_enter Tryd.func26, Tryd.ntmps26
    go_wp2_with fail
    generalize hW : w.alloc (.cells #[.int .i64 k, .string c, .string sh, .string t] 23) = W at *
    have hbW : Below w.heap.size w W := hW ▸ (by repeat (first | exact Below.refl _ _ | refine Below.alloc ?_ (by simp; try omega) _ | refine Below.drew ?_))
    have k0 : ∀ y : Aft W, y.w1.cell? ⟨w.heap.size, 0, none⟩ = some (.int .i64 k) := by subst hW; exact fun y => y.new rfl
    have k1 : ∀ y : Aft W, y.w1.cell? ⟨w.heap.size, 1, none⟩ = some (.string c) := by subst hW; exact fun y => y.new rfl
    have k2 : ∀ y : Aft W, y.w1.cell? ⟨w.heap.size, 2, none⟩ = some (.string sh) := by subst hW; exact fun y => y.new rfl
    have k3 : ∀ y : Aft W, y.w1.cell? ⟨w.heap.size, 3, none⟩ = some (.string t) := by subst hW; exact fun y => y.new rfl
    clear hW
    refine (l11Ok_c _ k c sh t _ (k0 ⟨W, Below.refl _ _⟩) (k1 ⟨W, Below.refl _ _⟩) (k2 ⟨W, Below.refl _ _⟩) (k3 ⟨W, Below.refl _ _⟩)).mono ?_
    rintro e w1 ⟨rfl, hb1⟩
    rw [HV.out]
    obtain ⟨x1, rfl⟩ : ∃ x : Aft W, w1 = x.w1 := ⟨⟨w1, hb1⟩, rfl⟩
    clear hb1
    go_wp2_with fail
    refine (HT.out _ _ HV.out (k0 x1) (k1 x1) (k2 x1) (k3 x1)).mono ?_
    rintro e w2 ⟨rfl, hb2⟩
    go_wp2
    go_ret
    exact ⟨rfl, held_next hbW (held_next x1.below hb2)⟩
end Go.Proofs.YtolijmldobncbaaDoor
