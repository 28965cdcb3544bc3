/- KindsLike: the program's side (printed by gen_kinds.py). -/
import Derived.Test.YtolijmldobncbaaDoorKinds
import Derived.Test.YtolijmldobncbaaDoorMarkB
namespace Go.Proofs.YtolijmldobncbaaDoor
open Go Go.RowKit Go.Shelf
set_option maxRecDepth 100000 in
set_option maxHeartbeats 16000000 in
theorem implKinds_c (c sh t : ByteArray) (w : World) (hT : Spaces w) :
    Calls Tryd.prog 20 #[.string c, .string sh, .string t] w fun e w' => ∃ v, e = .returned v ∧ w'.ownsRow w.heap.size 2 1 v (kindsTo c sh t 9).length (vals (kindsTo c sh t 9)) ∧ Below w.heap.size w w' := by
  obtain ⟨i0, hi0, hz0, hz1, hz2⟩ := info_parts (show (Tryd.prog.info? 2).map (fun i => (i.zero, i.size, i.bytes)) = some (some (.int .i64 0), 1, 8) by kernel_rfl)
  have hown0 : (w.alloc (.cells #[] 2)).ownsRow w.heap.size 2 1 (.slice (some ⟨w.heap.size, 0, none⟩) 0 0) 0 [] := ownsRow_at (cs := #[]) rfl (Nat.le_refl _) rfl (by omega) rfl
  go_enter Tryd.func20, Tryd.ntmps20
  go_wp2
  go_loopw [7, 8] (fun v i wr => ∃ (q : Nat), q ≤ 9 ∧ i = .int .i64 ((q : Int) + 1) ∧ Below w.heap.size w wr ∧ wr.ownsRow w.heap.size 2 1 v (kindsTo c sh t q).length (vals (kindsTo c sh t q))) (fun _ i _ => (10 - intOf i).toNat)
  case atStart => exact ⟨0, by omega, rfl, (by repeat (first | exact Below.refl _ _ | refine Below.alloc ?_ (by simp; try omega) _ | refine Below.drew ?_)), hown0⟩
  case round =>
    clear hown0
    obtain ⟨q, hq, rfl, hbel, hown⟩ := hrel
    by_cases hlt : q < 9
    · obtain ⟨W0, x, hbW, hoW, rfl⟩ : ∃ (W0 : World) (x : Aft W0), Below w.heap.size w W0 ∧ W0.ownsRow w.heap.size 2 1 _ (kindsTo c sh t q).length (vals (kindsTo c sh t q)) ∧ wr = x.w1 := ⟨wr, ⟨wr, Below.refl _ _⟩, hbel, hown, rfl⟩
      have hTW := hT.below hbW
      clear hbel hown
      have hk : 1 ≤ (q : Int) + 1 ∧ (q : Int) + 1 ≤ 9 := by omega
      have HC := Lib.hid (fun W => markColors_c ((q : Int) + 1) W)
      have HT := Lib.hid (fun W => markTop_c ((q : Int) + 1) W)
      have HS := Lib.hid (fun W hW => markShapes_c ((q : Int) + 1) hk W hW)
      have HX := Lib.hid (fun W G hR => contains_c (shapes ((q : Int) + 1)) G sh W (shapes_len hk).2 hR)
      have hY := kindsTo_yes (c := c) (sh := sh) (t := t) (k := q)
      have hN := kindsTo_no (c := c) (sh := sh) (t := t) (k := q)
      have q4 : ((kindsTo c sh t q).length + 1) * 8 ≤ 140737488355328 := by have := kindsTo_len c sh t q; omega
      have HAL : ∀ y : Aft W0, Hid ((y.w1.alloc (.cells #[.int .i64 ((q : Int) + 1)] 2)).ownsRow w.heap.size 2 1 _ (kindsTo c sh t q).length (vals (kindsTo c sh t q))) := fun y => Lib.hid ((own_below hoW y.below).alloc _)
      have HSZ : ∀ y : Aft W0, Hid (w.heap.size ≤ (y.w1.alloc (.cells #[.int .i64 ((q : Int) + 1)] 2)).heap.size) := fun y => Lib.hid (le_alloc (held_next hbW y.below).size _)
      have hlenq := kindsTo_len c sh t q
      unfold likeM at hY hN
      generalize Lib.containsS (shapes ((q : Int) + 1)) sh = vh at *
      generalize shapes ((q : Int) + 1) = ss at *
      generalize pickS markCols ((q : Int) + 1) = col at *
      generalize pickS markTops ((q : Int) + 1) = top at *
      clear hk
      have hcase : (c.toList.isEmpty = false ∧ (c.toList == col.toList) = false) ∨ (c.toList.isEmpty = true ∧ sh.toList.isEmpty = false ∧ vh = false) ∨ (c.toList.isEmpty = false ∧ (c.toList == col.toList) = true ∧ sh.toList.isEmpty = false ∧ vh = false) ∨ (c.toList.isEmpty = true ∧ sh.toList.isEmpty = true ∧ t.toList.isEmpty = true) ∨ (c.toList.isEmpty = true ∧ sh.toList.isEmpty = true ∧ t.toList.isEmpty = false ∧ (t.toList == top.toList) = true) ∨ (c.toList.isEmpty = true ∧ sh.toList.isEmpty = true ∧ t.toList.isEmpty = false ∧ (t.toList == top.toList) = false) ∨ (c.toList.isEmpty = true ∧ sh.toList.isEmpty = false ∧ vh = true ∧ t.toList.isEmpty = true) ∨ (c.toList.isEmpty = true ∧ sh.toList.isEmpty = false ∧ vh = true ∧ t.toList.isEmpty = false ∧ (t.toList == top.toList) = true) ∨ (c.toList.isEmpty = true ∧ sh.toList.isEmpty = false ∧ vh = true ∧ t.toList.isEmpty = false ∧ (t.toList == top.toList) = false) ∨ (c.toList.isEmpty = false ∧ (c.toList == col.toList) = true ∧ sh.toList.isEmpty = true ∧ t.toList.isEmpty = true) ∨ (c.toList.isEmpty = false ∧ (c.toList == col.toList) = true ∧ sh.toList.isEmpty = true ∧ t.toList.isEmpty = false ∧ (t.toList == top.toList) = true) ∨ (c.toList.isEmpty = false ∧ (c.toList == col.toList) = true ∧ sh.toList.isEmpty = true ∧ t.toList.isEmpty = false ∧ (t.toList == top.toList) = false) ∨ (c.toList.isEmpty = false ∧ (c.toList == col.toList) = true ∧ sh.toList.isEmpty = false ∧ vh = true ∧ t.toList.isEmpty = true) ∨ (c.toList.isEmpty = false ∧ (c.toList == col.toList) = true ∧ sh.toList.isEmpty = false ∧ vh = true ∧ t.toList.isEmpty = false ∧ (t.toList == top.toList) = true) ∨ (c.toList.isEmpty = false ∧ (c.toList == col.toList) = true ∧ sh.toList.isEmpty = false ∧ vh = true ∧ t.toList.isEmpty = false ∧ (t.toList == top.toList) = false) := by
        cases c.toList.isEmpty <;> cases (c.toList == col.toList) <;> cases sh.toList.isEmpty <;> cases vh <;> cases t.toList.isEmpty <;> cases (t.toList == top.toList) <;> simp
      rcases hcase with ⟨c1, c2⟩ | ⟨c1, s1, rfl⟩ | ⟨c1, c2, s1, rfl⟩ | ⟨c1, s1, t1⟩ | ⟨c1, s1, t1, t2⟩ | ⟨c1, s1, t1, t2⟩ | ⟨c1, s1, rfl, t1⟩ | ⟨c1, s1, rfl, t1, t2⟩ | ⟨c1, s1, rfl, t1, t2⟩ | ⟨c1, c2, s1, t1⟩ | ⟨c1, c2, s1, t1, t2⟩ | ⟨c1, c2, s1, t1, t2⟩ | ⟨c1, c2, s1, rfl, t1⟩ | ⟨c1, c2, s1, rfl, t1, t2⟩ | ⟨c1, c2, s1, rfl, t1, t2⟩
      · have HN := Lib.hid (hN (by rw [c1, c2]; simp))
        clear hY hN
        go_wp2_with (first
        | (go_at_call 46; refine (Aft.call (HC.out _)).mono ?_; rintro e _ ⟨rfl, y1, rfl⟩)
        | (go_at_call 48; refine (Aft.call (HT.out _)).mono ?_; rintro e _ ⟨rfl, y2, rfl⟩)
        | (go_at_call 47; refine (HS.out _ (hTW.below (Aft.below _))).mono ?_; rintro e w5 ⟨g5, rfl, hrow, hlt5, hb5⟩; obtain ⟨y5, rfl⟩ : ∃ y : Aft W0, w5 = y.w1 := ⟨⟨w5, held_next (Aft.below _) hb5⟩, rfl⟩; clear hb5 hlt5)
        | (go_at_call 50; refine (HX.out _ _ ‹RowS _ _ _›).mono ?_; rintro e w' ⟨rfl, rfl⟩))
        go_roundw
        case rel => exact ⟨q + 1, by omega, by go_num, held_next hbW (Aft.below _), by rw [HN.out]; exact own_below hoW (Aft.below _)⟩
        case measure => simp [intOf]; omega
      · have HN := Lib.hid (hN (by rw [c1, s1]; simp))
        clear hY hN
        go_wp2_with (first
        | (go_at_call 46; refine (Aft.call (HC.out _)).mono ?_; rintro e _ ⟨rfl, y1, rfl⟩)
        | (go_at_call 48; refine (Aft.call (HT.out _)).mono ?_; rintro e _ ⟨rfl, y2, rfl⟩)
        | (go_at_call 47; refine (HS.out _ (hTW.below (Aft.below _))).mono ?_; rintro e w5 ⟨g5, rfl, hrow, hlt5, hb5⟩; obtain ⟨y5, rfl⟩ : ∃ y : Aft W0, w5 = y.w1 := ⟨⟨w5, held_next (Aft.below _) hb5⟩, rfl⟩; clear hb5 hlt5)
        | (go_at_call 50; refine (HX.out _ _ ‹RowS _ _ _›).mono ?_; rintro e w' ⟨rfl, rfl⟩))
        go_roundw
        case rel => exact ⟨q + 1, by omega, by go_num, held_next hbW (Aft.below _), by rw [HN.out]; exact own_below hoW (Aft.below _)⟩
        case measure => simp [intOf]; omega
      · have HN := Lib.hid (hN (by rw [c1, c2, s1]; simp))
        clear hY hN
        go_wp2_with (first
        | (go_at_call 46; refine (Aft.call (HC.out _)).mono ?_; rintro e _ ⟨rfl, y1, rfl⟩)
        | (go_at_call 48; refine (Aft.call (HT.out _)).mono ?_; rintro e _ ⟨rfl, y2, rfl⟩)
        | (go_at_call 47; refine (HS.out _ (hTW.below (Aft.below _))).mono ?_; rintro e w5 ⟨g5, rfl, hrow, hlt5, hb5⟩; obtain ⟨y5, rfl⟩ : ∃ y : Aft W0, w5 = y.w1 := ⟨⟨w5, held_next (Aft.below _) hb5⟩, rfl⟩; clear hb5 hlt5)
        | (go_at_call 50; refine (HX.out _ _ ‹RowS _ _ _›).mono ?_; rintro e w' ⟨rfl, rfl⟩))
        go_roundw
        case rel => exact ⟨q + 1, by omega, by go_num, held_next hbW (Aft.below _), by rw [HN.out]; exact own_below hoW (Aft.below _)⟩
        case measure => simp [intOf]; omega
      · have HY := Lib.hid (hY (by rw [c1, s1, t1]; simp))
        clear hY hN
        go_wp2_with (first
        | (go_at_call 46; refine (Aft.call (HC.out _)).mono ?_; rintro e _ ⟨rfl, y1, rfl⟩)
        | (go_at_call 48; refine (Aft.call (HT.out _)).mono ?_; rintro e _ ⟨rfl, y2, rfl⟩)
        | (go_at_call 47; refine (HS.out _ (hTW.below (Aft.below _))).mono ?_; rintro e w5 ⟨g5, rfl, hrow, hlt5, hb5⟩; obtain ⟨y5, rfl⟩ : ∃ y : Aft W0, w5 = y.w1 := ⟨⟨w5, held_next (Aft.below _) hb5⟩, rfl⟩; clear hb5 hlt5)
        | (go_at_call 50; refine (HX.out _ _ ‹RowS _ _ _›).mono ?_; rintro e w' ⟨rfl, rfl⟩)
        | (at_builtin; refine wpList_append_own _ rfl _ _ 33 rfl w.heap.size 2 i0 (.int .i64 0) 1 8 Tryd.underlying33 hi0 hz0 hz1 hz2 rfl (by decide) _ _ _ rfl (Hid.out (HAL _)) ⟨_, 0, none⟩ 1 1 [.int .i64 ((q : Int) + 1)] rfl rfl (cell_one_new _ _ _) (one_int _ _) (small_row (by omega)) q4 (Hid.out (HSZ _)) ?_; intro v' w1 hown1 hgrow1 hnew1; have HO1 := Lib.hid hown1; have HG1 := Lib.hid hgrow1; clear hown1 hgrow1 hnew1))
        go_roundw
        case rel =>
          have e := HY.out
          exact ⟨q + 1, by omega, by go_num, own_next (held_next hbW (Aft.below _)) (own_below hoW (Aft.below _)) HG1.out, by rw [e, List.length_append]; unfold vals at *; rw [List.map_append]; exact HO1.out⟩
        case measure => simp [intOf]; omega
      · have HY := Lib.hid (hY (by rw [c1, s1, t1, t2]; simp))
        clear hY hN
        go_wp2_with (first
        | (go_at_call 46; refine (Aft.call (HC.out _)).mono ?_; rintro e _ ⟨rfl, y1, rfl⟩)
        | (go_at_call 48; refine (Aft.call (HT.out _)).mono ?_; rintro e _ ⟨rfl, y2, rfl⟩)
        | (go_at_call 47; refine (HS.out _ (hTW.below (Aft.below _))).mono ?_; rintro e w5 ⟨g5, rfl, hrow, hlt5, hb5⟩; obtain ⟨y5, rfl⟩ : ∃ y : Aft W0, w5 = y.w1 := ⟨⟨w5, held_next (Aft.below _) hb5⟩, rfl⟩; clear hb5 hlt5)
        | (go_at_call 50; refine (HX.out _ _ ‹RowS _ _ _›).mono ?_; rintro e w' ⟨rfl, rfl⟩)
        | (at_builtin; refine wpList_append_own _ rfl _ _ 33 rfl w.heap.size 2 i0 (.int .i64 0) 1 8 Tryd.underlying33 hi0 hz0 hz1 hz2 rfl (by decide) _ _ _ rfl (Hid.out (HAL _)) ⟨_, 0, none⟩ 1 1 [.int .i64 ((q : Int) + 1)] rfl rfl (cell_one_new _ _ _) (one_int _ _) (small_row (by omega)) q4 (Hid.out (HSZ _)) ?_; intro v' w1 hown1 hgrow1 hnew1; have HO1 := Lib.hid hown1; have HG1 := Lib.hid hgrow1; clear hown1 hgrow1 hnew1))
        go_roundw
        case rel =>
          have e := HY.out
          exact ⟨q + 1, by omega, by go_num, own_next (held_next hbW (Aft.below _)) (own_below hoW (Aft.below _)) HG1.out, by rw [e, List.length_append]; unfold vals at *; rw [List.map_append]; exact HO1.out⟩
        case measure => simp [intOf]; omega
      · have HN := Lib.hid (hN (by rw [c1, s1, t1, t2]; simp))
        clear hY hN
        go_wp2_with (first
        | (go_at_call 46; refine (Aft.call (HC.out _)).mono ?_; rintro e _ ⟨rfl, y1, rfl⟩)
        | (go_at_call 48; refine (Aft.call (HT.out _)).mono ?_; rintro e _ ⟨rfl, y2, rfl⟩)
        | (go_at_call 47; refine (HS.out _ (hTW.below (Aft.below _))).mono ?_; rintro e w5 ⟨g5, rfl, hrow, hlt5, hb5⟩; obtain ⟨y5, rfl⟩ : ∃ y : Aft W0, w5 = y.w1 := ⟨⟨w5, held_next (Aft.below _) hb5⟩, rfl⟩; clear hb5 hlt5)
        | (go_at_call 50; refine (HX.out _ _ ‹RowS _ _ _›).mono ?_; rintro e w' ⟨rfl, rfl⟩))
        go_roundw
        case rel => exact ⟨q + 1, by omega, by go_num, held_next hbW (Aft.below _), by rw [HN.out]; exact own_below hoW (Aft.below _)⟩
        case measure => simp [intOf]; omega
      · have HY := Lib.hid (hY (by rw [c1, s1, t1]; simp))
        clear hY hN
        go_wp2_with (first
        | (go_at_call 46; refine (Aft.call (HC.out _)).mono ?_; rintro e _ ⟨rfl, y1, rfl⟩)
        | (go_at_call 48; refine (Aft.call (HT.out _)).mono ?_; rintro e _ ⟨rfl, y2, rfl⟩)
        | (go_at_call 47; refine (HS.out _ (hTW.below (Aft.below _))).mono ?_; rintro e w5 ⟨g5, rfl, hrow, hlt5, hb5⟩; obtain ⟨y5, rfl⟩ : ∃ y : Aft W0, w5 = y.w1 := ⟨⟨w5, held_next (Aft.below _) hb5⟩, rfl⟩; clear hb5 hlt5)
        | (go_at_call 50; refine (HX.out _ _ ‹RowS _ _ _›).mono ?_; rintro e w' ⟨rfl, rfl⟩)
        | (at_builtin; refine wpList_append_own _ rfl _ _ 33 rfl w.heap.size 2 i0 (.int .i64 0) 1 8 Tryd.underlying33 hi0 hz0 hz1 hz2 rfl (by decide) _ _ _ rfl (Hid.out (HAL _)) ⟨_, 0, none⟩ 1 1 [.int .i64 ((q : Int) + 1)] rfl rfl (cell_one_new _ _ _) (one_int _ _) (small_row (by omega)) q4 (Hid.out (HSZ _)) ?_; intro v' w1 hown1 hgrow1 hnew1; have HO1 := Lib.hid hown1; have HG1 := Lib.hid hgrow1; clear hown1 hgrow1 hnew1))
        go_roundw
        case rel =>
          have e := HY.out
          exact ⟨q + 1, by omega, by go_num, own_next (held_next hbW (Aft.below _)) (own_below hoW (Aft.below _)) HG1.out, by rw [e, List.length_append]; unfold vals at *; rw [List.map_append]; exact HO1.out⟩
        case measure => simp [intOf]; omega
      · have HY := Lib.hid (hY (by rw [c1, s1, t1, t2]; simp))
        clear hY hN
        go_wp2_with (first
        | (go_at_call 46; refine (Aft.call (HC.out _)).mono ?_; rintro e _ ⟨rfl, y1, rfl⟩)
        | (go_at_call 48; refine (Aft.call (HT.out _)).mono ?_; rintro e _ ⟨rfl, y2, rfl⟩)
        | (go_at_call 47; refine (HS.out _ (hTW.below (Aft.below _))).mono ?_; rintro e w5 ⟨g5, rfl, hrow, hlt5, hb5⟩; obtain ⟨y5, rfl⟩ : ∃ y : Aft W0, w5 = y.w1 := ⟨⟨w5, held_next (Aft.below _) hb5⟩, rfl⟩; clear hb5 hlt5)
        | (go_at_call 50; refine (HX.out _ _ ‹RowS _ _ _›).mono ?_; rintro e w' ⟨rfl, rfl⟩)
        | (at_builtin; refine wpList_append_own _ rfl _ _ 33 rfl w.heap.size 2 i0 (.int .i64 0) 1 8 Tryd.underlying33 hi0 hz0 hz1 hz2 rfl (by decide) _ _ _ rfl (Hid.out (HAL _)) ⟨_, 0, none⟩ 1 1 [.int .i64 ((q : Int) + 1)] rfl rfl (cell_one_new _ _ _) (one_int _ _) (small_row (by omega)) q4 (Hid.out (HSZ _)) ?_; intro v' w1 hown1 hgrow1 hnew1; have HO1 := Lib.hid hown1; have HG1 := Lib.hid hgrow1; clear hown1 hgrow1 hnew1))
        go_roundw
        case rel =>
          have e := HY.out
          exact ⟨q + 1, by omega, by go_num, own_next (held_next hbW (Aft.below _)) (own_below hoW (Aft.below _)) HG1.out, by rw [e, List.length_append]; unfold vals at *; rw [List.map_append]; exact HO1.out⟩
        case measure => simp [intOf]; omega
      · have HN := Lib.hid (hN (by rw [c1, s1, t1, t2]; simp))
        clear hY hN
        go_wp2_with (first
        | (go_at_call 46; refine (Aft.call (HC.out _)).mono ?_; rintro e _ ⟨rfl, y1, rfl⟩)
        | (go_at_call 48; refine (Aft.call (HT.out _)).mono ?_; rintro e _ ⟨rfl, y2, rfl⟩)
        | (go_at_call 47; refine (HS.out _ (hTW.below (Aft.below _))).mono ?_; rintro e w5 ⟨g5, rfl, hrow, hlt5, hb5⟩; obtain ⟨y5, rfl⟩ : ∃ y : Aft W0, w5 = y.w1 := ⟨⟨w5, held_next (Aft.below _) hb5⟩, rfl⟩; clear hb5 hlt5)
        | (go_at_call 50; refine (HX.out _ _ ‹RowS _ _ _›).mono ?_; rintro e w' ⟨rfl, rfl⟩))
        go_roundw
        case rel => exact ⟨q + 1, by omega, by go_num, held_next hbW (Aft.below _), by rw [HN.out]; exact own_below hoW (Aft.below _)⟩
        case measure => simp [intOf]; omega
      · have HY := Lib.hid (hY (by rw [c1, c2, s1, t1]; simp))
        clear hY hN
        go_wp2_with (first
        | (go_at_call 46; refine (Aft.call (HC.out _)).mono ?_; rintro e _ ⟨rfl, y1, rfl⟩)
        | (go_at_call 48; refine (Aft.call (HT.out _)).mono ?_; rintro e _ ⟨rfl, y2, rfl⟩)
        | (go_at_call 47; refine (HS.out _ (hTW.below (Aft.below _))).mono ?_; rintro e w5 ⟨g5, rfl, hrow, hlt5, hb5⟩; obtain ⟨y5, rfl⟩ : ∃ y : Aft W0, w5 = y.w1 := ⟨⟨w5, held_next (Aft.below _) hb5⟩, rfl⟩; clear hb5 hlt5)
        | (go_at_call 50; refine (HX.out _ _ ‹RowS _ _ _›).mono ?_; rintro e w' ⟨rfl, rfl⟩)
        | (at_builtin; refine wpList_append_own _ rfl _ _ 33 rfl w.heap.size 2 i0 (.int .i64 0) 1 8 Tryd.underlying33 hi0 hz0 hz1 hz2 rfl (by decide) _ _ _ rfl (Hid.out (HAL _)) ⟨_, 0, none⟩ 1 1 [.int .i64 ((q : Int) + 1)] rfl rfl (cell_one_new _ _ _) (one_int _ _) (small_row (by omega)) q4 (Hid.out (HSZ _)) ?_; intro v' w1 hown1 hgrow1 hnew1; have HO1 := Lib.hid hown1; have HG1 := Lib.hid hgrow1; clear hown1 hgrow1 hnew1))
        go_roundw
        case rel =>
          have e := HY.out
          exact ⟨q + 1, by omega, by go_num, own_next (held_next hbW (Aft.below _)) (own_below hoW (Aft.below _)) HG1.out, by rw [e, List.length_append]; unfold vals at *; rw [List.map_append]; exact HO1.out⟩
        case measure => simp [intOf]; omega
      · have HY := Lib.hid (hY (by rw [c1, c2, s1, t1, t2]; simp))
        clear hY hN
        go_wp2_with (first
        | (go_at_call 46; refine (Aft.call (HC.out _)).mono ?_; rintro e _ ⟨rfl, y1, rfl⟩)
        | (go_at_call 48; refine (Aft.call (HT.out _)).mono ?_; rintro e _ ⟨rfl, y2, rfl⟩)
        | (go_at_call 47; refine (HS.out _ (hTW.below (Aft.below _))).mono ?_; rintro e w5 ⟨g5, rfl, hrow, hlt5, hb5⟩; obtain ⟨y5, rfl⟩ : ∃ y : Aft W0, w5 = y.w1 := ⟨⟨w5, held_next (Aft.below _) hb5⟩, rfl⟩; clear hb5 hlt5)
        | (go_at_call 50; refine (HX.out _ _ ‹RowS _ _ _›).mono ?_; rintro e w' ⟨rfl, rfl⟩)
        | (at_builtin; refine wpList_append_own _ rfl _ _ 33 rfl w.heap.size 2 i0 (.int .i64 0) 1 8 Tryd.underlying33 hi0 hz0 hz1 hz2 rfl (by decide) _ _ _ rfl (Hid.out (HAL _)) ⟨_, 0, none⟩ 1 1 [.int .i64 ((q : Int) + 1)] rfl rfl (cell_one_new _ _ _) (one_int _ _) (small_row (by omega)) q4 (Hid.out (HSZ _)) ?_; intro v' w1 hown1 hgrow1 hnew1; have HO1 := Lib.hid hown1; have HG1 := Lib.hid hgrow1; clear hown1 hgrow1 hnew1))
        go_roundw
        case rel =>
          have e := HY.out
          exact ⟨q + 1, by omega, by go_num, own_next (held_next hbW (Aft.below _)) (own_below hoW (Aft.below _)) HG1.out, by rw [e, List.length_append]; unfold vals at *; rw [List.map_append]; exact HO1.out⟩
        case measure => simp [intOf]; omega
      · have HN := Lib.hid (hN (by rw [c1, c2, s1, t1, t2]; simp))
        clear hY hN
        go_wp2_with (first
        | (go_at_call 46; refine (Aft.call (HC.out _)).mono ?_; rintro e _ ⟨rfl, y1, rfl⟩)
        | (go_at_call 48; refine (Aft.call (HT.out _)).mono ?_; rintro e _ ⟨rfl, y2, rfl⟩)
        | (go_at_call 47; refine (HS.out _ (hTW.below (Aft.below _))).mono ?_; rintro e w5 ⟨g5, rfl, hrow, hlt5, hb5⟩; obtain ⟨y5, rfl⟩ : ∃ y : Aft W0, w5 = y.w1 := ⟨⟨w5, held_next (Aft.below _) hb5⟩, rfl⟩; clear hb5 hlt5)
        | (go_at_call 50; refine (HX.out _ _ ‹RowS _ _ _›).mono ?_; rintro e w' ⟨rfl, rfl⟩))
        go_roundw
        case rel => exact ⟨q + 1, by omega, by go_num, held_next hbW (Aft.below _), by rw [HN.out]; exact own_below hoW (Aft.below _)⟩
        case measure => simp [intOf]; omega
      · have HY := Lib.hid (hY (by rw [c1, c2, s1, t1]; simp))
        clear hY hN
        go_wp2_with (first
        | (go_at_call 46; refine (Aft.call (HC.out _)).mono ?_; rintro e _ ⟨rfl, y1, rfl⟩)
        | (go_at_call 48; refine (Aft.call (HT.out _)).mono ?_; rintro e _ ⟨rfl, y2, rfl⟩)
        | (go_at_call 47; refine (HS.out _ (hTW.below (Aft.below _))).mono ?_; rintro e w5 ⟨g5, rfl, hrow, hlt5, hb5⟩; obtain ⟨y5, rfl⟩ : ∃ y : Aft W0, w5 = y.w1 := ⟨⟨w5, held_next (Aft.below _) hb5⟩, rfl⟩; clear hb5 hlt5)
        | (go_at_call 50; refine (HX.out _ _ ‹RowS _ _ _›).mono ?_; rintro e w' ⟨rfl, rfl⟩)
        | (at_builtin; refine wpList_append_own _ rfl _ _ 33 rfl w.heap.size 2 i0 (.int .i64 0) 1 8 Tryd.underlying33 hi0 hz0 hz1 hz2 rfl (by decide) _ _ _ rfl (Hid.out (HAL _)) ⟨_, 0, none⟩ 1 1 [.int .i64 ((q : Int) + 1)] rfl rfl (cell_one_new _ _ _) (one_int _ _) (small_row (by omega)) q4 (Hid.out (HSZ _)) ?_; intro v' w1 hown1 hgrow1 hnew1; have HO1 := Lib.hid hown1; have HG1 := Lib.hid hgrow1; clear hown1 hgrow1 hnew1))
        go_roundw
        case rel =>
          have e := HY.out
          exact ⟨q + 1, by omega, by go_num, own_next (held_next hbW (Aft.below _)) (own_below hoW (Aft.below _)) HG1.out, by rw [e, List.length_append]; unfold vals at *; rw [List.map_append]; exact HO1.out⟩
        case measure => simp [intOf]; omega
      · have HY := Lib.hid (hY (by rw [c1, c2, s1, t1, t2]; simp))
        clear hY hN
        go_wp2_with (first
        | (go_at_call 46; refine (Aft.call (HC.out _)).mono ?_; rintro e _ ⟨rfl, y1, rfl⟩)
        | (go_at_call 48; refine (Aft.call (HT.out _)).mono ?_; rintro e _ ⟨rfl, y2, rfl⟩)
        | (go_at_call 47; refine (HS.out _ (hTW.below (Aft.below _))).mono ?_; rintro e w5 ⟨g5, rfl, hrow, hlt5, hb5⟩; obtain ⟨y5, rfl⟩ : ∃ y : Aft W0, w5 = y.w1 := ⟨⟨w5, held_next (Aft.below _) hb5⟩, rfl⟩; clear hb5 hlt5)
        | (go_at_call 50; refine (HX.out _ _ ‹RowS _ _ _›).mono ?_; rintro e w' ⟨rfl, rfl⟩)
        | (at_builtin; refine wpList_append_own _ rfl _ _ 33 rfl w.heap.size 2 i0 (.int .i64 0) 1 8 Tryd.underlying33 hi0 hz0 hz1 hz2 rfl (by decide) _ _ _ rfl (Hid.out (HAL _)) ⟨_, 0, none⟩ 1 1 [.int .i64 ((q : Int) + 1)] rfl rfl (cell_one_new _ _ _) (one_int _ _) (small_row (by omega)) q4 (Hid.out (HSZ _)) ?_; intro v' w1 hown1 hgrow1 hnew1; have HO1 := Lib.hid hown1; have HG1 := Lib.hid hgrow1; clear hown1 hgrow1 hnew1))
        go_roundw
        case rel =>
          have e := HY.out
          exact ⟨q + 1, by omega, by go_num, own_next (held_next hbW (Aft.below _)) (own_below hoW (Aft.below _)) HG1.out, by rw [e, List.length_append]; unfold vals at *; rw [List.map_append]; exact HO1.out⟩
        case measure => simp [intOf]; omega
      · have HN := Lib.hid (hN (by rw [c1, c2, s1, t1, t2]; simp))
        clear hY hN
        go_wp2_with (first
        | (go_at_call 46; refine (Aft.call (HC.out _)).mono ?_; rintro e _ ⟨rfl, y1, rfl⟩)
        | (go_at_call 48; refine (Aft.call (HT.out _)).mono ?_; rintro e _ ⟨rfl, y2, rfl⟩)
        | (go_at_call 47; refine (HS.out _ (hTW.below (Aft.below _))).mono ?_; rintro e w5 ⟨g5, rfl, hrow, hlt5, hb5⟩; obtain ⟨y5, rfl⟩ : ∃ y : Aft W0, w5 = y.w1 := ⟨⟨w5, held_next (Aft.below _) hb5⟩, rfl⟩; clear hb5 hlt5)
        | (go_at_call 50; refine (HX.out _ _ ‹RowS _ _ _›).mono ?_; rintro e w' ⟨rfl, rfl⟩))
        go_roundw
        case rel => exact ⟨q + 1, by omega, by go_num, held_next hbW (Aft.below _), by rw [HN.out]; exact own_below hoW (Aft.below _)⟩
        case measure => simp [intOf]; omega
    · obtain rfl : q = 9 := by omega
      have HO := Lib.hid hown
      clear hown
      go_wp2
      go_ret
      exact ⟨_, rfl, HO.out, hbel⟩
end Go.Proofs.YtolijmldobncbaaDoor
