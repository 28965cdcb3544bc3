/- KindsLike on both sides: the kinds that have colors, a shape and a topmark. -/
import Derived.Test.YtolijmldobncbaaDoorMark
import Derived.Test.YtolijmldobncbaaDoorQPlan
import Derived.Test.YtolijmldobncbaaDoorPairs
namespace Go.Proofs.YtolijmldobncbaaDoor
open Go Go.RowKit Go.Shelf
/-- Is kind k like these? -/
def likeM (k : Int) (c sh t : ByteArray) : Bool := (c.toList.isEmpty || (c.toList == (pickS markCols k).toList)) && ((sh.toList.isEmpty || Lib.containsS (shapes k) sh) && (t.toList.isEmpty || (t.toList == (pickS markTops k).toList)))
/-- The kinds below k + 1 that are like these. -/
def kindsTo (c sh t : ByteArray) : Nat → List Int
  | 0 => []
  | k + 1 => kindsTo c sh t k ++ (if likeM ((k : Int) + 1) c sh t then [(k : Int) + 1] else [])
theorem kindsTo_len (c sh t : ByteArray) : ∀ k, (kindsTo c sh t k).length ≤ k
  | 0 => Nat.le_refl _
  | k + 1 => by
    have := kindsTo_len c sh t k
    rw [kindsTo, List.length_append]
    split <;> simp <;> omega
theorem kindsTo_yes {c sh t : ByteArray} {k : Nat} (h : likeM ((k : Int) + 1) c sh t = true) : kindsTo c sh t (k + 1) = kindsTo c sh t k ++ [(k : Int) + 1] := by rw [kindsTo, if_pos h]
theorem kindsTo_no {c sh t : ByteArray} {k : Nat} (h : likeM ((k : Int) + 1) c sh t = false) : kindsTo c sh t (k + 1) = kindsTo c sh t k := by rw [kindsTo, if_neg (by simp [h]), List.append_nil]
def vals (l : List Int) : List Value := l.map (Value.int .i64)
set_option maxHeartbeats 4000000 in
theorem l11Like_c (g : Nat) (k : Int) (h : 1 ≤ k ∧ k ≤ 9) (c sh t : ByteArray) (w : World) (c0 : w.cell? ⟨g, 0, none⟩ = some (.int .i64 k)) (c1 : w.cell? ⟨g, 1, none⟩ = some (.string c)) (c2 : w.cell? ⟨g, 2, none⟩ = some (.string sh)) (c3 : w.cell? ⟨g, 3, none⟩ = some (.string t)) :
    Calls Tryd.prog 51 #[.pointer (some ⟨g, 0, none⟩)] w fun e w' => e = .returned (.bool ((sh.toList.isEmpty || Lib.containsS (shapes k) sh) && (t.toList.isEmpty || (t.toList == (pickS markTops k).toList)))) ∧ Below w.heap.size w w' := by
  have hg : g < w.heap.size := cell_lt c0
  have k0 : ∀ y : Aft w, y.w1.cell? ⟨g, 0, none⟩ = some (.int .i64 k) := fun y => y.cell hg c0
  have k2 : ∀ y : Aft w, y.w1.cell? ⟨g, 2, none⟩ = some (.string sh) := fun y => y.cell hg c2
  have k3 : ∀ y : Aft w, y.w1.cell? ⟨g, 3, none⟩ = some (.string t) := fun y => y.cell hg c3
  have HT := Lib.hid (fun W => l11Topmark_c k h W)
  have HS := Lib.hid (fun W => l11Shapes_c k h W)
  have hlen := (shapes_len h).2
  generalize shapes k = ss at *
  generalize pickS markTops k = top at *
  have _c1 := c1
  clear hg h c0 c1 c2 c3 _c1
  have hcase : (t.toList.isEmpty = false ∧ (t.toList == top.toList) = false) ∨ ((t.toList.isEmpty || (t.toList == top.toList)) = true ∧ (t.toList.isEmpty = true ∨ (t.toList.isEmpty = false ∧ (t.toList == top.toList) = true))) := by
    cases t.toList.isEmpty <;> cases (t.toList == top.toList) <;> simp
  rcases hcase with ⟨v3, v4⟩ | ⟨hv0, hv⟩
  · go_enter Tryd.func51, Tryd.ntmps51
    go_wp2
    refine wp_region_aft (by kernel_rfl) (by kernel_rfl) ?_
    repeat (go_big_quiet_step ((go_at_call 44; exact Aft.call (HT.out _))))
    refine wpQuiet_nil ?_
    intro w1 hb1
    go_wp2
    go_ret
    exact ⟨ret_bool (by rw [v3, v4]; simp), hb1⟩
  · rw [hv0, Bool.and_true]
    clear hv0
    rcases hv with v3 | ⟨v3, v4⟩
    all_goals
      go_enter Tryd.func51, Tryd.ntmps51
      go_wp2
      refine wp_region_aft (by kernel_rfl) (by kernel_rfl) ?_
      repeat (go_big_quiet_step ((go_at_call 44; exact Aft.call (HT.out _))))
      refine wpQuiet_nil ?_
      intro w1 hb1
      obtain ⟨x1, rfl⟩ : ∃ x : Aft w, w1 = x.w1 := ⟨⟨w1, hb1⟩, rfl⟩
      clear hb1
      have q0 := k0 x1
      go_wp2_with fail
      refine (HS.out _).mono ?_
      rintro e w2 ⟨g2, rfl, hrow, hlt2, hb2⟩
      have l0 : ∀ y : Aft w2, y.w1.cell? ⟨g, 2, none⟩ = some (.string sh) := fun y => k2 ⟨y.w1, held_next (held_next x1.below hb2) y.below⟩
      have HR := Lib.hid (fun y : Aft w2 => rowS_aft hrow hlt2 y)
      clear hrow k0 k2 k3 q0
      go_wp2
      go_loopw [4] (fun i wr => ∃ (q : Nat) (x : Aft w2), q ≤ ss.length ∧ i = .int .i64 q ∧ wr = x.w1 ∧ Hid (∀ i, i < q → ((ss.getD i ⟨#[]⟩).toList == sh.toList) = false)) (fun i _ => ss.length - (intOf i).toNat)
      case atStart => exact ⟨0, ⟨w2, Below.refl _ _⟩, by omega, rfl, rfl, Lib.hid (fun i hi => by omega)⟩
      case round =>
        obtain ⟨q, x, hq, rfl, rfl, hall⟩ := hrel
        by_cases hlt : q < ss.length
        · have r0 : ∀ y : Aft w2, y.w1.cell? ⟨g2, q, none⟩ = some (.string (ss.getD q ⟨#[]⟩)) := fun y => HR.out y q hlt
          have HY := Lib.hid (fun h => has_yes (ss := ss) (x := sh) (i := q) hlt h)
          obtain ⟨sq, hsq⟩ : ∃ sq, ss.getD q ⟨#[]⟩ = sq := ⟨_, rfl⟩
          rw [hsq] at r0 HY
          have HSQ := Lib.hid hsq
          clear hsq
          cases hv : (sq.toList == sh.toList)
          all_goals
            have HV := Lib.hid hv
            go_wp2
            refine wp_region_aftx x (by kernel_rfl) (by kernel_rfl) ?_
            repeat (go_big_quiet_step (fail))
            refine wpQuiet_nil ?_
            intro z
            go_wp2
          · go_roundw
            case rel => exact ⟨q + 1, z, by omega, by go_num, rfl, Lib.hid (fun i hi => by
              by_cases e : i = q
              · rw [e, HSQ.out]; exact HV.out
              · exact hall.out i (by omega))⟩
            case measure => simp [intOf]; omega
          · go_ret
            exact ⟨ret_bool (by rw [HY.out HV.out]; simp), held_next (held_next x1.below hb2) (Aft.below _)⟩
        · obtain rfl : q = ss.length := by omega
          have HN := Lib.hid (has_no hall.out)
          have m0 := l0 x
          go_wp2
          go_ret
          exact ⟨ret_bool (by rw [HN.out]; simp), held_next (held_next x1.below hb2) x.below⟩
set_option maxRecDepth 100000 in
set_option maxHeartbeats 4000000 in
theorem specKinds_c (c sh t : ByteArray) (w : World) :
    Calls Tryd.prog 19 #[.string c, .string sh, .string t] w fun e w' => ∃ v, e = .returned v ∧ w'.ownsRow w.heap.size 2 1 v (kindsTo c sh t 9).length (vals (kindsTo c sh t 9)) ∧ Below w.heap.size w w' := by
  obtain ⟨i0, hi0, hz0, hz1, hz2⟩ := info_parts (show (Tryd.prog.info? 2).map (fun i => (i.zero, i.size, i.bytes)) = some (some (.int .i64 0), 1, 8) by kernel_rfl)
  have hown0 : (w.alloc (.cells #[] 2)).ownsRow w.heap.size 2 1 (.slice (some ⟨w.heap.size, 0, none⟩) 0 0) 0 [] := ownsRow_at (cs := #[]) rfl (Nat.le_refl _) rfl (by omega) rfl
  go_enter Tryd.func19, Tryd.ntmps19
  go_wp2
  go_loopw [7, 8] (fun v i wr => ∃ (q : Nat), q ≤ 9 ∧ i = .int .i64 ((q : Int) + 1) ∧ Below w.heap.size w wr ∧ wr.ownsRow w.heap.size 2 1 v (kindsTo c sh t q).length (vals (kindsTo c sh t q))) (fun _ i _ => (10 - intOf i).toNat)
  case atStart => exact ⟨0, by omega, rfl, (by repeat (first | exact Below.refl _ _ | refine Below.alloc ?_ (by simp; try omega) _ | refine Below.drew ?_)), hown0⟩
  case round =>
    obtain ⟨q, hq, rfl, hbel, hown⟩ := hrel
    by_cases hlt : q < 9
    · have hk : 1 ≤ (q : Int) + 1 ∧ (q : Int) + 1 ≤ 9 := by omega
      have k0 : ∀ y : Aft (wr.alloc (.cells #[.int .i64 ((q : Int) + 1), .string c, .string sh, .string t] 23)), y.w1.cell? ⟨wr.heap.size, 0, none⟩ = some (.int .i64 ((q : Int) + 1)) := fun y => y.new rfl
      have k1 : ∀ y : Aft (wr.alloc (.cells #[.int .i64 ((q : Int) + 1), .string c, .string sh, .string t] 23)), y.w1.cell? ⟨wr.heap.size, 1, none⟩ = some (.string c) := fun y => y.new rfl
      have k2 : ∀ y : Aft (wr.alloc (.cells #[.int .i64 ((q : Int) + 1), .string c, .string sh, .string t] 23)), y.w1.cell? ⟨wr.heap.size, 2, none⟩ = some (.string sh) := fun y => y.new rfl
      have k3 : ∀ y : Aft (wr.alloc (.cells #[.int .i64 ((q : Int) + 1), .string c, .string sh, .string t] 23)), y.w1.cell? ⟨wr.heap.size, 3, none⟩ = some (.string t) := fun y => y.new rfl
      have HL := Lib.hid (fun y : Aft (wr.alloc (.cells #[.int .i64 ((q : Int) + 1), .string c, .string sh, .string t] 23)) => l11Like_c wr.heap.size ((q : Int) + 1) hk c sh t y.w1 (k0 y) (k1 y) (k2 y) (k3 y))
      have HC := Lib.hid (fun W => l11Colors_c ((q : Int) + 1) hk W)
      have hY := kindsTo_yes (c := c) (sh := sh) (t := t) (k := q)
      have hN := kindsTo_no (c := c) (sh := sh) (t := t) (k := q)
      have hlenq := kindsTo_len c sh t q
      unfold likeM at hY hN
      generalize ((sh.toList.isEmpty || Lib.containsS (shapes ((q : Int) + 1)) sh) && (t.toList.isEmpty || (t.toList == (pickS markTops ((q : Int) + 1)).toList))) = vx at *
      generalize pickS markCols ((q : Int) + 1) = col at *
      clear k0 k1 k2 k3 hk
      have hcase : (c.toList.isEmpty = false ∧ (c.toList == col.toList) = false) ∨ c.toList.isEmpty = true ∨ (c.toList.isEmpty = false ∧ (c.toList == col.toList) = true) := by
        cases c.toList.isEmpty <;> cases (c.toList == col.toList) <;> simp
      rcases hcase with ⟨v1, v2⟩ | v1 | ⟨v1, v2⟩
      · have HN := Lib.hid (hN (by rw [v1, v2]; rfl))
        clear hY hN HL
        go_wp2_with fail
        refine (HC.out _).mono ?_
        rintro e w4 ⟨rfl, hb4⟩
        have HB := Lib.hid (below_box hb4)
        have HO := Lib.hid (own_below hown HB.out)
        go_wp2
        go_roundw
        case rel => exact ⟨q + 1, by omega, by go_num, held_next hbel HB.out, by rw [HN.out]; exact HO.out⟩
        case measure => simp [intOf]; omega
      · cases vx
        · have HN := Lib.hid (hN (by rw [Bool.and_false]))
          clear hY hN
          go_wp2_with fail
          refine (HL.out ⟨_, Below.refl _ _⟩).mono ?_
          rintro e w4 ⟨rfl, hb4⟩
          have HB := Lib.hid (below_box hb4)
          have HO := Lib.hid (own_below hown HB.out)
          go_wp2
          go_roundw
          case rel => exact ⟨q + 1, by omega, by go_num, held_next hbel HB.out, by rw [HN.out]; exact HO.out⟩
          case measure => simp [intOf]; omega
        have HY := Lib.hid (hY (by rw [v1]; rfl))
        clear hY hN
        go_wp2_with fail
        refine (HL.out ⟨_, Below.refl _ _⟩).mono ?_
        rintro e w4 ⟨rfl, hb4⟩
        have hb5 := below_box hb4
        have HO := Lib.hid (own_below hown hb5)
        have hb6 := held_next hbel hb5
        have HB := Lib.hid hb6
        have hsz := hb6.size
        have q4 : ((kindsTo c sh t q).length + 1) * 8 ≤ 140737488355328 := by omega
        clear hown hbel hown0 hb6
        go_wp2_with (at_builtin; refine wpList_append_own _ rfl _ _ 33 rfl w.heap.size 2 i0 (.int .i64 0) 1 8 Tryd.underlying33 hi0 hz0 hz1 hz2 rfl (by decide) _ _ _ rfl (HO.out.alloc _) ⟨w4.heap.size, 0, none⟩ 1 1 [.int .i64 ((q : Int) + 1)] rfl rfl (cell_one_new _ _ _) (one_int _ _) (small_row (by omega)) q4 (le_alloc hsz _) ?_; intro v' w1 hown1 hgrow1 _)
        have HO1 := Lib.hid hown1
        have HG1 := Lib.hid hgrow1
        clear hown1 hgrow1
        go_roundw
        case rel =>
          have e := HY.out
          exact ⟨q + 1, by omega, by go_num, own_next HB.out HO.out HG1.out, by rw [e, List.length_append]; unfold vals at *; rw [List.map_append]; exact HO1.out⟩
        case measure => simp [intOf]; omega
      · cases vx
        · have HN := Lib.hid (hN (by rw [Bool.and_false]))
          clear hY hN
          go_wp2_with fail
          refine (HC.out _).mono ?_
          rintro e w3 ⟨rfl, hb3⟩
          go_wp2_with fail
          refine (HL.out ⟨_, hb3⟩).mono ?_
          rintro e w4 ⟨rfl, hb4⟩
          have HB := Lib.hid (below_box (held_next hb3 hb4))
          have HO := Lib.hid (own_below hown HB.out)
          go_wp2
          go_roundw
          case rel => exact ⟨q + 1, by omega, by go_num, held_next hbel HB.out, by rw [HN.out]; exact HO.out⟩
          case measure => simp [intOf]; omega
        have HY := Lib.hid (hY (by rw [v2]; simp))
        clear hY hN
        go_wp2_with fail
        refine (HC.out _).mono ?_
        rintro e w3 ⟨rfl, hb3⟩
        go_wp2_with fail
        refine (HL.out ⟨_, hb3⟩).mono ?_
        rintro e w4 ⟨rfl, hb4⟩
        have hb5 := below_box (held_next hb3 hb4)
        have HO := Lib.hid (own_below hown hb5)
        have hb6 := held_next hbel hb5
        have HB := Lib.hid hb6
        have hsz := hb6.size
        have q4 : ((kindsTo c sh t q).length + 1) * 8 ≤ 140737488355328 := by omega
        clear hown hbel hown0 hb6
        go_wp2_with (at_builtin; refine wpList_append_own _ rfl _ _ 33 rfl w.heap.size 2 i0 (.int .i64 0) 1 8 Tryd.underlying33 hi0 hz0 hz1 hz2 rfl (by decide) _ _ _ rfl (HO.out.alloc _) ⟨w4.heap.size, 0, none⟩ 1 1 [.int .i64 ((q : Int) + 1)] rfl rfl (cell_one_new _ _ _) (one_int _ _) (small_row (by omega)) q4 (le_alloc hsz _) ?_; intro v' w1 hown1 hgrow1 _)
        have HO1 := Lib.hid hown1
        have HG1 := Lib.hid hgrow1
        clear hown1 hgrow1
        go_roundw
        case rel =>
          have e := HY.out
          exact ⟨q + 1, by omega, by go_num, own_next HB.out HO.out HG1.out, by rw [e, List.length_append]; unfold vals at *; rw [List.map_append]; exact HO1.out⟩
        case measure => simp [intOf]; omega
    · obtain rfl : q = 9 := by omega
      have HO := Lib.hid hown
      clear hown
      go_wp2
      go_ret
      exact ⟨_, rfl, HO.out, hbel⟩
end Go.Proofs.YtolijmldobncbaaDoor
