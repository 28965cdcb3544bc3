/- A valid mark: contracts of the program's and of the reference's functions. -/
import Derived.Test.YtolijmldobncbaaDoorMark
import Derived.Test.YtolijmldobncbaaDoorQPlan
namespace Go.Proofs.YtolijmldobncbaaDoor
open Go Go.RowKit Go.Shelf
/-- A mark is valid. -/
def okM (k : Int) (c sh t : ByteArray) : Bool := if 1 ≤ k ∧ k ≤ 9 then (c.toList == (pickS markCols k).toList) && (Lib.containsS (shapes k) sh && (t.toList.isEmpty || (t.toList == (pickS markTops k).toList))) else dMark k c sh t 0 ⟨#[]⟩ ⟨#[]⟩ ⟨#[]⟩
set_option maxHeartbeats 4000000 in
theorem l11Ok_in (g : Nat) (k : Int) (h : 1 ≤ k ∧ k ≤ 9) (c sh t : ByteArray) (w : World) (c0 : w.cell? ⟨g, 0, none⟩ = some (.int .i64 k)) (c1 : w.cell? ⟨g, 1, none⟩ = some (.string c)) (c2 : w.cell? ⟨g, 2, none⟩ = some (.string sh)) (c3 : w.cell? ⟨g, 3, none⟩ = some (.string t)) :
    Calls Tryd.prog 49 #[.pointer (some ⟨g, 0, none⟩)] w fun e w' => e = .returned (.bool (okM k c sh t)) ∧ Below w.heap.size w w' := by
  have hg : g < w.heap.size := cell_lt c0
  have k0 : ∀ y : Aft w, y.w1.cell? ⟨g, 0, none⟩ = some (.int .i64 k) := fun y => y.cell hg c0
  have k1 : ∀ y : Aft w, y.w1.cell? ⟨g, 1, none⟩ = some (.string c) := fun y => y.cell hg c1
  have k2 : ∀ y : Aft w, y.w1.cell? ⟨g, 2, none⟩ = some (.string sh) := fun y => y.cell hg c2
  have k3 : ∀ y : Aft w, y.w1.cell? ⟨g, 3, none⟩ = some (.string t) := fun y => y.cell hg c3
  have HO := Lib.hid (show okM k c sh t = ((c.toList == (pickS markCols k).toList) && (Lib.containsS (shapes k) sh && (t.toList.isEmpty || (t.toList == (pickS markTops k).toList)))) from if_pos h)
  have HK := Lib.hid (fun W => l11KindM_c k true (inR_yes h) W)
  have HC := Lib.hid (fun W => l11Colors_c k h W)
  have HT := Lib.hid (fun W => l11Topmark_c k h W)
  have HS := Lib.hid (fun W => l11Shapes_c k h W)
  have hlen := (shapes_len h).2
  generalize shapes k = ss at *
  generalize pickS markCols k = col at *
  generalize pickS markTops k = top at *
  have hz : ((k : Int) == 0) = false := by simp; omega
  clear hg h
  have stop : ∀ v : Bool, v = true ∨ v = false := fun v => by cases v <;> simp
  have hcase : (c.toList == col.toList) = false ∨ ((c.toList == col.toList) = true ∧ t.toList.isEmpty = false ∧ (t.toList == top.toList) = false) ∨ ((c.toList == col.toList) = true ∧ (t.toList.isEmpty = true ∨ (t.toList.isEmpty = false ∧ (t.toList == top.toList) = true))) := by
    cases (c.toList == col.toList) <;> cases t.toList.isEmpty <;> cases (t.toList == top.toList) <;> simp
  clear stop
  rcases hcase with v1 | ⟨v1, v3, v4⟩ | ⟨v1, hv⟩
  · rw [v1] at HO
    go_enter Tryd.func49, Tryd.ntmps49
    go_wp2
    refine wp_region_aft (by kernel_rfl) (by kernel_rfl) ?_
    repeat (go_big_quiet_step ((first
      | (go_at_call 41; exact Aft.same (HK.out _))
      | (go_at_call 42; exact Aft.call (HC.out _))
      | (go_at_call 44; exact Aft.call (HT.out _)))))
    refine wpQuiet_nil ?_
    intro w1 hb1
    go_wp2
    go_ret
    exact ⟨ret_bool (by rw [HO.out]; rfl), hb1⟩
  · rw [v1, v3, v4] at HO
    go_enter Tryd.func49, Tryd.ntmps49
    go_wp2
    refine wp_region_aft (by kernel_rfl) (by kernel_rfl) ?_
    repeat (go_big_quiet_step ((first
      | (go_at_call 41; exact Aft.same (HK.out _))
      | (go_at_call 42; exact Aft.call (HC.out _))
      | (go_at_call 44; exact Aft.call (HT.out _)))))
    refine wpQuiet_nil ?_
    intro w1 hb1
    go_wp2
    go_ret
    exact ⟨ret_bool (by rw [HO.out]; simp), hb1⟩
  · have HO2 : Hid (okM k c sh t = Lib.containsS ss sh) := by
      refine Lib.hid ?_
      rw [HO.out, v1]
      rcases hv with v3 | ⟨v3, v4⟩
      · rw [v3]; simp
      · rw [v3, v4]; simp
    clear HO
    rcases hv with v3 | ⟨v3, v4⟩
    all_goals
      go_enter Tryd.func49, Tryd.ntmps49
      go_wp2
      refine wp_region_aft (by kernel_rfl) (by kernel_rfl) ?_
      repeat (go_big_quiet_step ((first
        | (go_at_call 41; exact Aft.same (HK.out _))
        | (go_at_call 42; exact Aft.call (HC.out _))
        | (go_at_call 44; exact Aft.call (HT.out _)))))
      refine wpQuiet_nil ?_
      intro w1 hb1

      obtain ⟨x1, rfl⟩ : ∃ x : Aft w, w1 = x.w1 := ⟨⟨w1, hb1⟩, rfl⟩
      clear hb1
      go_wp2_with fail
      refine (HS.out _).mono ?_
      rintro e w2 ⟨g2, rfl, hrow, hlt2, hb2⟩
      have l0 : ∀ y : Aft w2, y.w1.cell? ⟨g, 2, none⟩ = some (.string sh) := fun y => k2 ⟨y.w1, held_next (held_next x1.below hb2) y.below⟩
      have HR := Lib.hid (fun y : Aft w2 => rowS_aft hrow hlt2 y)
      clear hrow k0 k1 k2 k3 c0 c1 c2 c3
      go_wp2
      go_loopw [4] (fun i wr => ∃ (q : Nat) (x : Aft w2), q ≤ ss.length ∧ i = .int .i64 q ∧ wr = x.w1 ∧ Hid (∀ i, i < q → ((ss.getD i ⟨#[]⟩).toList == sh.toList) = false)) (fun i _ => ss.length - (intOf i).toNat)
      case atStart => exact ⟨0, ⟨w2, Below.refl _ _⟩, by omega, rfl, rfl, Lib.hid (fun i hi => by omega)⟩
      case round =>
        obtain ⟨q, x, hq, rfl, rfl, hall⟩ := hrel
        by_cases hlt : q < ss.length
        · have r0 : ∀ y : Aft w2, y.w1.cell? ⟨g2, q, none⟩ = some (.string (ss.getD q ⟨#[]⟩)) := fun y => HR.out y q hlt
          have HY := Lib.hid (fun h => has_yes (ss := ss) (x := sh) (i := q) hlt h)
          obtain ⟨sq, hsq⟩ : ∃ sq, ss.getD q ⟨#[]⟩ = sq := ⟨_, rfl⟩
          rw [hsq] at r0 HY
          have HSQ := Lib.hid hsq
          clear hsq
          cases hv : (sq.toList == sh.toList)
          all_goals
            have HV := Lib.hid hv
            go_wp2
            refine wp_region_aftx x (by kernel_rfl) (by kernel_rfl) ?_
            repeat (go_big_quiet_step (fail))
            refine wpQuiet_nil ?_
            intro z
            go_wp2
          · go_roundw
            case rel => exact ⟨q + 1, z, by omega, by go_num, rfl, Lib.hid (fun i hi => by
              by_cases e : i = q
              · rw [e, HSQ.out]; exact HV.out
              · exact hall.out i (by omega))⟩
            case measure => simp [intOf]; omega
          · go_ret
            exact ⟨ret_bool (by rw [HO2.out, HY.out HV.out]), held_next (held_next x1.below hb2) (Aft.below _)⟩
        · obtain rfl : q = ss.length := by omega
          go_wp2
          go_ret
          exact ⟨ret_bool (by rw [HO2.out, has_no hall.out]), held_next (held_next x1.below hb2) x.below⟩
set_option maxHeartbeats 4000000 in
theorem l11Ok_out (g : Nat) (k : Int) (h : ¬ (1 ≤ k ∧ k ≤ 9)) (c sh t : ByteArray) (w : World) (c0 : w.cell? ⟨g, 0, none⟩ = some (.int .i64 k)) (c1 : w.cell? ⟨g, 1, none⟩ = some (.string c)) (c2 : w.cell? ⟨g, 2, none⟩ = some (.string sh)) (c3 : w.cell? ⟨g, 3, none⟩ = some (.string t)) :
    Calls Tryd.prog 49 #[.pointer (some ⟨g, 0, none⟩)] w fun e w' => e = .returned (.bool (okM k c sh t)) ∧ Below w.heap.size w w' := by
  have hg : g < w.heap.size := cell_lt c0
  have k0 : ∀ y : Aft w, y.w1.cell? ⟨g, 0, none⟩ = some (.int .i64 k) := fun y => y.cell hg c0
  have k1 : ∀ y : Aft w, y.w1.cell? ⟨g, 1, none⟩ = some (.string c) := fun y => y.cell hg c1
  have k2 : ∀ y : Aft w, y.w1.cell? ⟨g, 2, none⟩ = some (.string sh) := fun y => y.cell hg c2
  have k3 : ∀ y : Aft w, y.w1.cell? ⟨g, 3, none⟩ = some (.string t) := fun y => y.cell hg c3
  have HO := Lib.hid (show okM k c sh t = dMark k c sh t 0 ⟨#[]⟩ ⟨#[]⟩ ⟨#[]⟩ from if_neg h)
  have HK := Lib.hid (fun W => l11KindM_c k false (inR_no h) W)
  by_cases hz : k = 0
  · subst hz
    have heq := fun W => eqlMark_run 0 c sh t 0 ⟨#[]⟩ ⟨#[]⟩ ⟨#[]⟩ W
    rw [HO.out]
    generalize dMark 0 c sh t 0 ⟨#[]⟩ ⟨#[]⟩ ⟨#[]⟩ = v at *
    clear h hg
    go_enter Tryd.func49, Tryd.ntmps49
    go_wp2
    go_ret
    exact ⟨rfl, (by repeat (first | exact Below.refl _ _ | refine Below.alloc ?_ (by simp; try omega) _ | refine Below.drew ?_))⟩
  · have hz0 : ((k : Int) == 0) = false := by simpa using hz
    have HF := Lib.hid (show okM k c sh t = false by rw [HO.out, dMark, hz0]; rfl)
    clear h hg
    go_enter Tryd.func49, Tryd.ntmps49
    go_wp2
    refine wp_region_aft (by kernel_rfl) (by kernel_rfl) ?_
    repeat (go_big_quiet_step ((go_at_call 41; exact Aft.same (HK.out _))))
    refine wpQuiet_nil ?_
    intro w1 hb1
    go_wp2
    go_ret
    exact ⟨ret_bool HF.out.symm, hb1⟩
theorem l11Ok_c (g : Nat) (k : Int) (c sh t : ByteArray) (w : World) (c0 : w.cell? ⟨g, 0, none⟩ = some (.int .i64 k)) (c1 : w.cell? ⟨g, 1, none⟩ = some (.string c)) (c2 : w.cell? ⟨g, 2, none⟩ = some (.string sh)) (c3 : w.cell? ⟨g, 3, none⟩ = some (.string t)) :
    Calls Tryd.prog 49 #[.pointer (some ⟨g, 0, none⟩)] w fun e w' => e = .returned (.bool (okM k c sh t)) ∧ Below w.heap.size w w' := by
  by_cases h : 1 ≤ k ∧ k ≤ 9
  · exact l11Ok_in g k h c sh t w c0 c1 c2 c3
  · exact l11Ok_out g k h c sh t w c0 c1 c2 c3
def lays110_ren : Go.Shelf.Ren := ⟨fun | 110 => 50 | 109 => 81 | n => n, fun | 31 => 56 | 9 => 9 | 4 => 4 | 3 => 3 | 0 => 0 | n => n, fun  | n => n⟩
theorem lays110 : Lays.n110 Tryd.prog lays110_ren where
  mixed := by kernel_rfl
  f109 := Tryd.func81.trans (congrArg some (by kernel_rfl))
  f110 := Tryd.func50.trans (congrArg some (by kernel_rfl))
  t0 := Tryd.underlying0
  a0 := Tryd.isAgg0
  z0 := Tryd.sizeOf0
  v0 := Tryd.zeroValue0
  t3 := Tryd.underlying3
  a3 := Tryd.isAgg3
  z3 := Tryd.sizeOf3
  v3 := Tryd.zeroValue3
  t4 := Tryd.underlying4
  a4 := Tryd.isAgg4
  z4 := Tryd.sizeOf4
  v4 := Tryd.zeroValue4
  t9 := Tryd.underlying9
  a9 := Tryd.isAgg9
  z9 := Tryd.sizeOf9
  v9 := Tryd.zeroValue9
  t31 := Tryd.underlying56
  a31 := Tryd.isAgg56
  z31 := Tryd.sizeOf56
  v31 := Tryd.zeroValue56
theorem contains_c (ss : List ByteArray) (g : Nat) (x : ByteArray) (w : World) (hl : ss.length ≤ 5) (hr : RowS w g ss) :
    Calls Tryd.prog 50 #[.slice (some ⟨g, 0, none⟩) ss.length ss.length, .string x] w fun e w' => e = .returned (.bool (Lib.containsS ss x)) ∧ w = w' := by
  have := Any.slices_Contains_string lays110 g 0 ss.length ss.length ss x w (Nat.le_refl _) (by omega) (fun j hj => by
    rw [Nat.zero_add, hr j hj]
    simp [List.getD_eq_getElem?_getD, List.getElem?_eq_getElem hj])
  rw [List.take_length] at this
  exact this.mono fun _ _ h => ⟨h.1, h.2.symm⟩
set_option maxHeartbeats 4000000 in
theorem validMark_in (k : Int) (h : 1 ≤ k ∧ k ≤ 9) (c sh t : ByteArray) (w : World) (hT : Spaces w) :
    Calls Tryd.prog 18 #[.agg #[.int .i64 k, .string c, .string sh, .string t]] w fun e w' => e = .returned (.bool (okM k c sh t)) ∧ Below w.heap.size w w' := by
  have HO := Lib.hid (show okM k c sh t = ((c.toList == (pickS markCols k).toList) && (Lib.containsS (shapes k) sh && (t.toList.isEmpty || (t.toList == (pickS markTops k).toList)))) from if_pos h)
  have HK := Lib.hid (fun W => isMarkKindM_c k true (inR_yes h) W)
  have HC := Lib.hid (fun W => markColors_c k W)
  have HT := Lib.hid (fun W => markTop_c k W)
  have HS := Lib.hid (fun W hW => markShapes_c k h W hW)
  have HX := Lib.hid (fun W G hR => contains_c (shapes k) G sh W (shapes_len h).2 hR)
  have hz : ((k : Int) == 0) = false := by simp; omega
  have heq := fun W => eqlMark_run k c sh t 0 ⟨#[]⟩ ⟨#[]⟩ ⟨#[]⟩ W
  rw [show dMark k c sh t 0 ⟨#[]⟩ ⟨#[]⟩ ⟨#[]⟩ = false by rw [dMark, hz]; rfl] at heq
  generalize Lib.containsS (shapes k) sh = v2 at *
  generalize shapes k = ss at *
  generalize pickS markCols k = col at *
  generalize pickS markTops k = top at *
  go_enter Tryd.func18, Tryd.ntmps18
  go_wp2_with fail
  generalize hW : w.alloc (.cells #[.int .i64 k, .string c, .string sh, .string t] 23) = W at *
  have hbW : Below w.heap.size w W := hW ▸ (by repeat (first | exact Below.refl _ _ | refine Below.alloc ?_ (by simp; try omega) _ | refine Below.drew ?_))
  have hTW := hT.below hbW
  have k0 : ∀ y : Aft W, y.w1.cell? ⟨w.heap.size, 0, none⟩ = some (.int .i64 k) := by subst hW; exact fun y => y.new rfl
  have k1 : ∀ y : Aft W, y.w1.cell? ⟨w.heap.size, 1, none⟩ = some (.string c) := by subst hW; exact fun y => y.new rfl
  have k2 : ∀ y : Aft W, y.w1.cell? ⟨w.heap.size, 2, none⟩ = some (.string sh) := by subst hW; exact fun y => y.new rfl
  have k3 : ∀ y : Aft W, y.w1.cell? ⟨w.heap.size, 3, none⟩ = some (.string t) := by subst hW; exact fun y => y.new rfl
  clear hW hT
  refine wp_region_plan (C := fun w' => ∃ x : Aft W, w' = x.w1) [(0, true), (1, true), (2, false), (3, true), (4, true), (5, true), (6, true), (7, true), (8, false), (9, true), (10, true), (11, true), (12, true), (13, true), (15, true), (16, true), (14, false), (17, false), (18, true), (19, true), (20, true), (21, true), (22, true), (23, true), (24, true), (25, true), (26, true), (27, true), (28, false), (29, true), (30, true), (31, true)] (by kernel_rfl) (by kernel_rfl) (fun _ _ d _ _ h => by cases d <;> exact h) ⟨⟨_, (Below.refl W.heap.size W).drew⟩, rfl⟩ ?_
  have hcase : (c.toList == col.toList) = false ∨ ((c.toList == col.toList) = true ∧ v2 = false) ∨ ((c.toList == col.toList) = true ∧ v2 = true ∧ t.toList.isEmpty = true) ∨ ((c.toList == col.toList) = true ∧ v2 = true ∧ t.toList.isEmpty = false) := by
    cases (c.toList == col.toList) <;> cases v2 <;> cases t.toList.isEmpty <;> simp
  have hb0 : Below W.heap.size W W.drew := (Below.refl _ _).drew
  rcases hcase with v1 | ⟨v1, rfl⟩ | ⟨v1, rfl, v3⟩ | ⟨v1, rfl, v3⟩
  · rw [v1] at HO
    iterate 2 (first | (refine plan_skip rfl rfl ?_; go_simp) | (refine plan_look rfl rfl (by rintro _ ⟨x, rfl⟩; go_simp; rfl) ?_; go_simp))
    refine plan_alone rfl rfl ?_
    go_simp
    refine (HK.out _).mono ?_
    rintro e _ ⟨rfl, rfl⟩
    refine ⟨⟨⟨_, hb0⟩, rfl⟩, ?_⟩
    iterate 5 (first | (refine plan_skip rfl rfl ?_; go_simp) | (refine plan_look rfl rfl (by rintro _ ⟨x, rfl⟩; go_simp; rfl) ?_; go_simp))
    refine plan_alone rfl rfl ?_
    go_simp
    refine (HC.out _).mono ?_
    rintro e w4 ⟨rfl, hb4⟩
    have b4 := held_next hb0 hb4
    refine ⟨⟨⟨_, b4⟩, rfl⟩, ?_⟩
    iterate 3 (first | (refine plan_skip rfl rfl ?_; go_simp) | (refine plan_look rfl rfl (by rintro _ ⟨x, rfl⟩; go_simp; rfl) ?_; go_simp))
    iterate 4 (first | (refine plan_skip rfl rfl ?_; go_simp) | (refine plan_look rfl rfl (by rintro _ ⟨x, rfl⟩; go_simp; rfl) ?_; go_simp))
    refine plan_skip rfl rfl ?_
    go_simp
    refine plan_skip rfl rfl ?_
    go_simp
    iterate 10 (first | (refine plan_skip rfl rfl ?_; go_simp) | (refine plan_look rfl rfl (by rintro _ ⟨x, rfl⟩; go_simp; rfl) ?_; go_simp))
    refine plan_skip rfl rfl ?_
    go_simp
    iterate 3 (first | (refine plan_skip rfl rfl ?_; go_simp) | (refine plan_look rfl rfl (by rintro _ ⟨x, rfl⟩; go_simp; rfl) ?_; go_simp))
    refine plan_end ?_
    go_wp2
    go_ret
    exact ⟨ret_bool (by rw [HO.out]; simp), held_next hbW b4⟩
  · rw [v1] at HO
    iterate 2 (first | (refine plan_skip rfl rfl ?_; go_simp) | (refine plan_look rfl rfl (by rintro _ ⟨x, rfl⟩; go_simp; rfl) ?_; go_simp))
    refine plan_alone rfl rfl ?_
    go_simp
    refine (HK.out _).mono ?_
    rintro e _ ⟨rfl, rfl⟩
    refine ⟨⟨⟨_, hb0⟩, rfl⟩, ?_⟩
    iterate 5 (first | (refine plan_skip rfl rfl ?_; go_simp) | (refine plan_look rfl rfl (by rintro _ ⟨x, rfl⟩; go_simp; rfl) ?_; go_simp))
    refine plan_alone rfl rfl ?_
    go_simp
    refine (HC.out _).mono ?_
    rintro e w4 ⟨rfl, hb4⟩
    have b4 := held_next hb0 hb4
    refine ⟨⟨⟨_, b4⟩, rfl⟩, ?_⟩
    iterate 3 (first | (refine plan_skip rfl rfl ?_; go_simp) | (refine plan_look rfl rfl (by rintro _ ⟨x, rfl⟩; go_simp; rfl) ?_; go_simp))
    iterate 4 (first | (refine plan_skip rfl rfl ?_; go_simp) | (refine plan_look rfl rfl (by rintro _ ⟨x, rfl⟩; go_simp; rfl) ?_; go_simp))
    refine plan_alone rfl rfl ?_
    go_simp
    refine (HS.out _ (hTW.below b4)).mono ?_
    rintro e w5 ⟨g5, rfl, hrow, hlt5, hb5⟩
    have b5 := held_next b4 hb5
    refine ⟨⟨⟨_, b5⟩, rfl⟩, ?_⟩
    refine plan_alone rfl rfl ?_
    go_simp
    refine (HX.out _ _ hrow).mono ?_
    rintro e _ ⟨rfl, rfl⟩
    refine ⟨⟨⟨_, b5⟩, rfl⟩, ?_⟩
    iterate 10 (first | (refine plan_skip rfl rfl ?_; go_simp) | (refine plan_look rfl rfl (by rintro _ ⟨x, rfl⟩; go_simp; rfl) ?_; go_simp))
    refine plan_skip rfl rfl ?_
    go_simp
    iterate 3 (first | (refine plan_skip rfl rfl ?_; go_simp) | (refine plan_look rfl rfl (by rintro _ ⟨x, rfl⟩; go_simp; rfl) ?_; go_simp))
    refine plan_end ?_
    go_wp2
    go_ret
    exact ⟨ret_bool (by rw [HO.out]; simp), held_next hbW b5⟩
  · rw [v1, v3] at HO
    iterate 2 (first | (refine plan_skip rfl rfl ?_; go_simp) | (refine plan_look rfl rfl (by rintro _ ⟨x, rfl⟩; go_simp; rfl) ?_; go_simp))
    refine plan_alone rfl rfl ?_
    go_simp
    refine (HK.out _).mono ?_
    rintro e _ ⟨rfl, rfl⟩
    refine ⟨⟨⟨_, hb0⟩, rfl⟩, ?_⟩
    iterate 5 (first | (refine plan_skip rfl rfl ?_; go_simp) | (refine plan_look rfl rfl (by rintro _ ⟨x, rfl⟩; go_simp; rfl) ?_; go_simp))
    refine plan_alone rfl rfl ?_
    go_simp
    refine (HC.out _).mono ?_
    rintro e w4 ⟨rfl, hb4⟩
    have b4 := held_next hb0 hb4
    refine ⟨⟨⟨_, b4⟩, rfl⟩, ?_⟩
    iterate 3 (first | (refine plan_skip rfl rfl ?_; go_simp) | (refine plan_look rfl rfl (by rintro _ ⟨x, rfl⟩; go_simp; rfl) ?_; go_simp))
    iterate 4 (first | (refine plan_skip rfl rfl ?_; go_simp) | (refine plan_look rfl rfl (by rintro _ ⟨x, rfl⟩; go_simp; rfl) ?_; go_simp))
    refine plan_alone rfl rfl ?_
    go_simp
    refine (HS.out _ (hTW.below b4)).mono ?_
    rintro e w5 ⟨g5, rfl, hrow, hlt5, hb5⟩
    have b5 := held_next b4 hb5
    refine ⟨⟨⟨_, b5⟩, rfl⟩, ?_⟩
    refine plan_alone rfl rfl ?_
    go_simp
    refine (HX.out _ _ hrow).mono ?_
    rintro e _ ⟨rfl, rfl⟩
    refine ⟨⟨⟨_, b5⟩, rfl⟩, ?_⟩
    iterate 10 (first | (refine plan_skip rfl rfl ?_; go_simp) | (refine plan_look rfl rfl (by rintro _ ⟨x, rfl⟩; go_simp; rfl) ?_; go_simp))
    refine plan_skip rfl rfl ?_
    go_simp
    iterate 3 (first | (refine plan_skip rfl rfl ?_; go_simp) | (refine plan_look rfl rfl (by rintro _ ⟨x, rfl⟩; go_simp; rfl) ?_; go_simp))
    refine plan_end ?_
    go_wp2
    go_ret
    exact ⟨ret_bool (by rw [HO.out]; simp), held_next hbW b5⟩
  · rw [v1, v3] at HO
    iterate 2 (first | (refine plan_skip rfl rfl ?_; go_simp) | (refine plan_look rfl rfl (by rintro _ ⟨x, rfl⟩; go_simp; rfl) ?_; go_simp))
    refine plan_alone rfl rfl ?_
    go_simp
    refine (HK.out _).mono ?_
    rintro e _ ⟨rfl, rfl⟩
    refine ⟨⟨⟨_, hb0⟩, rfl⟩, ?_⟩
    iterate 5 (first | (refine plan_skip rfl rfl ?_; go_simp) | (refine plan_look rfl rfl (by rintro _ ⟨x, rfl⟩; go_simp; rfl) ?_; go_simp))
    refine plan_alone rfl rfl ?_
    go_simp
    refine (HC.out _).mono ?_
    rintro e w4 ⟨rfl, hb4⟩
    have b4 := held_next hb0 hb4
    refine ⟨⟨⟨_, b4⟩, rfl⟩, ?_⟩
    iterate 3 (first | (refine plan_skip rfl rfl ?_; go_simp) | (refine plan_look rfl rfl (by rintro _ ⟨x, rfl⟩; go_simp; rfl) ?_; go_simp))
    iterate 4 (first | (refine plan_skip rfl rfl ?_; go_simp) | (refine plan_look rfl rfl (by rintro _ ⟨x, rfl⟩; go_simp; rfl) ?_; go_simp))
    refine plan_alone rfl rfl ?_
    go_simp
    refine (HS.out _ (hTW.below b4)).mono ?_
    rintro e w5 ⟨g5, rfl, hrow, hlt5, hb5⟩
    have b5 := held_next b4 hb5
    refine ⟨⟨⟨_, b5⟩, rfl⟩, ?_⟩
    refine plan_alone rfl rfl ?_
    go_simp
    refine (HX.out _ _ hrow).mono ?_
    rintro e _ ⟨rfl, rfl⟩
    refine ⟨⟨⟨_, b5⟩, rfl⟩, ?_⟩
    iterate 10 (first | (refine plan_skip rfl rfl ?_; go_simp) | (refine plan_look rfl rfl (by rintro _ ⟨x, rfl⟩; go_simp; rfl) ?_; go_simp))
    refine plan_alone rfl rfl ?_
    go_simp
    refine (HT.out _).mono ?_
    rintro e w6 ⟨rfl, hb6⟩
    have b6 := held_next b5 hb6
    refine ⟨⟨⟨_, b6⟩, rfl⟩, ?_⟩
    iterate 3 (first | (refine plan_skip rfl rfl ?_; go_simp) | (refine plan_look rfl rfl (by rintro _ ⟨x, rfl⟩; go_simp; rfl) ?_; go_simp))
    refine plan_end ?_
    go_wp2
    go_ret
    exact ⟨ret_bool (by rw [HO.out]; simp), held_next hbW b6⟩
end Go.Proofs.YtolijmldobncbaaDoor
