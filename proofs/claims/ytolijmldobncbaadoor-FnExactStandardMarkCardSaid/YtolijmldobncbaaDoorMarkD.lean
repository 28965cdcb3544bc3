/- StandardMark on both sides (printed by gen_markd.py). -/
import Derived.Test.YtolijmldobncbaaDoorMark
import Derived.Test.YtolijmldobncbaaDoorQPlan
namespace Go.Proofs.YtolijmldobncbaaDoor
open Go Go.RowKit Go.Shelf
set_option maxHeartbeats 4000000 in
theorem implStandard_in (k : Int) (h : 1 ≤ k ∧ k ≤ 9) (w : World) (hT : Spaces w) :
    Calls Tryd.prog 13 #[.int .i64 k] w fun e w' => e = .returned (.tuple #[.agg #[.int .i64 k, .string (pickS markCols k), .string ((shapes k).getD 0 ⟨#[]⟩), .string (pickS markTops k)], .int .i64 0]) ∧ Below w.heap.size w w' := by
  have HK := Lib.hid (fun W => isMarkKindM_c k true (inR_yes h) W)
  have HC := Lib.hid (fun W => markColors_c k W)
  have HT := Lib.hid (fun W => markTop_c k W)
  have HS := Lib.hid (fun W hW => markShapes_c k h W hW)
  have hl0 : 0 < (shapes k).length := (shapes_len h).1
  generalize shapes k = ss at *
  generalize pickS markCols k = col at *
  generalize pickS markTops k = top at *
  obtain ⟨s0, hs0⟩ : ∃ s0, ss.getD 0 ⟨#[]⟩ = s0 := ⟨_, rfl⟩
  rw [hs0]
  have HS0 := Lib.hid hs0
  clear hs0
  go_enter Tryd.func13, Tryd.ntmps13
  go_wp2_with (go_at_call 45; refine (HK.out _).mono ?_; rintro e w' ⟨rfl, rfl⟩)
  generalize hW : w.alloc (.cells #[.int .i64 0, .string ⟨#[]⟩, .string ⟨#[]⟩, .string ⟨#[]⟩] 23) = W at *
  have hbW : Below w.heap.size w W := hW ▸ (by repeat (first | exact Below.refl _ _ | refine Below.alloc ?_ (by simp; try omega) _ | refine Below.drew ?_))
  have hTW := hT.below hbW
  have hsz : w.heap.size < W.heap.size := by subst hW; simp
  have k0 : ∀ y : Aft W, y.w1.cell? ⟨w.heap.size, 0, none⟩ = some (.int .i64 0) := by subst hW; exact fun y => y.new rfl
  have k1 : ∀ y : Aft W, y.w1.cell? ⟨w.heap.size, 1, none⟩ = some (.string ⟨#[]⟩) := by subst hW; exact fun y => y.new rfl
  have k2 : ∀ y : Aft W, y.w1.cell? ⟨w.heap.size, 2, none⟩ = some (.string ⟨#[]⟩) := by subst hW; exact fun y => y.new rfl
  have k3 : ∀ y : Aft W, y.w1.cell? ⟨w.heap.size, 3, none⟩ = some (.string ⟨#[]⟩) := by subst hW; exact fun y => y.new rfl
  have kf : ∀ (y : Aft W) (j : Nat), y.w1.frozen? ⟨w.heap.size, j, none⟩ = false := by
    intro y j
    rw [(bcell y.below).2 _ _ hsz, ← hW]
    simp [go_sem]
  clear hT
  have hb0 : Below W.heap.size W W.drew := (Below.refl _ _).drew
  clear hW
  refine wp_region_plan (C := fun w' => ∃ x : Aft W, w' = x.w1) [(0, true), (1, true), (3, true), (7, true), (2, false), (4, false), (5, true), (6, true), (8, false), (9, true)] (by kernel_rfl) (by kernel_rfl) (fun _ _ d _ _ h => by cases d <;> exact h) ⟨⟨_, hb0⟩, rfl⟩ ?_
  iterate 4 (refine plan_look rfl rfl (by rintro _ ⟨x, rfl⟩; go_simp; rfl) ?_; go_simp)
  refine plan_alone rfl rfl ?_
  go_simp
  refine (HC.out _).mono ?_
  rintro e w4 ⟨rfl, hb4⟩
  have b4 := held_next hb0 hb4
  refine ⟨⟨⟨_, b4⟩, rfl⟩, ?_⟩
  refine plan_turn rfl rfl ?_
  go_simp
  refine (HS.out _ (hTW.below b4)).mono ?_
  rintro e w5 ⟨g5, rfl, hrow, hlt5, hb5⟩
  have b5 := held_next b4 hb5
  have r0 : ∀ y : Aft w5, y.w1.cell? ⟨g5, 0, none⟩ = some (.string s0) := fun y => by rw [← HS0.out]; exact rowS_aft hrow hlt5 y 0 (by omega)
  refine ⟨fun w' => ∃ x : Aft w5, w' = x.w1, aft_within b5, aft_self _, ?_⟩
  iterate 2 (refine plan_look rfl rfl (by rintro _ ⟨x, rfl⟩; go_simp; rfl) ?_; go_simp)
  refine plan_alone rfl rfl ?_
  go_simp
  refine (HT.out _).mono ?_
  rintro e w6 ⟨rfl, hb6⟩
  have b6 := held_next b5 hb6
  refine ⟨⟨⟨_, hb6⟩, rfl⟩, ?_⟩
  iterate 1 (refine plan_look rfl rfl (by rintro _ ⟨x, rfl⟩; go_simp; rfl) ?_; go_simp)
  refine plan_end ?_
  obtain ⟨x6, rfl⟩ : ∃ x : Aft W, w6 = x.w1 := ⟨⟨w6, b6⟩, rfl⟩
  have p0 := k0 x6
  have p1 := k1 x6
  have p2 := k2 x6
  have p3 := k3 x6
  have q0 := kf x6
  have hbz : Below w.heap.size w x6.w1 := held_next hbW x6.below
  clear hrow hb4 hb5 hb6 b4 b5 b6 r0 k0 k1 k2 k3 kf
  go_wp2
  refine bodyPost_ret (v := .tuple #[.agg #[.int .i64 k, .string col, .string s0, .string top], .int .i64 0]) (by simp [results, Tryd.results13, go_sem, p0, p1, p2, p3]) rfl ⟨rfl, ?_⟩
  exact (((hbz.setCell (by simp) _).setCell (by simp) _).setCell (by simp) _).setCell (by simp) _
set_option maxHeartbeats 4000000 in
theorem implStandard_out (k : Int) (h : ¬ (1 ≤ k ∧ k ≤ 9)) (w : World) :
    Calls Tryd.prog 13 #[.int .i64 k] w fun e w' => e = .returned (.tuple #[.agg #[.int .i64 0, .string ⟨#[]⟩, .string ⟨#[]⟩, .string ⟨#[]⟩], .int .i64 2]) ∧ Below w.heap.size w w' := by
  have HK := Lib.hid (fun W => isMarkKindM_c k false (inR_no h) W)
  clear h
  go_enter Tryd.func13, Tryd.ntmps13
  go_wp2_with (go_at_call 45; refine (HK.out _).mono ?_; rintro e w' ⟨rfl, rfl⟩)
  refine bodyPost_ret (v := .tuple #[.agg #[.int .i64 0, .string ⟨#[]⟩, .string ⟨#[]⟩, .string ⟨#[]⟩], .int .i64 2]) (by simp [results, Tryd.results13, go_sem]) rfl ⟨rfl, ?_⟩
  repeat refine Below.setCell ?_ (by simp; try omega) _
  exact (by repeat (first | exact Below.refl _ _ | refine Below.alloc ?_ (by simp; try omega) _ | refine Below.drew ?_))
set_option maxHeartbeats 4000000 in
theorem specStandard_in (k : Int) (h : 1 ≤ k ∧ k ≤ 9) (w : World) :
    Calls Tryd.prog 12 #[.int .i64 k] w fun e w' => e = .returned (.tuple #[.agg #[.int .i64 k, .string (pickS markCols k), .string ((shapes k).getD 0 ⟨#[]⟩), .string (pickS markTops k)], .int .i64 0]) ∧ Below w.heap.size w w' := by
  have HK := Lib.hid (fun W => l11KindM_c k true (inR_yes h) W)
  have HC := Lib.hid (fun W => l11Colors_c k h W)
  have HT := Lib.hid (fun W => l11Topmark_c k h W)
  have HS := Lib.hid (fun W => l11Shapes_c k h W)
  have hl0 : 0 < (shapes k).length := (shapes_len h).1
  generalize shapes k = ss at *
  generalize pickS markCols k = col at *
  generalize pickS markTops k = top at *
  obtain ⟨s0, hs0⟩ : ∃ s0, ss.getD 0 ⟨#[]⟩ = s0 := ⟨_, rfl⟩
  rw [hs0]
  have HS0 := Lib.hid hs0
  clear hs0
  go_enter Tryd.func12, Tryd.ntmps12
  go_wp2_with (go_at_call 41; refine (HK.out _).mono ?_; rintro e w' ⟨rfl, rfl⟩)
  generalize hW : w.alloc (.cells #[.int .i64 0, .string ⟨#[]⟩, .string ⟨#[]⟩, .string ⟨#[]⟩] 23) = W at *
  have hbW : Below w.heap.size w W := hW ▸ (by repeat (first | exact Below.refl _ _ | refine Below.alloc ?_ (by simp; try omega) _ | refine Below.drew ?_))
  have hsz : w.heap.size < W.heap.size := by subst hW; simp
  have k0 : ∀ y : Aft W, y.w1.cell? ⟨w.heap.size, 0, none⟩ = some (.int .i64 0) := by subst hW; exact fun y => y.new rfl
  have k1 : ∀ y : Aft W, y.w1.cell? ⟨w.heap.size, 1, none⟩ = some (.string ⟨#[]⟩) := by subst hW; exact fun y => y.new rfl
  have k2 : ∀ y : Aft W, y.w1.cell? ⟨w.heap.size, 2, none⟩ = some (.string ⟨#[]⟩) := by subst hW; exact fun y => y.new rfl
  have k3 : ∀ y : Aft W, y.w1.cell? ⟨w.heap.size, 3, none⟩ = some (.string ⟨#[]⟩) := by subst hW; exact fun y => y.new rfl
  have kf : ∀ (y : Aft W) (j : Nat), y.w1.frozen? ⟨w.heap.size, j, none⟩ = false := by
    intro y j
    rw [(bcell y.below).2 _ _ hsz, ← hW]
    simp [go_sem]
  have hb0 : Below W.heap.size W W.drew := (Below.refl _ _).drew
  clear hW
  refine wp_region_plan (C := fun w' => ∃ x : Aft W, w' = x.w1) [(0, true), (1, true), (3, true), (7, true), (2, false), (4, false), (5, true), (6, true), (8, false), (9, true)] (by kernel_rfl) (by kernel_rfl) (fun _ _ d _ _ h => by cases d <;> exact h) ⟨⟨_, hb0⟩, rfl⟩ ?_
  iterate 4 (refine plan_look rfl rfl (by rintro _ ⟨x, rfl⟩; go_simp; rfl) ?_; go_simp)
  refine plan_alone rfl rfl ?_
  go_simp
  refine (HC.out _).mono ?_
  rintro e w4 ⟨rfl, hb4⟩
  have b4 := held_next hb0 hb4
  refine ⟨⟨⟨_, b4⟩, rfl⟩, ?_⟩
  refine plan_turn rfl rfl ?_
  go_simp
  refine (HS.out _).mono ?_
  rintro e w5 ⟨g5, rfl, hrow, hlt5, hb5⟩
  have b5 := held_next b4 hb5
  have r0 : ∀ y : Aft w5, y.w1.cell? ⟨g5, 0, none⟩ = some (.string s0) := fun y => by rw [← HS0.out]; exact rowS_aft hrow hlt5 y 0 (by omega)
  refine ⟨fun w' => ∃ x : Aft w5, w' = x.w1, aft_within b5, aft_self _, ?_⟩
  iterate 2 (refine plan_look rfl rfl (by rintro _ ⟨x, rfl⟩; go_simp; rfl) ?_; go_simp)
  refine plan_alone rfl rfl ?_
  go_simp
  refine (HT.out _).mono ?_
  rintro e w6 ⟨rfl, hb6⟩
  have b6 := held_next b5 hb6
  refine ⟨⟨⟨_, hb6⟩, rfl⟩, ?_⟩
  iterate 1 (refine plan_look rfl rfl (by rintro _ ⟨x, rfl⟩; go_simp; rfl) ?_; go_simp)
  refine plan_end ?_
  obtain ⟨x6, rfl⟩ : ∃ x : Aft W, w6 = x.w1 := ⟨⟨w6, b6⟩, rfl⟩
  have p0 := k0 x6
  have p1 := k1 x6
  have p2 := k2 x6
  have p3 := k3 x6
  have q0 := kf x6
  have hbz : Below w.heap.size w x6.w1 := held_next hbW x6.below
  clear hrow hb4 hb5 hb6 b4 b5 b6 r0 k0 k1 k2 k3 kf
  go_wp2
  refine bodyPost_ret (v := .tuple #[.agg #[.int .i64 k, .string col, .string s0, .string top], .int .i64 0]) (by simp [results, Tryd.results12, go_sem, p0, p1, p2, p3]) rfl ⟨rfl, ?_⟩
  exact (((hbz.setCell (by simp) _).setCell (by simp) _).setCell (by simp) _).setCell (by simp) _
set_option maxHeartbeats 4000000 in
theorem specStandard_out (k : Int) (h : ¬ (1 ≤ k ∧ k ≤ 9)) (w : World) :
    Calls Tryd.prog 12 #[.int .i64 k] w fun e w' => e = .returned (.tuple #[.agg #[.int .i64 0, .string ⟨#[]⟩, .string ⟨#[]⟩, .string ⟨#[]⟩], .int .i64 2]) ∧ Below w.heap.size w w' := by
  have HK := Lib.hid (fun W => l11KindM_c k false (inR_no h) W)
  clear h
  go_enter Tryd.func12, Tryd.ntmps12
  go_wp2_with (go_at_call 41; refine (HK.out _).mono ?_; rintro e w' ⟨rfl, rfl⟩)
  refine bodyPost_ret (v := .tuple #[.agg #[.int .i64 0, .string ⟨#[]⟩, .string ⟨#[]⟩, .string ⟨#[]⟩], .int .i64 2]) (by simp [results, Tryd.results12, go_sem]) rfl ⟨rfl, ?_⟩
  repeat refine Below.setCell ?_ (by simp; try omega) _
  exact (by repeat (first | exact Below.refl _ _ | refine Below.alloc ?_ (by simp; try omega) _ | refine Below.drew ?_))
end Go.Proofs.YtolijmldobncbaaDoor
