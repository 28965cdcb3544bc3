/- HeardFrom: the program's side. -/
import Derived.Test.YtfmljppofkocmaaHeard
namespace Go.Proofs.Ytfmljppofkocmaa
open Go.RowKit
set_option linter.unusedVariables false
set_option maxHeartbeats 4000000 in
theorem implHeard_no (k b p pw a c x y v : Int) (h : (okFog k b p pw && (okP a c && okP x y)) = false) (w : World) :
    Calls Try.prog 50 #[.agg #[.int .i64 k, .int .i64 b, .int .i64 p, .int .i64 pw], .agg #[.int .i64 a, .int .i64 c], .agg #[.int .i64 x, .int .i64 y], .int .i64 v] w fun e w' => e = .returned (.tuple #[.bool false, .int .i64 1]) ∧ Below w.heap.size w w' := by
  have k0 : ∀ z : Aft (((w.alloc (.cells #[.int .i64 k, .int .i64 b, .int .i64 p, .int .i64 pw] 55)).alloc (.cells #[.int .i64 a, .int .i64 c] 73)).alloc (.cells #[.int .i64 x, .int .i64 y] 73)), z.w1.cell? ⟨w.heap.size, 0, none⟩ = some (.int .i64 k) := fun z => z.cell (by simp; try omega) (by simp [go_sem])
  have k1 : ∀ z : Aft (((w.alloc (.cells #[.int .i64 k, .int .i64 b, .int .i64 p, .int .i64 pw] 55)).alloc (.cells #[.int .i64 a, .int .i64 c] 73)).alloc (.cells #[.int .i64 x, .int .i64 y] 73)), z.w1.cell? ⟨w.heap.size, 1, none⟩ = some (.int .i64 b) := fun z => z.cell (by simp; try omega) (by simp [go_sem])
  have k2 : ∀ z : Aft (((w.alloc (.cells #[.int .i64 k, .int .i64 b, .int .i64 p, .int .i64 pw] 55)).alloc (.cells #[.int .i64 a, .int .i64 c] 73)).alloc (.cells #[.int .i64 x, .int .i64 y] 73)), z.w1.cell? ⟨w.heap.size, 2, none⟩ = some (.int .i64 p) := fun z => z.cell (by simp; try omega) (by simp [go_sem])
  have k3 : ∀ z : Aft (((w.alloc (.cells #[.int .i64 k, .int .i64 b, .int .i64 p, .int .i64 pw] 55)).alloc (.cells #[.int .i64 a, .int .i64 c] 73)).alloc (.cells #[.int .i64 x, .int .i64 y] 73)), z.w1.cell? ⟨w.heap.size, 3, none⟩ = some (.int .i64 pw) := fun z => z.cell (by simp; try omega) (by simp [go_sem])
  have k4 : ∀ z : Aft (((w.alloc (.cells #[.int .i64 k, .int .i64 b, .int .i64 p, .int .i64 pw] 55)).alloc (.cells #[.int .i64 a, .int .i64 c] 73)).alloc (.cells #[.int .i64 x, .int .i64 y] 73)), z.w1.cell? ⟨w.heap.size + 1, 0, none⟩ = some (.int .i64 a) := fun z => z.cell (by simp; try omega) (by simp [go_sem])
  have k5 : ∀ z : Aft (((w.alloc (.cells #[.int .i64 k, .int .i64 b, .int .i64 p, .int .i64 pw] 55)).alloc (.cells #[.int .i64 a, .int .i64 c] 73)).alloc (.cells #[.int .i64 x, .int .i64 y] 73)), z.w1.cell? ⟨w.heap.size + 1, 1, none⟩ = some (.int .i64 c) := fun z => z.cell (by simp; try omega) (by simp [go_sem])
  have k6 : ∀ z : Aft (((w.alloc (.cells #[.int .i64 k, .int .i64 b, .int .i64 p, .int .i64 pw] 55)).alloc (.cells #[.int .i64 a, .int .i64 c] 73)).alloc (.cells #[.int .i64 x, .int .i64 y] 73)), z.w1.cell? ⟨w.heap.size + 1 + 1, 0, none⟩ = some (.int .i64 x) := fun z => z.cell (by simp; try omega) (by simp [go_sem])
  have k7 : ∀ z : Aft (((w.alloc (.cells #[.int .i64 k, .int .i64 b, .int .i64 p, .int .i64 pw] 55)).alloc (.cells #[.int .i64 a, .int .i64 c] 73)).alloc (.cells #[.int .i64 x, .int .i64 y] 73)), z.w1.cell? ⟨w.heap.size + 1 + 1, 1, none⟩ = some (.int .i64 y) := fun z => z.cell (by simp; try omega) (by simp [go_sem])
  cases h1 : okFog k b p pw <;> cases h2 : okP a c <;> cases h3 : okP x y
  all_goals first
    | (exfalso; rw [h1, h2, h3] at h; cases h; done)
    | (clear h
       go_enter Try.func50, Try.ntmps50
       go_wp2_with (first
         | (go_at_call 78; refine (Aft.first (validFog_c k b p pw _)).mono ?_; rintro e _ ⟨rfl, z, rfl⟩)
         | (go_at_call 93; refine (arePoints_c _ _ a c x y false (by rw [h2, h3]; rfl) _ (by simp [go_sem]) (by simp [go_sem]) (by simp [go_sem]) (by simp [go_sem])).mono ?_; rintro e w3 ⟨rfl, hb3⟩; obtain ⟨z3, rfl⟩ : ∃ z3 : Aft _, w3 = z3.w1 := ⟨⟨w3, held_next z.below (below_box hb3)⟩, rfl⟩))
       go_ret2
       exact ⟨rfl, below_box (below_box (below_box (Aft.below _)))⟩)
set_option maxHeartbeats 4000000 in
theorem implHeard_wind (k b p pw a c x y v : Int) (h1 : okFog k b p pw = true) (h2 : okP a c = true) (h3 : okP x y = true) (h4 : inR v (-3) 3 = false) (w : World) :
    Calls Try.prog 50 #[.agg #[.int .i64 k, .int .i64 b, .int .i64 p, .int .i64 pw], .agg #[.int .i64 a, .int .i64 c], .agg #[.int .i64 x, .int .i64 y], .int .i64 v] w fun e w' => e = .returned (.tuple #[.bool false, .int .i64 2]) ∧ Below w.heap.size w w' := by
  have k0 : ∀ z : Aft (((w.alloc (.cells #[.int .i64 k, .int .i64 b, .int .i64 p, .int .i64 pw] 55)).alloc (.cells #[.int .i64 a, .int .i64 c] 73)).alloc (.cells #[.int .i64 x, .int .i64 y] 73)), z.w1.cell? ⟨w.heap.size, 0, none⟩ = some (.int .i64 k) := fun z => z.cell (by simp; try omega) (by simp [go_sem])
  have k1 : ∀ z : Aft (((w.alloc (.cells #[.int .i64 k, .int .i64 b, .int .i64 p, .int .i64 pw] 55)).alloc (.cells #[.int .i64 a, .int .i64 c] 73)).alloc (.cells #[.int .i64 x, .int .i64 y] 73)), z.w1.cell? ⟨w.heap.size, 1, none⟩ = some (.int .i64 b) := fun z => z.cell (by simp; try omega) (by simp [go_sem])
  have k2 : ∀ z : Aft (((w.alloc (.cells #[.int .i64 k, .int .i64 b, .int .i64 p, .int .i64 pw] 55)).alloc (.cells #[.int .i64 a, .int .i64 c] 73)).alloc (.cells #[.int .i64 x, .int .i64 y] 73)), z.w1.cell? ⟨w.heap.size, 2, none⟩ = some (.int .i64 p) := fun z => z.cell (by simp; try omega) (by simp [go_sem])
  have k3 : ∀ z : Aft (((w.alloc (.cells #[.int .i64 k, .int .i64 b, .int .i64 p, .int .i64 pw] 55)).alloc (.cells #[.int .i64 a, .int .i64 c] 73)).alloc (.cells #[.int .i64 x, .int .i64 y] 73)), z.w1.cell? ⟨w.heap.size, 3, none⟩ = some (.int .i64 pw) := fun z => z.cell (by simp; try omega) (by simp [go_sem])
  have k4 : ∀ z : Aft (((w.alloc (.cells #[.int .i64 k, .int .i64 b, .int .i64 p, .int .i64 pw] 55)).alloc (.cells #[.int .i64 a, .int .i64 c] 73)).alloc (.cells #[.int .i64 x, .int .i64 y] 73)), z.w1.cell? ⟨w.heap.size + 1, 0, none⟩ = some (.int .i64 a) := fun z => z.cell (by simp; try omega) (by simp [go_sem])
  have k5 : ∀ z : Aft (((w.alloc (.cells #[.int .i64 k, .int .i64 b, .int .i64 p, .int .i64 pw] 55)).alloc (.cells #[.int .i64 a, .int .i64 c] 73)).alloc (.cells #[.int .i64 x, .int .i64 y] 73)), z.w1.cell? ⟨w.heap.size + 1, 1, none⟩ = some (.int .i64 c) := fun z => z.cell (by simp; try omega) (by simp [go_sem])
  have k6 : ∀ z : Aft (((w.alloc (.cells #[.int .i64 k, .int .i64 b, .int .i64 p, .int .i64 pw] 55)).alloc (.cells #[.int .i64 a, .int .i64 c] 73)).alloc (.cells #[.int .i64 x, .int .i64 y] 73)), z.w1.cell? ⟨w.heap.size + 1 + 1, 0, none⟩ = some (.int .i64 x) := fun z => z.cell (by simp; try omega) (by simp [go_sem])
  have k7 : ∀ z : Aft (((w.alloc (.cells #[.int .i64 k, .int .i64 b, .int .i64 p, .int .i64 pw] 55)).alloc (.cells #[.int .i64 a, .int .i64 c] 73)).alloc (.cells #[.int .i64 x, .int .i64 y] 73)), z.w1.cell? ⟨w.heap.size + 1 + 1, 1, none⟩ = some (.int .i64 y) := fun z => z.cell (by simp; try omega) (by simp [go_sem])
  go_enter Try.func50, Try.ntmps50
  go_wp2_with (first
    | (go_at_call 78; refine (Aft.first (validFog_c k b p pw _)).mono ?_; rintro e _ ⟨rfl, z, rfl⟩)
    | (go_at_call 93; refine (arePoints_c _ _ a c x y true (by rw [h2, h3]; rfl) _ (by simp [go_sem]) (by simp [go_sem]) (by simp [go_sem]) (by simp [go_sem])).mono ?_; rintro e w3 ⟨rfl, hb3⟩; obtain ⟨z3, rfl⟩ : ∃ z3 : Aft _, w3 = z3.w1 := ⟨⟨w3, held_next z.below (below_box hb3)⟩, rfl⟩)
    | (go_at_call 94; refine (Aft.same (isWind_c _ _)).mono ?_; rintro e _ ⟨rfl, z, rfl⟩))
  go_ret2
  exact ⟨rfl, below_box (below_box (below_box (Aft.below _)))⟩
set_option maxHeartbeats 4000000 in
theorem implHeard_yes (k b p pw a c x y v : Int) (h1 : okFog k b p pw = true) (h2 : okP a c = true) (h3 : okP x y = true) (h4 : inR v (-3) 3 = true) (w : World) :
    Calls Try.prog 50 #[.agg #[.int .i64 k, .int .i64 b, .int .i64 p, .int .i64 pw], .agg #[.int .i64 a, .int .i64 c], .agg #[.int .i64 x, .int .i64 y], .int .i64 v] w fun e w' => e = .returned (.tuple #[.bool (decide (rootI (sqd a c x y) ≤ sndZ pw v)), .int .i64 0]) ∧ Below w.heap.size w w' := by
  have k0 : ∀ z : Aft (((w.alloc (.cells #[.int .i64 k, .int .i64 b, .int .i64 p, .int .i64 pw] 55)).alloc (.cells #[.int .i64 a, .int .i64 c] 73)).alloc (.cells #[.int .i64 x, .int .i64 y] 73)), z.w1.cell? ⟨w.heap.size, 0, none⟩ = some (.int .i64 k) := fun z => z.cell (by simp; try omega) (by simp [go_sem])
  have k1 : ∀ z : Aft (((w.alloc (.cells #[.int .i64 k, .int .i64 b, .int .i64 p, .int .i64 pw] 55)).alloc (.cells #[.int .i64 a, .int .i64 c] 73)).alloc (.cells #[.int .i64 x, .int .i64 y] 73)), z.w1.cell? ⟨w.heap.size, 1, none⟩ = some (.int .i64 b) := fun z => z.cell (by simp; try omega) (by simp [go_sem])
  have k2 : ∀ z : Aft (((w.alloc (.cells #[.int .i64 k, .int .i64 b, .int .i64 p, .int .i64 pw] 55)).alloc (.cells #[.int .i64 a, .int .i64 c] 73)).alloc (.cells #[.int .i64 x, .int .i64 y] 73)), z.w1.cell? ⟨w.heap.size, 2, none⟩ = some (.int .i64 p) := fun z => z.cell (by simp; try omega) (by simp [go_sem])
  have k3 : ∀ z : Aft (((w.alloc (.cells #[.int .i64 k, .int .i64 b, .int .i64 p, .int .i64 pw] 55)).alloc (.cells #[.int .i64 a, .int .i64 c] 73)).alloc (.cells #[.int .i64 x, .int .i64 y] 73)), z.w1.cell? ⟨w.heap.size, 3, none⟩ = some (.int .i64 pw) := fun z => z.cell (by simp; try omega) (by simp [go_sem])
  have k4 : ∀ z : Aft (((w.alloc (.cells #[.int .i64 k, .int .i64 b, .int .i64 p, .int .i64 pw] 55)).alloc (.cells #[.int .i64 a, .int .i64 c] 73)).alloc (.cells #[.int .i64 x, .int .i64 y] 73)), z.w1.cell? ⟨w.heap.size + 1, 0, none⟩ = some (.int .i64 a) := fun z => z.cell (by simp; try omega) (by simp [go_sem])
  have k5 : ∀ z : Aft (((w.alloc (.cells #[.int .i64 k, .int .i64 b, .int .i64 p, .int .i64 pw] 55)).alloc (.cells #[.int .i64 a, .int .i64 c] 73)).alloc (.cells #[.int .i64 x, .int .i64 y] 73)), z.w1.cell? ⟨w.heap.size + 1, 1, none⟩ = some (.int .i64 c) := fun z => z.cell (by simp; try omega) (by simp [go_sem])
  have k6 : ∀ z : Aft (((w.alloc (.cells #[.int .i64 k, .int .i64 b, .int .i64 p, .int .i64 pw] 55)).alloc (.cells #[.int .i64 a, .int .i64 c] 73)).alloc (.cells #[.int .i64 x, .int .i64 y] 73)), z.w1.cell? ⟨w.heap.size + 1 + 1, 0, none⟩ = some (.int .i64 x) := fun z => z.cell (by simp; try omega) (by simp [go_sem])
  have k7 : ∀ z : Aft (((w.alloc (.cells #[.int .i64 k, .int .i64 b, .int .i64 p, .int .i64 pw] 55)).alloc (.cells #[.int .i64 a, .int .i64 c] 73)).alloc (.cells #[.int .i64 x, .int .i64 y] 73)), z.w1.cell? ⟨w.heap.size + 1 + 1, 1, none⟩ = some (.int .i64 y) := fun z => z.cell (by simp; try omega) (by simp [go_sem])
  have HA := Lib.hid (fun W => distance_c a c x y h2 h3 W)
  have HV : -3 ≤ v ∧ v ≤ 3 := by simpa [inR] using h4
  have HW : 60 ≤ pw ∧ pw ≤ 140 := by
    have := h1
    simp only [okFog, Bool.and_eq_true] at this
    simpa [inR] using this.2
  have HR := Lib.hid (fun W => soundRange_c pw v HW.1 HW.2 HV.1 HV.2 W)
  generalize rootI (sqd a c x y) = r at *
  generalize sndZ pw v = s at *
  go_enter Try.func50, Try.ntmps50
  go_wp2_with (first
    | (go_at_call 78; refine (Aft.first (validFog_c k b p pw _)).mono ?_; rintro e _ ⟨rfl, z, rfl⟩)
    | (go_at_call 93; refine (arePoints_c _ _ a c x y true (by rw [h2, h3]; rfl) _ (by simp [go_sem]) (by simp [go_sem]) (by simp [go_sem]) (by simp [go_sem])).mono ?_; rintro e w3 ⟨rfl, hb3⟩; obtain ⟨z3, rfl⟩ : ∃ z3 : Aft _, w3 = z3.w1 := ⟨⟨w3, held_next z.below (below_box hb3)⟩, rfl⟩)
    | (go_at_call 94; refine (Aft.same (isWind_c _ _)).mono ?_; rintro e _ ⟨rfl, z, rfl⟩))
  refine wp_region_aftx _ (by kernel_rfl) (by kernel_rfl) ?_
  repeat (go_big_quiet_step (first
    | (go_at_call 95; exact Aft.call (HA.out _))
    | (go_at_call 96; exact Aft.call (HR.out _))))
  refine wpQuiet_nil ?_
  intro z1
  go_wp2
  go_ret2
  exact ⟨rfl, below_box (below_box (below_box (Aft.below _)))⟩
end Go.Proofs.Ytfmljppofkocmaa
