/- Fog signals: contracts of the small functions of the program and of the reference. -/
import Derived.Test.YtimfpnmcdicldaaDoorBase
import Derived.Deep.RegionHeld3
import Derived.Deep.DrawnRows
import Derived.Deep.QuietTactic
import Derived.BigQuiet
namespace Go.Proofs.YtimfpnmcdicldaaDoor
open Go.RowKit
set_option linter.unusedVariables false
attribute [local go_sem ↓] Go.wp_at_zero Go.wp_at_succ

theorem inR_left {n lo hi : Int} (h : lo ≤ n) : inR n lo hi = decide (n ≤ hi) := by simp [inR, h]

set_option maxHeartbeats 400000 in
theorem within_c (n lo hi : Int) (w : World) :
    Calls Tryd.prog 70 #[.int .i64 n, .int .i64 lo, .int .i64 hi] w fun e w' => e = .returned (.bool (inR n lo hi)) ∧ w = w' := by
  go_enter Tryd.func70, Tryd.ntmps70
  go_wp2
  all_goals
    go_ret
    first
      | exact ⟨ret_bool (inR_no (by omega)).symm, rfl⟩
      | exact ⟨ret_bool (inR_left (by assumption)).symm, rfl⟩
set_option maxHeartbeats 400000 in
theorem l00In_c (n lo hi : Int) (w : World) :
    Calls Tryd.prog 65 #[.int .i64 n, .int .i64 lo, .int .i64 hi] w fun e w' => e = .returned (.bool (inR n lo hi)) ∧ w = w' := by
  go_enter Tryd.func65, Tryd.ntmps65
  go_wp2
  all_goals
    go_ret
    first
      | exact ⟨ret_bool (inR_no (by omega)).symm, rfl⟩
      | exact ⟨ret_bool (inR_left (by assumption)).symm, rfl⟩

theorem within_v {n lo hi : Int} {v : Bool} (h : inR n lo hi = v) (w : World) :
    Calls Tryd.prog 70 #[.int .i64 n, .int .i64 lo, .int .i64 hi] w fun e w' => e = .returned (.bool v) ∧ w = w' := by
  rw [← h]; exact within_c n lo hi w
theorem l00In_v {n lo hi : Int} {v : Bool} (h : inR n lo hi = v) (w : World) :
    Calls Tryd.prog 65 #[.int .i64 n, .int .i64 lo, .int .i64 hi] w fun e w' => e = .returned (.bool v) ∧ w = w' := by
  rw [← h]; exact l00In_c n lo hi w
/-- The length of the blasts of a kind. -/
def blastZ (k : Int) : Int := if k = 1 then 20 else if k = 2 then 40 else if k = 3 then 5 else if k = 4 then 30 else 0
theorem blastZ_bd (k : Int) : 0 ≤ blastZ k ∧ blastZ k ≤ 40 := by unfold blastZ; omega
theorem blastZ_pos {k : Int} (h : 1 ≤ k ∧ k ≤ 4) : 5 ≤ blastZ k := by unfold blastZ; omega
theorem four_cases {k : Int} (h : 1 ≤ k ∧ k ≤ 4) : k = 1 ∨ k = 2 ∨ k = 3 ∨ k = 4 := by omega
theorem least_bd {k b : Int} (hk : 1 ≤ k ∧ k ≤ 4) (hb : 1 ≤ b ∧ b ≤ 6) : 0 ≤ 2 * b * blastZ k ∧ 2 * b * blastZ k ≤ 480 := by
  rcases four_cases hk with rfl | rfl | rfl | rfl <;> simp [blastZ] <;> omega

set_option maxHeartbeats 1000000 in
theorem l10Length_c (k : Int) (hk : 1 ≤ k ∧ k ≤ 4) (w : World) :
    Calls Tryd.prog 86 #[.int .i64 k] w fun e w' => e = .returned (.int .i64 (blastZ k)) ∧ Below w.heap.size w w' := by
  rcases four_cases hk with rfl | rfl | rfl | rfl
  all_goals
    clear hk
    go_enter Tryd.func86, Tryd.ntmps86
    go_wp2
    go_ret
    exact ⟨rfl, (by repeat (first | exact Below.refl _ _ | refine Below.alloc ?_ (by simp; try omega) _ | refine Below.drew ?_))⟩
set_option maxHeartbeats 1000000 in
theorem blast_c (k : Int) (w : World) :
    Calls Tryd.prog 93 #[.int .i64 k] w fun e w' => e = .returned (.int .i64 (blastZ k)) ∧ w = w' := by
  by_cases hk : 1 ≤ k ∧ k ≤ 4
  · have i0 : ∀ w : World, (Instr.index 127 (.agg #[.int .i64 20, .int .i64 40, .int .i64 5, .int .i64 30]) (.int .i64 0)).run Tryd.prog w = .ok (.int .i64 20) w := fun _ => by kernel_rfl
    have i1 : ∀ w : World, (Instr.index 127 (.agg #[.int .i64 20, .int .i64 40, .int .i64 5, .int .i64 30]) (.int .i64 1)).run Tryd.prog w = .ok (.int .i64 40) w := fun _ => by kernel_rfl
    have i2 : ∀ w : World, (Instr.index 127 (.agg #[.int .i64 20, .int .i64 40, .int .i64 5, .int .i64 30]) (.int .i64 2)).run Tryd.prog w = .ok (.int .i64 5) w := fun _ => by kernel_rfl
    have i3 : ∀ w : World, (Instr.index 127 (.agg #[.int .i64 20, .int .i64 40, .int .i64 5, .int .i64 30]) (.int .i64 3)).run Tryd.prog w = .ok (.int .i64 30) w := fun _ => by kernel_rfl
    rcases four_cases hk with rfl | rfl | rfl | rfl
    all_goals
      clear hk
      go_enter Tryd.func93, Tryd.ntmps93
      go_wp2
      go_ret
      exact ⟨rfl, rfl⟩
  · have e0 : inR k 1 4 = false := inR_no hk
    have hz : blastZ k = 0 := by unfold blastZ; omega
    have Hz := Lib.hid hz
    clear hk hz
    go_enter Tryd.func93, Tryd.ntmps93
    go_wp2_with (go_at_call 70; refine (within_c _ _ _ _).mono ?_; rintro e w' ⟨rfl, rfl⟩)
    go_ret
    exact ⟨ret_int Hz.out.symm, rfl⟩
def shapeFog (k b : Int) : Bool := inR k 1 4 && inR b 1 6
theorem shapeFog_yes {k b : Int} (h : shapeFog k b = true) : (1 ≤ k ∧ k ≤ 4) ∧ (1 ≤ b ∧ b ≤ 6) := by
  simpa [shapeFog, inR] using h
/-- A valid fog signal. -/
def okFog (k b p pw : Int) : Bool := shapeFog k b && inR p (2 * b * blastZ k) 1200 && inR pw 60 140
set_option maxHeartbeats 1000000 in
theorem l10Kind_c (k : Int) (w : World) :
    Calls Tryd.prog 92 #[.int .i64 k] w fun e w' => e = .returned (.bool (inR k 1 4)) ∧ w = w' := by
  go_enter Tryd.func92, Tryd.ntmps92
  go_wp2_with (go_at_call 65; refine (l00In_c _ _ _ _).mono ?_; rintro e w' ⟨rfl, rfl⟩)
  go_ret
  exact ⟨rfl, rfl⟩
set_option maxHeartbeats 1000000 in
theorem l10Shape_c (g : Nat) (k b : Int) (v : Bool) (hv : shapeFog k b = v) (w : World) (c0 : w.cell? ⟨g, 0, none⟩ = some (.int .i64 k)) (c1 : w.cell? ⟨g, 1, none⟩ = some (.int .i64 b)) :
    Calls Tryd.prog 73 #[.pointer (some ⟨g, 0, none⟩)] w fun e w' => e = .returned (.bool v) ∧ w = w' := by
  subst hv
  cases h : inR k 1 4
  all_goals
    go_enter Tryd.func73, Tryd.ntmps73
    go_wp2_with (first
      | (go_at_call 92; refine (l10Kind_c _ _).mono ?_; rintro e w' ⟨rfl, rfl⟩)
      | (go_at_call 65; refine (l00In_c _ _ _ _).mono ?_; rintro e w' ⟨rfl, rfl⟩))
    go_ret
    exact ⟨ret_bool (by simp [shapeFog, h]), rfl⟩
set_option maxHeartbeats 1000000 in
theorem l10Least_c (g : Nat) (k b : Int) (hk : 1 ≤ k ∧ k ≤ 4) (hb : 1 ≤ b ∧ b ≤ 6) (w : World) (hg : g < w.heap.size)
    (c0 : w.cell? ⟨g, 0, none⟩ = some (.int .i64 k)) (c1 : w.cell? ⟨g, 1, none⟩ = some (.int .i64 b)) :
    Calls Tryd.prog 57 #[.pointer (some ⟨g, 0, none⟩)] w fun e w' => e = .returned (.int .i64 (2 * b * blastZ k)) ∧ Below w.heap.size w w' := by
  have hl := least_bd hk hb
  have h1 : IntKind.i64.wrap (2 * b) = 2 * b := IntWalk.i64_in _ (by omega)
  have h2 : IntKind.i64.wrap (2 * b * blastZ k) = 2 * b * blastZ k := IntWalk.i64_in _ (by omega)
  have k0 : ∀ x : Aft w, x.w1.cell? ⟨g, 0, none⟩ = some (.int .i64 k) := fun x => x.cell hg c0
  have k1 : ∀ x : Aft w, x.w1.cell? ⟨g, 1, none⟩ = some (.int .i64 b) := fun x => x.cell hg c1
  go_enter Tryd.func57, Tryd.ntmps57
  go_wp2
  refine wp_region_aft (by kernel_rfl) (by kernel_rfl) ?_
  repeat (go_big_quiet_step ((go_at_call 86; exact Aft.call (l10Length_c _ hk _))))
  refine wpQuiet_nil ?_
  intro w1 hb1
  go_wp2
  go_ret
  exact ⟨rfl, hb1⟩
set_option maxHeartbeats 1000000 in
theorem l10Ok_c (g : Nat) (k b p pw : Int) (w : World) (hg : g < w.heap.size)
    (c0 : w.cell? ⟨g, 0, none⟩ = some (.int .i64 k)) (c1 : w.cell? ⟨g, 1, none⟩ = some (.int .i64 b)) (c2 : w.cell? ⟨g, 2, none⟩ = some (.int .i64 p)) (c3 : w.cell? ⟨g, 3, none⟩ = some (.int .i64 pw)) :
    Calls Tryd.prog 36 #[.pointer (some ⟨g, 0, none⟩)] w fun e w' => e = .returned (.bool (okFog k b p pw)) ∧ Below w.heap.size w w' := by
  have k0 : ∀ x : Aft w, x.w1.cell? ⟨g, 0, none⟩ = some (.int .i64 k) := fun x => x.cell hg c0
  have k1 : ∀ x : Aft w, x.w1.cell? ⟨g, 1, none⟩ = some (.int .i64 b) := fun x => x.cell hg c1
  have k2 : ∀ x : Aft w, x.w1.cell? ⟨g, 2, none⟩ = some (.int .i64 p) := fun x => x.cell hg c2
  have k3 : ∀ x : Aft w, x.w1.cell? ⟨g, 3, none⟩ = some (.int .i64 pw) := fun x => x.cell hg c3
  cases h : shapeFog k b
  · go_enter Tryd.func36, Tryd.ntmps36
    go_wp2
    refine wp_region_aft (by kernel_rfl) (by kernel_rfl) ?_
    repeat (go_big_quiet_step (first | (go_at_call 73; exact Aft.same (l10Shape_c g k b _ h _ (k0 _) (k1 _)))))
    refine wpQuiet_nil ?_
    intro w1 hb1
    go_wp2
    go_ret
    exact ⟨ret_bool (by simp [okFog, h]), hb1⟩
  · obtain ⟨hk, hb⟩ := shapeFog_yes h
    cases h2 : inR p (2 * b * blastZ k) 1200
    all_goals
      go_enter Tryd.func36, Tryd.ntmps36
      go_wp2
      refine wp_region_aft (by kernel_rfl) (by kernel_rfl) ?_
      repeat (go_big_quiet_step (first
        | (go_at_call 73; exact Aft.same (l10Shape_c g k b _ h _ (k0 _) (k1 _)))
        | (go_at_call 57; exact Aft.call (l10Least_c g k b hk hb _ (Aft.lt _ hg) (k0 _) (k1 _)))
        | (go_at_call 65; first | with_reducible exact Aft.same (l00In_v h2 _) | exact Aft.same (l00In_c _ _ _ _))))
      refine wpQuiet_nil ?_
      intro w1 hb1
      go_wp2
      go_ret
      exact ⟨ret_bool (by simp [okFog, h, h2]), hb1⟩
set_option maxHeartbeats 400000 in
theorem isPower_c (n : Int) (w : World) :
    Calls Tryd.prog 76 #[.int .i64 n] w fun e w' => e = .returned (.bool (inR n 60 140)) ∧ w = w' := by
  go_enter Tryd.func76, Tryd.ntmps76
  go_wp2_with (go_at_call 70; refine (within_c _ _ _ _).mono ?_; rintro e w' ⟨rfl, rfl⟩)
  go_ret
  exact ⟨rfl, rfl⟩
theorem blastZ_gt (k : Int) : decide (0 < blastZ k) = inR k 1 4 := by
  rw [Bool.eq_iff_iff, inR_iff]; simp only [decide_eq_true_eq]; unfold blastZ; omega
set_option maxHeartbeats 1000000 in
theorem isBlown_c (k b p pw : Int) (v : Bool) (hv : shapeFog k b = v) (w : World) :
    Calls Tryd.prog 74 #[.agg #[.int .i64 k, .int .i64 b, .int .i64 p, .int .i64 pw]] w fun e w' => e = .returned (.bool v) ∧ Below w.heap.size w w' := by
  subst hv
  have hz := blastZ_gt k
  cases h : inR k 1 4
  all_goals
    rw [h] at hz
    go_enter Tryd.func74, Tryd.ntmps74
    go_wp2_with (first
      | (go_at_call 93; refine (blast_c _ _).mono ?_; rintro e w' ⟨rfl, rfl⟩)
      | (go_at_call 70; refine (within_c _ _ _ _).mono ?_; rintro e w' ⟨rfl, rfl⟩))
    go_ret
    exact ⟨ret_bool (by simp [shapeFog, h]), (by repeat (first | exact Below.refl _ _ | refine Below.alloc ?_ (by simp; try omega) _ | refine Below.drew ?_))⟩
set_option maxHeartbeats 1000000 in
theorem leastPeriod_c (k b p pw : Int) (hk : 1 ≤ k ∧ k ≤ 4) (hb : 1 ≤ b ∧ b ≤ 6) (w : World) :
    Calls Tryd.prog 75 #[.agg #[.int .i64 k, .int .i64 b, .int .i64 p, .int .i64 pw]] w fun e w' => e = .returned (.int .i64 (2 * b * blastZ k)) ∧ Below w.heap.size w w' := by
  have hl := least_bd hk hb
  have h1 : IntKind.i64.wrap (2 * b) = 2 * b := IntWalk.i64_in _ (by omega)
  have h2 : IntKind.i64.wrap (2 * b * blastZ k) = 2 * b * blastZ k := IntWalk.i64_in _ (by omega)
  have k0 : ∀ x : Aft (w.alloc (.cells #[.int .i64 k, .int .i64 b, .int .i64 p, .int .i64 pw] 36)), x.w1.cell? ⟨w.heap.size, 0, none⟩ = some (.int .i64 k) := fun x => x.new rfl
  have k1 : ∀ x : Aft (w.alloc (.cells #[.int .i64 k, .int .i64 b, .int .i64 p, .int .i64 pw] 36)), x.w1.cell? ⟨w.heap.size, 1, none⟩ = some (.int .i64 b) := fun x => x.new rfl
  go_enter Tryd.func75, Tryd.ntmps75
  go_wp2
  refine wp_region_aft (by kernel_rfl) (by kernel_rfl) ?_
  repeat (go_big_quiet_step ((go_at_call 93; exact Aft.same (blast_c _ _))))
  refine wpQuiet_nil ?_
  intro w1 hb1
  go_wp2
  go_ret
  exact ⟨rfl, below_box hb1⟩
set_option maxHeartbeats 1000000 in
theorem validFog_c (k b p pw : Int) (w : World) :
    Calls Tryd.prog 38 #[.agg #[.int .i64 k, .int .i64 b, .int .i64 p, .int .i64 pw]] w fun e w' => e = .returned (.bool (okFog k b p pw)) ∧ Below w.heap.size w w' := by
  have k0 : ∀ x : Aft (w.alloc (.cells #[.int .i64 k, .int .i64 b, .int .i64 p, .int .i64 pw] 36)), x.w1.cell? ⟨w.heap.size, 0, none⟩ = some (.int .i64 k) := fun x => x.new rfl
  have k1 : ∀ x : Aft (w.alloc (.cells #[.int .i64 k, .int .i64 b, .int .i64 p, .int .i64 pw] 36)), x.w1.cell? ⟨w.heap.size, 1, none⟩ = some (.int .i64 b) := fun x => x.new rfl
  have k2 : ∀ x : Aft (w.alloc (.cells #[.int .i64 k, .int .i64 b, .int .i64 p, .int .i64 pw] 36)), x.w1.cell? ⟨w.heap.size, 2, none⟩ = some (.int .i64 p) := fun x => x.new rfl
  have k3 : ∀ x : Aft (w.alloc (.cells #[.int .i64 k, .int .i64 b, .int .i64 p, .int .i64 pw] 36)), x.w1.cell? ⟨w.heap.size, 3, none⟩ = some (.int .i64 pw) := fun x => x.new rfl
  cases h : shapeFog k b
  · go_enter Tryd.func38, Tryd.ntmps38
    go_wp2
    refine wp_region_aft (by kernel_rfl) (by kernel_rfl) ?_
    repeat (go_big_quiet_step ((go_at_call 74; exact Aft.call (isBlown_c k b p pw _ h _))))
    refine wpQuiet_nil ?_
    intro w1 hb1
    go_wp2
    go_ret
    exact ⟨ret_bool (by simp [okFog, h]), below_box hb1⟩
  · obtain ⟨hk, hb⟩ := shapeFog_yes h
    cases h2 : inR p (2 * b * blastZ k) 1200
    all_goals
      go_enter Tryd.func38, Tryd.ntmps38
      go_wp2
      refine wp_region_aft (by kernel_rfl) (by kernel_rfl) ?_
      repeat (go_big_quiet_step (first
        | (go_at_call 74; exact Aft.call (isBlown_c k b p pw _ h _))
        | (go_at_call 75; exact Aft.call (leastPeriod_c k b p pw hk hb _))
        | (go_at_call 76; exact Aft.same (isPower_c _ _))
        | (go_at_call 70; exact Aft.same (within_v h2 _))))
      refine wpQuiet_nil ?_
      intro w1 hb1
      go_wp2
      go_ret
      exact ⟨ret_bool (by simp [okFog, h, h2]), below_box hb1⟩
end Go.Proofs.YtimfpnmcdicldaaDoor
