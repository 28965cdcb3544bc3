/- How far a loudness is heard: contracts of the program's and of the reference's functions. -/
import Derived.Test.YtfmljppofkocmaaDiv
import Derived.Test.YtfmljppofkocmaaEye
namespace Go.Proofs.Ytfmljppofkocmaa
open Go.RowKit
set_option linter.unusedVariables false
/-- A number on a line through two points. -/
def lnZ (x0 y0 x1 y1 x : Int) : Int := y0 + dvR ((y1 - y0) * (x - x0)) (x1 - x0)
theorem lnZ_left {x0 y0 x1 y1 : Int} (h : x0 < x1) : lnZ x0 y0 x1 y1 x0 = y0 := by
  unfold lnZ
  rw [Int.sub_self, Int.mul_zero, dvR_pos (by omega) (Int.le_refl _)]
  simp; omega
theorem lnZ_right {x0 y0 x1 y1 : Int} (h : x0 < x1) (hy : y0 ≤ y1) : lnZ x0 y0 x1 y1 x1 = y1 := by
  unfold lnZ
  rw [dvR_pos (by omega) (Int.mul_nonneg (by omega) (by omega)), Int.mul_ediv_cancel _ (by omega), Int.mul_emod_left]
  simp; omega
/-- The distances in still air. -/
def sndB (p : Int) : Int := if p < 80 then lnZ 60 50 80 200 p else if p < 100 then lnZ 80 200 100 1000 p else if p < 120 then lnZ 100 1000 120 4000 p else lnZ 120 4000 140 8000 p
/-- The distances with a wind. -/
def sndZ (p v : Int) : Int := sndB p * (4 + v) / 4
theorem power_cases {p : Int} (h0 : 60 ≤ p) (h1 : p ≤ 140) : (60 ≤ p ∧ p < 80) ∨ (80 ≤ p ∧ p < 100) ∨ (100 ≤ p ∧ p < 120) ∨ (120 ≤ p ∧ p ≤ 140) := by omega
theorem lnZ_bd {x0 y0 x1 y1 x : Int} (h : x0 < x1) (hx : x0 ≤ x) (hy : y0 ≤ y1) : y0 ≤ lnZ x0 y0 x1 y1 x ∧ lnZ x0 y0 x1 y1 x ≤ y0 + (y1 - y0) * (x - x0) + 1 := by
  have := (dvR_bd (a := (y1 - y0) * (x - x0)) (b := x1 - x0) (by omega)).1 (Int.mul_nonneg (by omega) (by omega))
  unfold lnZ
  omega
theorem sndB_bd {p : Int} (h0 : 60 ≤ p) (h1 : p ≤ 140) : 0 ≤ sndB p ∧ sndB p ≤ 84001 := by
  unfold sndB
  split
  · have := lnZ_bd (x0 := 60) (y0 := 50) (x1 := 80) (y1 := 200) (x := p) (by omega) (by omega) (by omega)
    omega
  split
  · have := lnZ_bd (x0 := 80) (y0 := 200) (x1 := 100) (y1 := 1000) (x := p) (by omega) (by omega) (by omega)
    omega
  split
  · have := lnZ_bd (x0 := 100) (y0 := 1000) (x1 := 120) (y1 := 4000) (x := p) (by omega) (by omega) (by omega)
    omega
  · have := lnZ_bd (x0 := 120) (y0 := 4000) (x1 := 140) (y1 := 8000) (x := p) (by omega) (by omega) (by omega)
    omega
theorem snd_prod {p v : Int} (h0 : 60 ≤ p) (h1 : p ≤ 140) (v0 : -3 ≤ v) (v1 : v ≤ 3) : 0 ≤ sndB p * (4 + v) ∧ sndB p * (4 + v) ≤ 588007 := by
  obtain ⟨a, b⟩ := sndB_bd h0 h1
  refine ⟨Int.mul_nonneg a (by omega), ?_⟩
  have : sndB p * (4 + v) ≤ 84001 * 7 := Int.mul_le_mul b (by omega) (by omega) (by omega)
  omega
theorem sndB_step : ∀ k : Fin 80, sndB (60 + (k.val : Int)) ≤ sndB (60 + (k.val : Int) + 1) := by decide +kernel
theorem sndB_mono {a : Int} (h0 : 60 ≤ a) : ∀ (n : Nat), a + n ≤ 140 → sndB a ≤ sndB (a + n)
  | 0, _ => by simp
  | n + 1, h => by
    have h1 := sndB_mono h0 n (by omega)
    have h2 := sndB_step ⟨(a + n - 60).toNat, by omega⟩
    simp only [Int.toNat_of_nonneg (show 0 ≤ a + n - 60 by omega)] at h2
    rw [show 60 + (a + (n : Int) - 60) = a + n by omega] at h2
    rw [show a + ((n + 1 : Nat) : Int) = a + n + 1 by omega]
    omega
theorem sndZ_mono {a b v : Int} (h0 : 60 ≤ a) (h : a ≤ b) (h1 : b ≤ 140) (v0 : -3 ≤ v) : sndZ a v ≤ sndZ b v := by
  have h2 := sndB_mono h0 (b - a).toNat (by omega)
  rw [show a + ((b - a).toNat : Int) = b by omega] at h2
  exact Int.ediv_le_ediv (by omega) (Int.mul_le_mul_of_nonneg_right h2 (by omega))
def accS (d v p : Int) : Bool := decide (d ≤ sndZ p v)
theorem accS_mono {d v : Int} (v0 : -3 ≤ v) : Mono (accS d v) 60 140 := by
  intro a b ha hab hb h
  have := sndZ_mono (v := v) ha hab hb v0
  simp only [accS, decide_eq_true_eq] at *
  omega
set_option maxHeartbeats 2000000 in
theorem blend_c (x0 y0 x1 y1 x : Int) (h : x0 < x1) (hx0 : 0 ≤ x0) (hx1 : x1 ≤ 1000000) (hy0 : 0 ≤ y0) (hy : y0 ≤ y1) (hy1 : y1 ≤ 1000000) (h0 : x0 ≤ x) (h1 : x ≤ x1) (r : Int) (hr : lnZ x0 y0 x1 y1 x = r) (w : World) :
    Calls Try.prog 125 #[.int .i64 x0, .int .i64 y0, .int .i64 x1, .int .i64 y1, .int .i64 x] w fun e w' => e = .returned (.int .i64 r) ∧ w = w' := by
  subst hr
  by_cases ha : x = x0
  · subst ha
    rw [lnZ_left h]
    go_enter Try.func125, Try.ntmps125
    go_wp2
    go_ret
    exact ⟨rfl, rfl⟩
  · by_cases hb : x = x1
    · subst hb
      rw [lnZ_right h hy]
      go_enter Try.func125, Try.ntmps125
      go_wp2
      go_ret
      exact ⟨rfl, rfl⟩
    · have hp : (y1 - y0) * (x - x0) ≤ 1000000 * 1000000 := Int.mul_le_mul (by omega) (by omega) (by omega) (by omega)
      have hp0 : 0 ≤ (y1 - y0) * (x - x0) := Int.mul_nonneg (by omega) (by omega)
      have hd := (dvR_bd (a := (y1 - y0) * (x - x0)) (b := x1 - x0) (by omega)).1 hp0
      obtain ⟨d0, d1⟩ := hd
      have g1 : x0 < x := by omega
      have g2 : x < x1 := by omega
      clear ha hb
      go_enter Try.func125, Try.ntmps125
      go_wp2_with (go_at_call 131; refine (divRound_c _ _ (by omega) (by omega) (by omega) (by omega) _).mono ?_; rintro e w' ⟨rfl, rfl⟩)
      go_ret
      exact ⟨rfl, rfl⟩
set_option maxHeartbeats 2000000 in
theorem l01Line_c (x0 y0 x1 y1 x : Int) (h : x0 < x1) (hx0 : 0 ≤ x0) (hx1 : x1 ≤ 1000000) (hy0 : 0 ≤ y0) (hy : y0 ≤ y1) (hy1 : y1 ≤ 1000000) (h0 : x0 ≤ x) (h1 : x ≤ x1) (w : World) :
    Calls Try.prog 130 #[.int .i64 x0, .int .i64 y0, .int .i64 x1, .int .i64 y1, .int .i64 x] w fun e w' => e = .returned (.int .i64 (lnZ x0 y0 x1 y1 x)) ∧ w = w' := by
  by_cases ha : x = x0
  · subst ha
    rw [lnZ_left h]
    go_enter Try.func130, Try.ntmps130
    go_wp2
    go_ret
    exact ⟨rfl, rfl⟩
  · by_cases hb : x = x1
    · subst hb
      rw [lnZ_right h hy]
      go_enter Try.func130, Try.ntmps130
      go_wp2
      go_ret
      exact ⟨rfl, rfl⟩
    · have hp : (y1 - y0) * (x - x0) ≤ 1000000 * 1000000 := Int.mul_le_mul (by omega) (by omega) (by omega) (by omega)
      have hp0 : 0 ≤ (y1 - y0) * (x - x0) := Int.mul_nonneg (by omega) (by omega)
      have hd := (dvR_bd (a := (y1 - y0) * (x - x0)) (b := x1 - x0) (by omega)).1 hp0
      obtain ⟨d0, d1⟩ := hd
      have g1 : x0 < x := by omega
      have g2 : x < x1 := by omega
      clear ha hb
      go_enter Try.func130, Try.ntmps130
      go_wp2_with (go_at_call 133; refine (l01Div_c _ _ (by omega) (by omega) (by omega) (by omega) _).mono ?_; rintro e w' ⟨rfl, rfl⟩)
      go_ret
      exact ⟨rfl, rfl⟩
set_option maxHeartbeats 2000000 in
theorem specBlend_c (x0 y0 x1 y1 x : Int) (h : x0 < x1) (hx0 : 0 ≤ x0) (hx1 : x1 ≤ 1000000) (hy0 : 0 ≤ y0) (hy : y0 ≤ y1) (hy1 : y1 ≤ 1000000) (h0 : x0 ≤ x) (h1 : x ≤ x1) (r : Int) (hr : lnZ x0 y0 x1 y1 x = r) (w : World) :
    Calls Try.prog 122 #[.int .i64 x0, .int .i64 y0, .int .i64 x1, .int .i64 y1, .int .i64 x] w fun e w' => e = .returned (.int .i64 r) ∧ w = w' := by
  subst hr
  have e1 : inR x0 (-1000000) 1000000 = true := inR_yes (by omega)
  have e2 : inR x1 (-1000000) 1000000 = true := inR_yes (by omega)
  have e3 : inR y0 (-1000000) 1000000 = true := inR_yes (by omega)
  have e4 : inR y1 (-1000000) 1000000 = true := inR_yes (by omega)
  go_enter Try.func122, Try.ntmps122
  go_wp2_with (first
    | (go_at_call 108; refine (l00In_c _ _ _ _).mono ?_; rintro e w' ⟨rfl, rfl⟩)
    | (go_at_call 130; refine (l01Line_c x0 y0 x1 y1 x h hx0 hx1 hy0 hy hy1 h0 h1 _).mono ?_; rintro e w' ⟨rfl, rfl⟩))
  go_ret
  exact ⟨rfl, rfl⟩
set_option maxHeartbeats 4000000 in
theorem soundRange_c (p v : Int) (h0 : 60 ≤ p) (h1 : p ≤ 140) (v0 : -3 ≤ v) (v1 : v ≤ 3) (w : World) :
    Calls Try.prog 96 #[.int .i64 p, .int .i64 v] w fun e w' => e = .returned (.int .i64 (sndZ p v)) ∧ Below w.heap.size w w' := by
  obtain ⟨s0, s1⟩ := snd_prod h0 h1 v0 v1
  have q1 : IntKind.i64.wrap (4 + v) = 4 + v := IntWalk.i64_in _ (by omega)
  have q2 : IntKind.i64.wrap (sndB p * (4 + v)) = sndB p * (4 + v) := IntWalk.i64_in _ (by omega)
  have q3 : IntKind.i64.wrap ((sndB p * (4 + v)).tdiv 4) = sndB p * (4 + v) / 4 := IntWalk.i64_quo _ _ ⟨s0, by omega, by omega⟩
  have k0 : ∀ x : Aft (w.alloc (.cells #[.int .i64 50, .int .i64 200, .int .i64 1000, .int .i64 4000, .int .i64 8000] 128)), x.w1.cell? ⟨w.heap.size, 0, none⟩ = some (.int .i64 50) := fun x => x.new rfl
  have k1 : ∀ x : Aft (w.alloc (.cells #[.int .i64 50, .int .i64 200, .int .i64 1000, .int .i64 4000, .int .i64 8000] 128)), x.w1.cell? ⟨w.heap.size, 1, none⟩ = some (.int .i64 200) := fun x => x.new rfl
  have k2 : ∀ x : Aft (w.alloc (.cells #[.int .i64 50, .int .i64 200, .int .i64 1000, .int .i64 4000, .int .i64 8000] 128)), x.w1.cell? ⟨w.heap.size, 2, none⟩ = some (.int .i64 1000) := fun x => x.new rfl
  have k3 : ∀ x : Aft (w.alloc (.cells #[.int .i64 50, .int .i64 200, .int .i64 1000, .int .i64 4000, .int .i64 8000] 128)), x.w1.cell? ⟨w.heap.size, 3, none⟩ = some (.int .i64 4000) := fun x => x.new rfl
  have k4 : ∀ x : Aft (w.alloc (.cells #[.int .i64 50, .int .i64 200, .int .i64 1000, .int .i64 4000, .int .i64 8000] 128)), x.w1.cell? ⟨w.heap.size, 4, none⟩ = some (.int .i64 8000) := fun x => x.new rfl
  have hc : (60 ≤ p ∧ p < 80) ∨ (80 ≤ p ∧ p < 100) ∨ (100 ≤ p ∧ p < 120) ∨ (120 ≤ p ∧ p < 140) ∨ (140 ≤ p ∧ p ≤ 140) := by omega
  rcases hc with ⟨a0, a1⟩ | ⟨a0, a1⟩ | ⟨a0, a1⟩ | ⟨a0, a1⟩ | ⟨a0, a1⟩
  · have hk : (p - 60) / 20 = 0 := by omega
    have HS := Lib.hid (show lnZ 60 50 80 200 p = sndB p from by unfold sndB; rw [if_pos (by omega)])
    go_enter Try.func96, Try.ntmps96
    go_wp2
    refine wp_region_aft (by kernel_rfl) (by kernel_rfl) ?_
    repeat (go_big_quiet_step ((go_at_call 125; exact Aft.same (blend_c 60 50 80 200 p (by omega) (by omega) (by omega) (by omega) (by omega) (by omega) (by omega) (by omega) (sndB p) HS.out _))))
    refine wpQuiet_nil ?_
    intro w1 hb1
    go_wp2
    go_ret
    exact ⟨rfl, below_box hb1⟩
  · have hk : (p - 60) / 20 = 1 := by omega
    have HS := Lib.hid (show lnZ 80 200 100 1000 p = sndB p from by unfold sndB; rw [if_neg (by omega), if_pos (by omega)])
    go_enter Try.func96, Try.ntmps96
    go_wp2
    refine wp_region_aft (by kernel_rfl) (by kernel_rfl) ?_
    repeat (go_big_quiet_step ((go_at_call 125; exact Aft.same (blend_c 80 200 100 1000 p (by omega) (by omega) (by omega) (by omega) (by omega) (by omega) (by omega) (by omega) (sndB p) HS.out _))))
    refine wpQuiet_nil ?_
    intro w1 hb1
    go_wp2
    go_ret
    exact ⟨rfl, below_box hb1⟩
  · have hk : (p - 60) / 20 = 2 := by omega
    have HS := Lib.hid (show lnZ 100 1000 120 4000 p = sndB p from by unfold sndB; rw [if_neg (by omega), if_neg (by omega), if_pos (by omega)])
    go_enter Try.func96, Try.ntmps96
    go_wp2
    refine wp_region_aft (by kernel_rfl) (by kernel_rfl) ?_
    repeat (go_big_quiet_step ((go_at_call 125; exact Aft.same (blend_c 100 1000 120 4000 p (by omega) (by omega) (by omega) (by omega) (by omega) (by omega) (by omega) (by omega) (sndB p) HS.out _))))
    refine wpQuiet_nil ?_
    intro w1 hb1
    go_wp2
    go_ret
    exact ⟨rfl, below_box hb1⟩
  · have hk : (p - 60) / 20 = 3 := by omega
    have HS := Lib.hid (show lnZ 120 4000 140 8000 p = sndB p from by unfold sndB; rw [if_neg (by omega), if_neg (by omega), if_neg (by omega)])
    go_enter Try.func96, Try.ntmps96
    go_wp2
    refine wp_region_aft (by kernel_rfl) (by kernel_rfl) ?_
    repeat (go_big_quiet_step ((go_at_call 125; exact Aft.same (blend_c 120 4000 140 8000 p (by omega) (by omega) (by omega) (by omega) (by omega) (by omega) (by omega) (by omega) (sndB p) HS.out _))))
    refine wpQuiet_nil ?_
    intro w1 hb1
    go_wp2
    go_ret
    exact ⟨rfl, below_box hb1⟩
  · have hk : (p - 60) / 20 = 4 := by omega
    have HS := Lib.hid (show lnZ 120 4000 140 8000 p = sndB p from by unfold sndB; rw [if_neg (by omega), if_neg (by omega), if_neg (by omega)])
    go_enter Try.func96, Try.ntmps96
    go_wp2
    refine wp_region_aft (by kernel_rfl) (by kernel_rfl) ?_
    repeat (go_big_quiet_step ((go_at_call 125; exact Aft.same (blend_c 120 4000 140 8000 p (by omega) (by omega) (by omega) (by omega) (by omega) (by omega) (by omega) (by omega) (sndB p) HS.out _))))
    refine wpQuiet_nil ?_
    intro w1 hb1
    go_wp2
    go_ret
    exact ⟨rfl, below_box hb1⟩
set_option maxHeartbeats 4000000 in
theorem l10Range_c (p v : Int) (h0 : 60 ≤ p) (h1 : p ≤ 140) (v0 : -3 ≤ v) (v1 : v ≤ 3) (w : World) :
    Calls Try.prog 92 #[.int .i64 p, .int .i64 v] w fun e w' => e = .returned (.int .i64 (sndZ p v)) ∧ Below w.heap.size w w' := by
  obtain ⟨s0, s1⟩ := snd_prod h0 h1 v0 v1
  have q1 : IntKind.i64.wrap (4 + v) = 4 + v := IntWalk.i64_in _ (by omega)
  have q2 : IntKind.i64.wrap (sndB p * (4 + v)) = sndB p * (4 + v) := IntWalk.i64_in _ (by omega)
  have q3 : IntKind.i64.wrap ((sndB p * (4 + v)).tdiv 4) = sndB p * (4 + v) / 4 := IntWalk.i64_quo _ _ ⟨s0, by omega, by omega⟩
  have k0 : ∀ x : Aft (w.alloc (.cells #[.int .i64 50, .int .i64 200, .int .i64 1000, .int .i64 4000, .int .i64 8000] 2)), x.w1.cell? ⟨w.heap.size, 0, none⟩ = some (.int .i64 50) := fun x => x.new rfl
  have k1 : ∀ x : Aft (w.alloc (.cells #[.int .i64 50, .int .i64 200, .int .i64 1000, .int .i64 4000, .int .i64 8000] 2)), x.w1.cell? ⟨w.heap.size, 1, none⟩ = some (.int .i64 200) := fun x => x.new rfl
  have k2 : ∀ x : Aft (w.alloc (.cells #[.int .i64 50, .int .i64 200, .int .i64 1000, .int .i64 4000, .int .i64 8000] 2)), x.w1.cell? ⟨w.heap.size, 2, none⟩ = some (.int .i64 1000) := fun x => x.new rfl
  have k3 : ∀ x : Aft (w.alloc (.cells #[.int .i64 50, .int .i64 200, .int .i64 1000, .int .i64 4000, .int .i64 8000] 2)), x.w1.cell? ⟨w.heap.size, 3, none⟩ = some (.int .i64 4000) := fun x => x.new rfl
  have k4 : ∀ x : Aft (w.alloc (.cells #[.int .i64 50, .int .i64 200, .int .i64 1000, .int .i64 4000, .int .i64 8000] 2)), x.w1.cell? ⟨w.heap.size, 4, none⟩ = some (.int .i64 8000) := fun x => x.new rfl
  have hc : (60 ≤ p ∧ p < 80) ∨ (80 ≤ p ∧ p < 100) ∨ (100 ≤ p ∧ p < 120) ∨ (120 ≤ p ∧ p < 140) ∨ (140 ≤ p ∧ p ≤ 140) := by omega
  rcases hc with ⟨a0, a1⟩ | ⟨a0, a1⟩ | ⟨a0, a1⟩ | ⟨a0, a1⟩ | ⟨a0, a1⟩
  · have hk : (p - 60) / 20 = 0 := by omega
    have HS := Lib.hid (show lnZ 60 50 80 200 p = sndB p from by unfold sndB; rw [if_pos (by omega)])
    go_enter Try.func92, Try.ntmps92
    go_wp2
    refine wp_region_aft (by kernel_rfl) (by kernel_rfl) ?_
    repeat (go_big_quiet_step ((go_at_call 122; exact Aft.same (specBlend_c 60 50 80 200 p (by omega) (by omega) (by omega) (by omega) (by omega) (by omega) (by omega) (by omega) (sndB p) HS.out _))))
    refine wpQuiet_nil ?_
    intro w1 hb1
    go_wp2
    go_ret
    exact ⟨rfl, below_box hb1⟩
  · have hk : (p - 60) / 20 = 1 := by omega
    have HS := Lib.hid (show lnZ 80 200 100 1000 p = sndB p from by unfold sndB; rw [if_neg (by omega), if_pos (by omega)])
    go_enter Try.func92, Try.ntmps92
    go_wp2
    refine wp_region_aft (by kernel_rfl) (by kernel_rfl) ?_
    repeat (go_big_quiet_step ((go_at_call 122; exact Aft.same (specBlend_c 80 200 100 1000 p (by omega) (by omega) (by omega) (by omega) (by omega) (by omega) (by omega) (by omega) (sndB p) HS.out _))))
    refine wpQuiet_nil ?_
    intro w1 hb1
    go_wp2
    go_ret
    exact ⟨rfl, below_box hb1⟩
  · have hk : (p - 60) / 20 = 2 := by omega
    have HS := Lib.hid (show lnZ 100 1000 120 4000 p = sndB p from by unfold sndB; rw [if_neg (by omega), if_neg (by omega), if_pos (by omega)])
    go_enter Try.func92, Try.ntmps92
    go_wp2
    refine wp_region_aft (by kernel_rfl) (by kernel_rfl) ?_
    repeat (go_big_quiet_step ((go_at_call 122; exact Aft.same (specBlend_c 100 1000 120 4000 p (by omega) (by omega) (by omega) (by omega) (by omega) (by omega) (by omega) (by omega) (sndB p) HS.out _))))
    refine wpQuiet_nil ?_
    intro w1 hb1
    go_wp2
    go_ret
    exact ⟨rfl, below_box hb1⟩
  · have hk : (p - 60) / 20 = 3 := by omega
    have HS := Lib.hid (show lnZ 120 4000 140 8000 p = sndB p from by unfold sndB; rw [if_neg (by omega), if_neg (by omega), if_neg (by omega)])
    go_enter Try.func92, Try.ntmps92
    go_wp2
    refine wp_region_aft (by kernel_rfl) (by kernel_rfl) ?_
    repeat (go_big_quiet_step ((go_at_call 122; exact Aft.same (specBlend_c 120 4000 140 8000 p (by omega) (by omega) (by omega) (by omega) (by omega) (by omega) (by omega) (by omega) (sndB p) HS.out _))))
    refine wpQuiet_nil ?_
    intro w1 hb1
    go_wp2
    go_ret
    exact ⟨rfl, below_box hb1⟩
  · have hk : (p - 60) / 20 = 4 := by omega
    have HS := Lib.hid (show lnZ 120 4000 140 8000 p = sndB p from by unfold sndB; rw [if_neg (by omega), if_neg (by omega), if_neg (by omega)])
    go_enter Try.func92, Try.ntmps92
    go_wp2
    refine wp_region_aft (by kernel_rfl) (by kernel_rfl) ?_
    repeat (go_big_quiet_step ((go_at_call 122; exact Aft.same (specBlend_c 120 4000 140 8000 p (by omega) (by omega) (by omega) (by omega) (by omega) (by omega) (by omega) (by omega) (sndB p) HS.out _))))
    refine wpQuiet_nil ?_
    intro w1 hb1
    go_wp2
    go_ret
    exact ⟨rfl, below_box hb1⟩
end Go.Proofs.Ytfmljppofkocmaa
