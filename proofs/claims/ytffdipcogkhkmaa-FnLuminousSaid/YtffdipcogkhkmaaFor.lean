/- The least intensity, the least visibility: contracts of the program's and of the reference's functions. -/
import Derived.Test.YtffdipcogkhkmaaLum
namespace Go.Proofs.Ytffdipcogkhkmaa
open Go.RowKit
set_option linter.unusedVariables false

set_option maxHeartbeats 1000000 in
theorem IntensityFor1_c (d v n : Int) (a0 : 1 ≤ d) (a1 : d ≤ 100000) (b0 : 1 ≤ v) (b1 : v ≤ 100000) (n0 : 1 ≤ n) (n1 : n ≤ 100000000) (g1 g2 : Nat) (w : World) (hg1 : g1 < w.heap.size) (hg2 : g2 < w.heap.size)
    (c1 : w.cell? ⟨g1, 0, none⟩ = some (.int .i64 d)) (c2 : w.cell? ⟨g2, 0, none⟩ = some (.int .i64 v)) :
    Calls Try.prog 48 #[.int .i64 n, .pointer (some ⟨g1, 0, none⟩), .pointer (some ⟨g2, 0, none⟩)] w fun e w' => e = .returned (.bool (accE n d v)) ∧ Below w.heap.size w w' := by
  have k1 : ∀ x : Aft w, x.w1.cell? ⟨g1, 0, none⟩ = some (.int .i64 d) := fun x => x.cell hg1 c1
  have k2 : ∀ x : Aft w, x.w1.cell? ⟨g2, 0, none⟩ = some (.int .i64 v) := fun x => x.cell hg2 c2
  go_enter Try.func48, Try.ntmps48
  go_wp2_with (go_at_call 49; refine (Aft.first (enough_c n d v n0 n1 a0 a1 b0 b1 _)).mono ?_; rintro e _ ⟨rfl, y, rfl⟩)
  go_ret
  exact ⟨rfl, Aft.below _⟩
theorem IntensityFor1_enter : ∀ args w, (callFunc 48 args).run Try.prog w = .ok (.enter 48 args) w := Go.Proofs.enters_of Try.func48 (by kernel_rfl) rfl
theorem IntensityFor1_accepts (d v : Int) (a0 : 1 ≤ d) (a1 : d ≤ 100000) (b0 : 1 ≤ v) (b1 : v ≤ 100000) (g1 g2 : Nat) (w : World) (hg1 : g1 < w.heap.size) (hg2 : g2 < w.heap.size)
    (c1 : w.cell? ⟨g1, 0, none⟩ = some (.int .i64 d)) (c2 : w.cell? ⟨g2, 0, none⟩ = some (.int .i64 v)) :
    Accepts 48 [.pointer (some ⟨g1, 0, none⟩), .pointer (some ⟨g2, 0, none⟩)] w 1 100000000 (fun i => accE i d v) :=
  fun n x n0 n1 => Aft.call (IntensityFor1_c d v n a0 a1 b0 b1 n0 n1 g1 g2 x.w1 (x.lt hg1) (x.lt hg2) (x.cell hg1 c1) (x.cell hg2 c2))

set_option maxHeartbeats 1000000 in
theorem implIntensityFor_some (d v : Int) (ha : inR d 1 100000 = true) (hb : inR v 1 100000 = true) (r : Int) (hr : Thr (fun i => accE i d v) 100000000 r) (hle : r ≤ 100000000) (w : World) :
    Calls Try.prog 19 #[.int .i64 d, .int .i64 v] w fun e w' => e = .returned (.tuple #[.int .i64 r, .int .i64 0]) ∧ Below w.heap.size w w' := by
  have hmf : ∀ (fn : Fn) (first cap : Array Value) (w : World), (Instr.makeFunc fn first cap).run Try.prog w = .ok (.func fn first cap) w := fun _ _ _ _ => rfl
  obtain ⟨a0, a1⟩ := inR_iff.1 ha
  obtain ⟨b0, b1⟩ := inR_iff.1 hb
  have r0 := hr.1
  have HL := Lib.hid (hr.least hle)
  have HY := Lib.hid (hr.yes (m := 100000000) (by omega) (by omega) hle)
  have HM := Lib.hid hr.mono
  clear hr hle
  go_enter Try.func19, Try.ntmps19
  go_wp2_with (first
    | (go_at_call 46; refine (isRange_c _ _).mono ?_; rintro e w' ⟨rfl, rfl⟩)
    | (go_at_call 42; refine (isVisibility_c _ _).mono ?_; rintro e w' ⟨rfl, rfl⟩))
  refine (leastOf_some 48 [.pointer (some ⟨w.heap.size, 0, none⟩), .pointer (some ⟨w.heap.size + 1, 0, none⟩)] 1 100000000 (fun i => accE i d v) (by omega) (by omega) (by omega) _ IntensityFor1_enter
    (IntensityFor1_accepts d v a0 a1 b0 b1 _ _ _ (by simp; omega) (by simp) (cell_two1 _ _ _ _ _) (cell_two2 _ _ _ _ _)) HY.out HM.out r r0 HL.out ⟨_, Below.refl _ _⟩).mono ?_
  rintro e _ ⟨rfl, y, rfl⟩
  go_wp2
  go_ret2
  exact ⟨rfl, below_box (below_box y.below)⟩

set_option maxHeartbeats 1000000 in
theorem implIntensityFor_none (d v : Int) (ha : inR d 1 100000 = true) (hb : inR v 1 100000 = true) (r : Int) (hr : Thr (fun i => accE i d v) 100000000 r) (hle : 100000000 < r) (w : World) :
    Calls Try.prog 19 #[.int .i64 d, .int .i64 v] w fun e w' => e = .returned (.tuple #[.int .i64 0, .int .i64 3]) ∧ Below w.heap.size w w' := by
  have hmf : ∀ (fn : Fn) (first cap : Array Value) (w : World), (Instr.makeFunc fn first cap).run Try.prog w = .ok (.func fn first cap) w := fun _ _ _ _ => rfl
  obtain ⟨a0, a1⟩ := inR_iff.1 ha
  obtain ⟨b0, b1⟩ := inR_iff.1 hb
  have r0 := hr.1
  have HN := Lib.hid (hr.none (by omega) (by omega))
  clear hr hle
  go_enter Try.func19, Try.ntmps19
  go_wp2_with (first
    | (go_at_call 46; refine (isRange_c _ _).mono ?_; rintro e w' ⟨rfl, rfl⟩)
    | (go_at_call 42; refine (isVisibility_c _ _).mono ?_; rintro e w' ⟨rfl, rfl⟩))
  refine (leastOf_none 48 [.pointer (some ⟨w.heap.size, 0, none⟩), .pointer (some ⟨w.heap.size + 1, 0, none⟩)] 1 100000000 (fun i => accE i d v) (by omega) (by omega) (by omega) _ IntensityFor1_enter
    (IntensityFor1_accepts d v a0 a1 b0 b1 _ _ _ (by simp; omega) (by simp) (cell_two1 _ _ _ _ _) (cell_two2 _ _ _ _ _)) HN.out ⟨_, Below.refl _ _⟩).mono ?_
  rintro e _ ⟨rfl, y, rfl⟩
  go_wp2
  go_ret2
  exact ⟨rfl, below_box (below_box y.below)⟩

set_option maxHeartbeats 1000000 in
theorem implIntensityFor_bad1 (d v : Int) (ha : inR d 1 100000 = false) (w : World) :
    Calls Try.prog 19 #[.int .i64 d, .int .i64 v] w fun e w' => e = .returned (.tuple #[.int .i64 0, .int .i64 2]) ∧ Below w.heap.size w w' := by
  go_enter Try.func19, Try.ntmps19
  go_wp2_with (go_at_call 46; refine (isRange_c _ _).mono ?_; rintro e w' ⟨rfl, rfl⟩)
  go_ret2
  exact ⟨rfl, (by repeat (first | exact Below.refl _ _ | refine Below.alloc ?_ (by simp; try omega) _ | refine Below.drew ?_))⟩
set_option maxHeartbeats 1000000 in
theorem implIntensityFor_bad2 (d v : Int) (ha : inR d 1 100000 = true) (hb : inR v 1 100000 = false) (w : World) :
    Calls Try.prog 19 #[.int .i64 d, .int .i64 v] w fun e w' => e = .returned (.tuple #[.int .i64 0, .int .i64 2]) ∧ Below w.heap.size w w' := by
  go_enter Try.func19, Try.ntmps19
  go_wp2_with (first
    | (go_at_call 46; refine (isRange_c _ _).mono ?_; rintro e w' ⟨rfl, rfl⟩)
    | (go_at_call 42; refine (isVisibility_c _ _).mono ?_; rintro e w' ⟨rfl, rfl⟩))
  go_ret2
  exact ⟨rfl, (by repeat (first | exact Below.refl _ _ | refine Below.alloc ?_ (by simp; try omega) _ | refine Below.drew ?_))⟩
set_option maxHeartbeats 1000000 in
theorem specIntensityFor_bad1 (d v : Int) (ha : inR d 1 100000 = false) (w : World) :
    Calls Try.prog 30 #[.int .i64 d, .int .i64 v] w fun e w' => e = .returned (.tuple #[.int .i64 0, .int .i64 2]) ∧ Below w.heap.size w w' := by
  go_enter Try.func30, Try.ntmps30
  go_wp2_with (go_at_call 57; refine (l09Distance_c _ _).mono ?_; rintro e w' ⟨rfl, rfl⟩)
  go_ret2
  exact ⟨rfl, (by repeat (first | exact Below.refl _ _ | refine Below.alloc ?_ (by simp; try omega) _ | refine Below.drew ?_))⟩
set_option maxHeartbeats 1000000 in
theorem specIntensityFor_bad2 (d v : Int) (ha : inR d 1 100000 = true) (hb : inR v 1 100000 = false) (w : World) :
    Calls Try.prog 30 #[.int .i64 d, .int .i64 v] w fun e w' => e = .returned (.tuple #[.int .i64 0, .int .i64 2]) ∧ Below w.heap.size w w' := by
  go_enter Try.func30, Try.ntmps30
  go_wp2_with (first
    | (go_at_call 57; refine (l09Distance_c _ _).mono ?_; rintro e w' ⟨rfl, rfl⟩)
    | (go_at_call 66; refine (l09Air_c _ _).mono ?_; rintro e w' ⟨rfl, rfl⟩))
  go_ret2
  exact ⟨rfl, (by repeat (first | exact Below.refl _ _ | refine Below.alloc ?_ (by simp; try omega) _ | refine Below.drew ?_))⟩

set_option maxHeartbeats 2000000 in
theorem specIntensityFor_some (d v : Int) (ha : inR d 1 100000 = true) (hb : inR v 1 100000 = true) (r : Int) (hr : Thr (fun i => accE i d v) 100000000 r) (hle : r ≤ 100000000) (w : World) :
    Calls Try.prog 30 #[.int .i64 d, .int .i64 v] w fun e w' => e = .returned (.tuple #[.int .i64 r, .int .i64 0]) ∧ Below w.heap.size w w' := by
  obtain ⟨a0, a1⟩ := inR_iff.1 ha
  obtain ⟨b0, b1⟩ := inR_iff.1 hb
  have r0 := hr.1
  have r1 := hr.2.1
  have HR := Lib.hid hr
  clear hr
  go_enter Try.func30, Try.ntmps30
  go_wp2_with (first
    | (go_at_call 57; refine (l09Distance_c _ _).mono ?_; rintro e w' ⟨rfl, rfl⟩)
    | (go_at_call 66; refine (l09Air_c _ _).mono ?_; rintro e w' ⟨rfl, rfl⟩))
  go_loopw [6, 7] (fun a b wr => ∃ (lo hi : Int) (x : Aft w), a = .int .i64 lo ∧ b = .int .i64 hi ∧ 0 ≤ lo ∧ lo < r ∧ r ≤ hi ∧ hi ≤ 100000001 ∧ wr = x.w1) (fun a b _ => (intOf b - intOf a).toNat)
  case atStart => exact ⟨0, 100000001, ⟨w, Below.refl _ _⟩, rfl, rfl, by omega, by omega, by omega, by omega, rfl⟩
  case round =>
    obtain ⟨lo, hi, x, rfl, rfl, l0, l1, l2, l3, rfl⟩ := hrel
    by_cases hlt : 1 < hi - lo
    · by_cases hm : r ≤ (lo + hi) / 2
      · have hv : accE ((lo + hi) / 2) d v = true := HR.out.yes (m := (lo + hi) / 2) (by omega) (by omega) hm
        go_wp2_with (go_at_call 67; refine (Aft.call (seen_c _ d v (by omega) (by omega) a0 a1 b0 b1 _ hv _)).mono ?_; rintro e _ ⟨rfl, y, rfl⟩)
        go_roundw
        case rel => exact ⟨lo, (lo + hi) / 2, _, rfl, rfl, by omega, by omega, by omega, by omega, rfl⟩
        case measure => simp [intOf]; omega
      · have hv : accE ((lo + hi) / 2) d v = false := HR.out.no (m := (lo + hi) / 2) (by omega) (by omega)
        go_wp2_with (go_at_call 67; refine (Aft.call (seen_c _ d v (by omega) (by omega) a0 a1 b0 b1 _ hv _)).mono ?_; rintro e _ ⟨rfl, y, rfl⟩)
        go_roundw
        case rel => exact ⟨(lo + hi) / 2, hi, _, rfl, rfl, by omega, by omega, by omega, by omega, rfl⟩
        case measure => simp [intOf]; omega
    · obtain rfl : hi = r := by omega
      have hd : decide (100000000 < hi) = false := decide_eq_false (by omega)
      go_wp2
      go_ret2
      exact ⟨rfl, x.below⟩

set_option maxHeartbeats 2000000 in
theorem specIntensityFor_none (d v : Int) (ha : inR d 1 100000 = true) (hb : inR v 1 100000 = true) (r : Int) (hr : Thr (fun i => accE i d v) 100000000 r) (hle : 100000000 < r) (w : World) :
    Calls Try.prog 30 #[.int .i64 d, .int .i64 v] w fun e w' => e = .returned (.tuple #[.int .i64 0, .int .i64 3]) ∧ Below w.heap.size w w' := by
  obtain ⟨a0, a1⟩ := inR_iff.1 ha
  obtain ⟨b0, b1⟩ := inR_iff.1 hb
  have r0 := hr.1
  have r1 := hr.2.1
  have HR := Lib.hid hr
  clear hr
  go_enter Try.func30, Try.ntmps30
  go_wp2_with (first
    | (go_at_call 57; refine (l09Distance_c _ _).mono ?_; rintro e w' ⟨rfl, rfl⟩)
    | (go_at_call 66; refine (l09Air_c _ _).mono ?_; rintro e w' ⟨rfl, rfl⟩))
  go_loopw [6, 7] (fun a b wr => ∃ (lo hi : Int) (x : Aft w), a = .int .i64 lo ∧ b = .int .i64 hi ∧ 0 ≤ lo ∧ lo < r ∧ r ≤ hi ∧ hi ≤ 100000001 ∧ wr = x.w1) (fun a b _ => (intOf b - intOf a).toNat)
  case atStart => exact ⟨0, 100000001, ⟨w, Below.refl _ _⟩, rfl, rfl, by omega, by omega, by omega, by omega, rfl⟩
  case round =>
    obtain ⟨lo, hi, x, rfl, rfl, l0, l1, l2, l3, rfl⟩ := hrel
    by_cases hlt : 1 < hi - lo
    · by_cases hm : r ≤ (lo + hi) / 2
      · exfalso; omega
      · have hv : accE ((lo + hi) / 2) d v = false := HR.out.no (m := (lo + hi) / 2) (by omega) (by omega)
        go_wp2_with (go_at_call 67; refine (Aft.call (seen_c _ d v (by omega) (by omega) a0 a1 b0 b1 _ hv _)).mono ?_; rintro e _ ⟨rfl, y, rfl⟩)
        go_roundw
        case rel => exact ⟨(lo + hi) / 2, hi, _, rfl, rfl, by omega, by omega, by omega, by omega, rfl⟩
        case measure => simp [intOf]; omega
    · obtain rfl : hi = r := by omega
      have hd : decide (100000000 < hi) = true := decide_eq_true (by omega)
      go_wp2
      go_ret2
      exact ⟨rfl, x.below⟩


set_option maxHeartbeats 1000000 in
theorem VisibilityFor1_c (i d n : Int) (a0 : 1 ≤ i) (a1 : i ≤ 100000000) (b0 : 1 ≤ d) (b1 : d ≤ 100000) (n0 : 1 ≤ n) (n1 : n ≤ 100000) (g1 g2 : Nat) (w : World) (hg1 : g1 < w.heap.size) (hg2 : g2 < w.heap.size)
    (c1 : w.cell? ⟨g1, 0, none⟩ = some (.int .i64 i)) (c2 : w.cell? ⟨g2, 0, none⟩ = some (.int .i64 d)) :
    Calls Try.prog 50 #[.int .i64 n, .pointer (some ⟨g1, 0, none⟩), .pointer (some ⟨g2, 0, none⟩)] w fun e w' => e = .returned (.bool (accE i d n)) ∧ Below w.heap.size w w' := by
  have k1 : ∀ x : Aft w, x.w1.cell? ⟨g1, 0, none⟩ = some (.int .i64 i) := fun x => x.cell hg1 c1
  have k2 : ∀ x : Aft w, x.w1.cell? ⟨g2, 0, none⟩ = some (.int .i64 d) := fun x => x.cell hg2 c2
  go_enter Try.func50, Try.ntmps50
  go_wp2_with (go_at_call 49; refine (Aft.first (enough_c i d n a0 a1 b0 b1 n0 n1 _)).mono ?_; rintro e _ ⟨rfl, y, rfl⟩)
  go_ret
  exact ⟨rfl, Aft.below _⟩
theorem VisibilityFor1_enter : ∀ args w, (callFunc 50 args).run Try.prog w = .ok (.enter 50 args) w := Go.Proofs.enters_of Try.func50 (by kernel_rfl) rfl
theorem VisibilityFor1_accepts (i d : Int) (a0 : 1 ≤ i) (a1 : i ≤ 100000000) (b0 : 1 ≤ d) (b1 : d ≤ 100000) (g1 g2 : Nat) (w : World) (hg1 : g1 < w.heap.size) (hg2 : g2 < w.heap.size)
    (c1 : w.cell? ⟨g1, 0, none⟩ = some (.int .i64 i)) (c2 : w.cell? ⟨g2, 0, none⟩ = some (.int .i64 d)) :
    Accepts 50 [.pointer (some ⟨g1, 0, none⟩), .pointer (some ⟨g2, 0, none⟩)] w 1 100000 (fun v => accE i d v) :=
  fun n x n0 n1 => Aft.call (VisibilityFor1_c i d n a0 a1 b0 b1 n0 n1 g1 g2 x.w1 (x.lt hg1) (x.lt hg2) (x.cell hg1 c1) (x.cell hg2 c2))

set_option maxHeartbeats 1000000 in
theorem implVisibilityFor_some (i d : Int) (ha : inR i 1 100000000 = true) (hb : inR d 1 100000 = true) (r : Int) (hr : Thr (fun v => accE i d v) 100000 r) (hle : r ≤ 100000) (w : World) :
    Calls Try.prog 20 #[.int .i64 i, .int .i64 d] w fun e w' => e = .returned (.tuple #[.int .i64 r, .int .i64 0]) ∧ Below w.heap.size w w' := by
  have hmf : ∀ (fn : Fn) (first cap : Array Value) (w : World), (Instr.makeFunc fn first cap).run Try.prog w = .ok (.func fn first cap) w := fun _ _ _ _ => rfl
  obtain ⟨a0, a1⟩ := inR_iff.1 ha
  obtain ⟨b0, b1⟩ := inR_iff.1 hb
  have r0 := hr.1
  have HL := Lib.hid (hr.least hle)
  have HY := Lib.hid (hr.yes (m := 100000) (by omega) (by omega) hle)
  have HM := Lib.hid hr.mono
  clear hr hle
  go_enter Try.func20, Try.ntmps20
  go_wp2_with (first
    | (go_at_call 41; refine (isIntensity_c _ _).mono ?_; rintro e w' ⟨rfl, rfl⟩)
    | (go_at_call 46; refine (isRange_c _ _).mono ?_; rintro e w' ⟨rfl, rfl⟩))
  refine (leastOf_some 50 [.pointer (some ⟨w.heap.size, 0, none⟩), .pointer (some ⟨w.heap.size + 1, 0, none⟩)] 1 100000 (fun v => accE i d v) (by omega) (by omega) (by omega) _ VisibilityFor1_enter
    (VisibilityFor1_accepts i d a0 a1 b0 b1 _ _ _ (by simp; omega) (by simp) (cell_two1 _ _ _ _ _) (cell_two2 _ _ _ _ _)) HY.out HM.out r r0 HL.out ⟨_, Below.refl _ _⟩).mono ?_
  rintro e _ ⟨rfl, y, rfl⟩
  go_wp2
  go_ret2
  exact ⟨rfl, below_box (below_box y.below)⟩

set_option maxHeartbeats 1000000 in
theorem implVisibilityFor_none (i d : Int) (ha : inR i 1 100000000 = true) (hb : inR d 1 100000 = true) (r : Int) (hr : Thr (fun v => accE i d v) 100000 r) (hle : 100000 < r) (w : World) :
    Calls Try.prog 20 #[.int .i64 i, .int .i64 d] w fun e w' => e = .returned (.tuple #[.int .i64 0, .int .i64 3]) ∧ Below w.heap.size w w' := by
  have hmf : ∀ (fn : Fn) (first cap : Array Value) (w : World), (Instr.makeFunc fn first cap).run Try.prog w = .ok (.func fn first cap) w := fun _ _ _ _ => rfl
  obtain ⟨a0, a1⟩ := inR_iff.1 ha
  obtain ⟨b0, b1⟩ := inR_iff.1 hb
  have r0 := hr.1
  have HN := Lib.hid (hr.none (by omega) (by omega))
  clear hr hle
  go_enter Try.func20, Try.ntmps20
  go_wp2_with (first
    | (go_at_call 41; refine (isIntensity_c _ _).mono ?_; rintro e w' ⟨rfl, rfl⟩)
    | (go_at_call 46; refine (isRange_c _ _).mono ?_; rintro e w' ⟨rfl, rfl⟩))
  refine (leastOf_none 50 [.pointer (some ⟨w.heap.size, 0, none⟩), .pointer (some ⟨w.heap.size + 1, 0, none⟩)] 1 100000 (fun v => accE i d v) (by omega) (by omega) (by omega) _ VisibilityFor1_enter
    (VisibilityFor1_accepts i d a0 a1 b0 b1 _ _ _ (by simp; omega) (by simp) (cell_two1 _ _ _ _ _) (cell_two2 _ _ _ _ _)) HN.out ⟨_, Below.refl _ _⟩).mono ?_
  rintro e _ ⟨rfl, y, rfl⟩
  go_wp2
  go_ret2
  exact ⟨rfl, below_box (below_box y.below)⟩

set_option maxHeartbeats 1000000 in
theorem implVisibilityFor_bad1 (i d : Int) (ha : inR i 1 100000000 = false) (w : World) :
    Calls Try.prog 20 #[.int .i64 i, .int .i64 d] w fun e w' => e = .returned (.tuple #[.int .i64 0, .int .i64 2]) ∧ Below w.heap.size w w' := by
  go_enter Try.func20, Try.ntmps20
  go_wp2_with (go_at_call 41; refine (isIntensity_c _ _).mono ?_; rintro e w' ⟨rfl, rfl⟩)
  go_ret2
  exact ⟨rfl, (by repeat (first | exact Below.refl _ _ | refine Below.alloc ?_ (by simp; try omega) _ | refine Below.drew ?_))⟩
set_option maxHeartbeats 1000000 in
theorem implVisibilityFor_bad2 (i d : Int) (ha : inR i 1 100000000 = true) (hb : inR d 1 100000 = false) (w : World) :
    Calls Try.prog 20 #[.int .i64 i, .int .i64 d] w fun e w' => e = .returned (.tuple #[.int .i64 0, .int .i64 2]) ∧ Below w.heap.size w w' := by
  go_enter Try.func20, Try.ntmps20
  go_wp2_with (first
    | (go_at_call 41; refine (isIntensity_c _ _).mono ?_; rintro e w' ⟨rfl, rfl⟩)
    | (go_at_call 46; refine (isRange_c _ _).mono ?_; rintro e w' ⟨rfl, rfl⟩))
  go_ret2
  exact ⟨rfl, (by repeat (first | exact Below.refl _ _ | refine Below.alloc ?_ (by simp; try omega) _ | refine Below.drew ?_))⟩
set_option maxHeartbeats 1000000 in
theorem specVisibilityFor_bad1 (i d : Int) (ha : inR i 1 100000000 = false) (w : World) :
    Calls Try.prog 31 #[.int .i64 i, .int .i64 d] w fun e w' => e = .returned (.tuple #[.int .i64 0, .int .i64 2]) ∧ Below w.heap.size w w' := by
  go_enter Try.func31, Try.ntmps31
  go_wp2_with (go_at_call 68; refine (l09Intensity_c _ _).mono ?_; rintro e w' ⟨rfl, rfl⟩)
  go_ret2
  exact ⟨rfl, (by repeat (first | exact Below.refl _ _ | refine Below.alloc ?_ (by simp; try omega) _ | refine Below.drew ?_))⟩
set_option maxHeartbeats 1000000 in
theorem specVisibilityFor_bad2 (i d : Int) (ha : inR i 1 100000000 = true) (hb : inR d 1 100000 = false) (w : World) :
    Calls Try.prog 31 #[.int .i64 i, .int .i64 d] w fun e w' => e = .returned (.tuple #[.int .i64 0, .int .i64 2]) ∧ Below w.heap.size w w' := by
  go_enter Try.func31, Try.ntmps31
  go_wp2_with (first
    | (go_at_call 68; refine (l09Intensity_c _ _).mono ?_; rintro e w' ⟨rfl, rfl⟩)
    | (go_at_call 57; refine (l09Distance_c _ _).mono ?_; rintro e w' ⟨rfl, rfl⟩))
  go_ret2
  exact ⟨rfl, (by repeat (first | exact Below.refl _ _ | refine Below.alloc ?_ (by simp; try omega) _ | refine Below.drew ?_))⟩

set_option maxHeartbeats 2000000 in
theorem specVisibilityFor_some (i d : Int) (ha : inR i 1 100000000 = true) (hb : inR d 1 100000 = true) (r : Int) (hr : Thr (fun v => accE i d v) 100000 r) (hle : r ≤ 100000) (w : World) :
    Calls Try.prog 31 #[.int .i64 i, .int .i64 d] w fun e w' => e = .returned (.tuple #[.int .i64 r, .int .i64 0]) ∧ Below w.heap.size w w' := by
  obtain ⟨a0, a1⟩ := inR_iff.1 ha
  obtain ⟨b0, b1⟩ := inR_iff.1 hb
  have r0 := hr.1
  have r1 := hr.2.1
  have HR := Lib.hid hr
  clear hr
  go_enter Try.func31, Try.ntmps31
  go_wp2_with (first
    | (go_at_call 68; refine (l09Intensity_c _ _).mono ?_; rintro e w' ⟨rfl, rfl⟩)
    | (go_at_call 57; refine (l09Distance_c _ _).mono ?_; rintro e w' ⟨rfl, rfl⟩))
  go_loopw [6, 7] (fun a b wr => ∃ (lo hi : Int) (x : Aft w), a = .int .i64 lo ∧ b = .int .i64 hi ∧ 0 ≤ lo ∧ lo < r ∧ r ≤ hi ∧ hi ≤ 100001 ∧ wr = x.w1) (fun a b _ => (intOf b - intOf a).toNat)
  case atStart => exact ⟨0, 100001, ⟨w, Below.refl _ _⟩, rfl, rfl, by omega, by omega, by omega, by omega, rfl⟩
  case round =>
    obtain ⟨lo, hi, x, rfl, rfl, l0, l1, l2, l3, rfl⟩ := hrel
    by_cases hlt : 1 < hi - lo
    · by_cases hm : r ≤ (lo + hi) / 2
      · have hv : accE i d ((lo + hi) / 2) = true := HR.out.yes (m := (lo + hi) / 2) (by omega) (by omega) hm
        go_wp2_with (go_at_call 67; refine (Aft.call (seen_c i d _ a0 a1 b0 b1 (by omega) (by omega) _ hv _)).mono ?_; rintro e _ ⟨rfl, y, rfl⟩)
        go_roundw
        case rel => exact ⟨lo, (lo + hi) / 2, _, rfl, rfl, by omega, by omega, by omega, by omega, rfl⟩
        case measure => simp [intOf]; omega
      · have hv : accE i d ((lo + hi) / 2) = false := HR.out.no (m := (lo + hi) / 2) (by omega) (by omega)
        go_wp2_with (go_at_call 67; refine (Aft.call (seen_c i d _ a0 a1 b0 b1 (by omega) (by omega) _ hv _)).mono ?_; rintro e _ ⟨rfl, y, rfl⟩)
        go_roundw
        case rel => exact ⟨(lo + hi) / 2, hi, _, rfl, rfl, by omega, by omega, by omega, by omega, rfl⟩
        case measure => simp [intOf]; omega
    · obtain rfl : hi = r := by omega
      have hd : decide (100000 < hi) = false := decide_eq_false (by omega)
      go_wp2
      go_ret2
      exact ⟨rfl, x.below⟩

set_option maxHeartbeats 2000000 in
theorem specVisibilityFor_none (i d : Int) (ha : inR i 1 100000000 = true) (hb : inR d 1 100000 = true) (r : Int) (hr : Thr (fun v => accE i d v) 100000 r) (hle : 100000 < r) (w : World) :
    Calls Try.prog 31 #[.int .i64 i, .int .i64 d] w fun e w' => e = .returned (.tuple #[.int .i64 0, .int .i64 3]) ∧ Below w.heap.size w w' := by
  obtain ⟨a0, a1⟩ := inR_iff.1 ha
  obtain ⟨b0, b1⟩ := inR_iff.1 hb
  have r0 := hr.1
  have r1 := hr.2.1
  have HR := Lib.hid hr
  clear hr
  go_enter Try.func31, Try.ntmps31
  go_wp2_with (first
    | (go_at_call 68; refine (l09Intensity_c _ _).mono ?_; rintro e w' ⟨rfl, rfl⟩)
    | (go_at_call 57; refine (l09Distance_c _ _).mono ?_; rintro e w' ⟨rfl, rfl⟩))
  go_loopw [6, 7] (fun a b wr => ∃ (lo hi : Int) (x : Aft w), a = .int .i64 lo ∧ b = .int .i64 hi ∧ 0 ≤ lo ∧ lo < r ∧ r ≤ hi ∧ hi ≤ 100001 ∧ wr = x.w1) (fun a b _ => (intOf b - intOf a).toNat)
  case atStart => exact ⟨0, 100001, ⟨w, Below.refl _ _⟩, rfl, rfl, by omega, by omega, by omega, by omega, rfl⟩
  case round =>
    obtain ⟨lo, hi, x, rfl, rfl, l0, l1, l2, l3, rfl⟩ := hrel
    by_cases hlt : 1 < hi - lo
    · by_cases hm : r ≤ (lo + hi) / 2
      · exfalso; omega
      · have hv : accE i d ((lo + hi) / 2) = false := HR.out.no (m := (lo + hi) / 2) (by omega) (by omega)
        go_wp2_with (go_at_call 67; refine (Aft.call (seen_c i d _ a0 a1 b0 b1 (by omega) (by omega) _ hv _)).mono ?_; rintro e _ ⟨rfl, y, rfl⟩)
        go_roundw
        case rel => exact ⟨(lo + hi) / 2, hi, _, rfl, rfl, by omega, by omega, by omega, by omega, rfl⟩
        case measure => simp [intOf]; omega
    · obtain rfl : hi = r := by omega
      have hd : decide (100000 < hi) = true := decide_eq_true (by omega)
      go_wp2
      go_ret2
      exact ⟨rfl, x.below⟩


end Go.Proofs.Ytffdipcogkhkmaa
