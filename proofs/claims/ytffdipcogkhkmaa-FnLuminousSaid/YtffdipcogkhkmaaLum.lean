/- How far a light carries: contracts of the program's and of the reference's functions. -/
import Derived.Test.YtffdipcogkhkmaaLog
import Derived.Test.YtffdipcogkhkmaaLumPlain
namespace Go.Proofs.Ytffdipcogkhkmaa
open Go.RowKit
set_option linter.unusedVariables false
theorem quo_bd {d v : Int} (hd : 1 ≤ d) (hd2 : d ≤ 100000) (hv : 1 ≤ v) : 0 ≤ 1301 * d / v ∧ 1301 * d / v ≤ 130100000 := by
  refine ⟨Int.ediv_nonneg (by omega) (by omega), ?_⟩
  have := quo_anti (a := 1301 * d) (v := 1) (v' := v) (by omega) (by omega) hv
  rw [Int.ediv_one] at this
  omega
set_option maxHeartbeats 1000000 in
theorem enough_c (i d v : Int) (i0 : 1 ≤ i) (i1 : i ≤ 100000000) (d0 : 1 ≤ d) (d1 : d ≤ 100000) (v0 : 1 ≤ v) (v1 : v ≤ 100000) (w : World) :
    Calls Try.prog 49 #[.int .i64 i, .int .i64 d, .int .i64 v] w fun e w' => e = .returned (.bool (accE i d v)) ∧ Below w.heap.size w w' := by
  obtain ⟨a0, a1⟩ := tenL_bd i0 (by omega)
  obtain ⟨b0, b1⟩ := tenL_bd d0 (by omega)
  obtain ⟨q0, q1⟩ := quo_bd d0 d1 v0
  have vz : (v == 0) = false := by simp; omega
  have w1 : IntKind.i64.wrap (tenL i + 6699) = tenL i + 6699 := IntWalk.i64_in _ (by omega)
  have w2 : IntKind.i64.wrap (1301 * d) = 1301 * d := IntWalk.i64_in _ (by omega)
  have w3 : IntKind.i64.wrap ((1301 * d).tdiv v) = 1301 * d / v := IntWalk.i64_quo _ _ ⟨by omega, by omega, v0⟩
  have w4 : IntKind.i64.wrap (tenL i + 6699 - 1301 * d / v) = tenL i + 6699 - 1301 * d / v := IntWalk.i64_in _ (by omega)
  have w5 : IntKind.i64.wrap (2 * tenL d) = 2 * tenL d := IntWalk.i64_in _ (by omega)
  go_enter Try.func49, Try.ntmps49
  go_wp2
  refine wp_region_aft (by kernel_rfl) (by kernel_rfl) ?_
  repeat (go_big_quiet_step ((go_at_call 45; exact Aft.same (implLog_c _ (by assumption) (by omega) _))))
  refine wpQuiet_nil ?_
  intro w1 hb1
  go_wp2
  go_ret
  exact ⟨rfl, hb1⟩
set_option maxHeartbeats 1000000 in
theorem seen_c (i d v : Int) (i0 : 1 ≤ i) (i1 : i ≤ 100000000) (d0 : 1 ≤ d) (d1 : d ≤ 100000) (v0 : 1 ≤ v) (v1 : v ≤ 100000) (b : Bool) (hb : accE i d v = b) (w : World) :
    Calls Try.prog 67 #[.int .i64 i, .int .i64 v, .int .i64 d] w fun e w' => e = .returned (.bool b) ∧ Below w.heap.size w w' := by
  subst hb
  obtain ⟨a0, a1⟩ := tenL_bd i0 (by omega)
  obtain ⟨b0, b1⟩ := tenL_bd d0 (by omega)
  obtain ⟨q0, q1⟩ := quo_bd d0 d1 v0
  have vz : (v == 0) = false := by simp; omega
  have w1 : IntKind.i64.wrap (tenL i + 6699) = tenL i + 6699 := IntWalk.i64_in _ (by omega)
  have w2 : IntKind.i64.wrap (1301 * d) = 1301 * d := IntWalk.i64_in _ (by omega)
  have w3 : IntKind.i64.wrap ((1301 * d).tdiv v) = 1301 * d / v := IntWalk.i64_quo _ _ ⟨by omega, by omega, v0⟩
  have w4 : IntKind.i64.wrap (tenL i + 6699 - 1301 * d / v) = tenL i + 6699 - 1301 * d / v := IntWalk.i64_in _ (by omega)
  have w5 : IntKind.i64.wrap (2 * tenL d) = 2 * tenL d := IntWalk.i64_in _ (by omega)
  go_enter Try.func67, Try.ntmps67
  go_wp2
  refine wp_region_aft (by kernel_rfl) (by kernel_rfl) ?_
  repeat (go_big_quiet_step ((go_at_call 56; exact Aft.same (specLog_c _ (by assumption) (by omega) _))))
  refine wpQuiet_nil ?_
  intro w1 hb1
  go_wp2
  go_ret
  exact ⟨rfl, hb1⟩
set_option maxHeartbeats 1000000 in
theorem isIntensity_c (n : Int) (w : World) :
    Calls Try.prog 41 #[.int .i64 n] w fun e w' => e = .returned (.bool (inR n 1 100000000)) ∧ w = w' := by
  go_enter Try.func41, Try.ntmps41
  go_wp2_with (go_at_call 44; refine (within_c _ _ _ _).mono ?_; rintro e w' ⟨rfl, rfl⟩)
  go_ret
  exact ⟨rfl, rfl⟩
set_option maxHeartbeats 1000000 in
theorem isVisibility_c (n : Int) (w : World) :
    Calls Try.prog 42 #[.int .i64 n] w fun e w' => e = .returned (.bool (inR n 1 100000)) ∧ w = w' := by
  go_enter Try.func42, Try.ntmps42
  go_wp2_with (go_at_call 44; refine (within_c _ _ _ _).mono ?_; rintro e w' ⟨rfl, rfl⟩)
  go_ret
  exact ⟨rfl, rfl⟩
set_option maxHeartbeats 1000000 in
theorem l09Intensity_c (n : Int) (w : World) :
    Calls Try.prog 68 #[.int .i64 n] w fun e w' => e = .returned (.bool (inR n 1 100000000)) ∧ w = w' := by
  go_enter Try.func68, Try.ntmps68
  go_wp2_with (go_at_call 55; refine (l00In_c _ _ _ _).mono ?_; rintro e w' ⟨rfl, rfl⟩)
  go_ret
  exact ⟨rfl, rfl⟩
set_option maxHeartbeats 1000000 in
theorem l09Air_c (n : Int) (w : World) :
    Calls Try.prog 66 #[.int .i64 n] w fun e w' => e = .returned (.bool (inR n 1 100000)) ∧ w = w' := by
  go_enter Try.func66, Try.ntmps66
  go_wp2_with (go_at_call 55; refine (l00In_c _ _ _ _).mono ?_; rintro e w' ⟨rfl, rfl⟩)
  go_ret
  exact ⟨rfl, rfl⟩
set_option maxHeartbeats 1000000 in
theorem lum1_c (i v n : Int) (i0 : 1 ≤ i) (i1 : i ≤ 100000000) (v0 : 1 ≤ v) (v1 : v ≤ 100000) (n0 : 1 ≤ n) (n1 : n ≤ 100000) (b1 b2 : Nat) (w : World) (hb1 : b1 < w.heap.size) (hb2 : b2 < w.heap.size)
    (c1 : w.cell? ⟨b1, 0, none⟩ = some (.int .i64 i)) (c2 : w.cell? ⟨b2, 0, none⟩ = some (.int .i64 v)) :
    Calls Try.prog 75 #[.int .i64 n, .pointer (some ⟨b1, 0, none⟩), .pointer (some ⟨b2, 0, none⟩)] w fun e w' => e = .returned (.bool (accNot i v n)) ∧ Below w.heap.size w w' := by
  have k1 : ∀ x : Aft w, x.w1.cell? ⟨b1, 0, none⟩ = some (.int .i64 i) := fun x => x.cell hb1 c1
  have k2 : ∀ x : Aft w, x.w1.cell? ⟨b2, 0, none⟩ = some (.int .i64 v) := fun x => x.cell hb2 c2
  go_enter Try.func75, Try.ntmps75
  go_wp2_with (go_at_call 49; refine (Aft.first (enough_c i n v i0 i1 n0 n1 v0 v1 _)).mono ?_; rintro e _ ⟨rfl, y, rfl⟩)
  go_ret
  exact ⟨rfl, Aft.below _⟩
theorem lum1_enter : ∀ args w, (callFunc 75 args).run Try.prog w = .ok (.enter 75 args) w := Go.Proofs.enters_of Try.func75 (by kernel_rfl) rfl
theorem lum1_accepts (i v : Int) (i0 : 1 ≤ i) (i1 : i ≤ 100000000) (v0 : 1 ≤ v) (v1 : v ≤ 100000) (b1 b2 : Nat) (w : World) (hb1 : b1 < w.heap.size) (hb2 : b2 < w.heap.size)
    (c1 : w.cell? ⟨b1, 0, none⟩ = some (.int .i64 i)) (c2 : w.cell? ⟨b2, 0, none⟩ = some (.int .i64 v)) :
    Accepts 75 [.pointer (some ⟨b1, 0, none⟩), .pointer (some ⟨b2, 0, none⟩)] w 1 100000 (accNot i v) :=
  fun n x n0 n1 => Aft.call (lum1_c i v n i0 i1 v0 v1 n0 n1 b1 b2 x.w1 (x.lt hb1) (x.lt hb2) (x.cell hb1 c1) (x.cell hb2 c2))
set_option maxHeartbeats 1000000 in
theorem luminous_c (i v : Int) (i0 : 1 ≤ i) (i1 : i ≤ 100000000) (v0 : 1 ≤ v) (v1 : v ≤ 100000) (r : Int) (hr : Thr (accNot i v) 100000 r) (w : World) :
    Calls Try.prog 43 #[.int .i64 i, .int .i64 v] w fun e w' => e = .returned (.int .i64 (r - 1)) ∧ Below w.heap.size w w' := by
  have hmf : ∀ (fn : Fn) (first cap : Array Value) (w : World), (Instr.makeFunc fn first cap).run Try.prog w = .ok (.func fn first cap) w := fun _ _ _ _ => rfl
  have r0 := hr.1
  have r1 := hr.2.1
  by_cases hle : r ≤ 100000
  · have HL := Lib.hid (hr.least hle)
    have HY := Lib.hid (hr.yes (m := 100000) (by omega) (by omega) hle)
    have HM := Lib.hid hr.mono
    clear hr
    go_enter Try.func43, Try.ntmps43
    go_wp2_with fail
    refine (leastOf_some 75 [.pointer (some ⟨w.heap.size, 0, none⟩), .pointer (some ⟨w.heap.size + 1, 0, none⟩)] 1 100000 (accNot i v) (by omega) (by omega) (by omega) _ lum1_enter
      (lum1_accepts i v i0 i1 v0 v1 _ _ _ (by simp; omega) (by simp) (cell_two1 _ _ _ _ _) (cell_two2 _ _ _ _ _)) HY.out HM.out r r0 HL.out ⟨_, Below.refl _ _⟩).mono ?_
    rintro e _ ⟨rfl, y, rfl⟩
    go_wp2
    go_ret
    exact ⟨rfl, below_box (below_box y.below)⟩
  · have HN := Lib.hid (hr.none (by omega) hle)
    obtain rfl : r = 100001 := by omega
    clear hr
    go_enter Try.func43, Try.ntmps43
    go_wp2_with fail
    refine (leastOf_none 75 [.pointer (some ⟨w.heap.size, 0, none⟩), .pointer (some ⟨w.heap.size + 1, 0, none⟩)] 1 100000 (accNot i v) (by omega) (by omega) (by omega) _ lum1_enter
      (lum1_accepts i v i0 i1 v0 v1 _ _ _ (by simp; omega) (by simp) (cell_two1 _ _ _ _ _) (cell_two2 _ _ _ _ _)) HN.out ⟨_, Below.refl _ _⟩).mono ?_
    rintro e _ ⟨rfl, y, rfl⟩
    go_wp2
    go_ret
    exact ⟨rfl, below_box (below_box y.below)⟩
set_option maxHeartbeats 2000000 in
theorem specLuminous_c (i v : Int) (i0 : 1 ≤ i) (i1 : i ≤ 100000000) (v0 : 1 ≤ v) (v1 : v ≤ 100000) (r : Int) (hr : Thr (accNot i v) 100000 r) (w : World) :
    Calls Try.prog 69 #[.int .i64 i, .int .i64 v] w fun e w' => e = .returned (.int .i64 (r - 1)) ∧ Below w.heap.size w w' := by
  have r0 := hr.1
  have r1 := hr.2.1
  have HR := Lib.hid hr
  clear hr
  go_enter Try.func69, Try.ntmps69
  go_wp2
  go_loopw [5, 6] (fun a b wr => ∃ (lo hi : Int) (x : Aft w), a = .int .i64 lo ∧ b = .int .i64 hi ∧ 0 ≤ lo ∧ lo < r ∧ r ≤ hi ∧ hi ≤ 100001 ∧ wr = x.w1) (fun a b _ => (intOf b - intOf a).toNat)
  case atStart => exact ⟨0, 100001, ⟨w, Below.refl _ _⟩, rfl, rfl, by omega, by omega, by omega, by omega, rfl⟩
  case round =>
    obtain ⟨lo, hi, x, rfl, rfl, a0, a1, a2, a3, rfl⟩ := hrel
    by_cases hlt : 1 < hi - lo
    · by_cases hm : r ≤ (lo + hi) / 2
      · have hv : accE i ((lo + hi) / 2) v = false := by
          have := HR.out.yes (m := (lo + hi) / 2) (by omega) (by omega) hm
          simpa [accNot] using this
        go_wp2_with (go_at_call 67; refine (Aft.call (seen_c i _ v i0 i1 (by omega) (by omega) v0 v1 _ hv _)).mono ?_; rintro e _ ⟨rfl, y, rfl⟩)
        go_roundw
        case rel => exact ⟨lo, (lo + hi) / 2, _, rfl, rfl, by omega, by omega, by omega, by omega, rfl⟩
        case measure => simp [intOf]; omega
      · have hv : accE i ((lo + hi) / 2) v = true := by
          have := HR.out.no (m := (lo + hi) / 2) (by omega) (by omega)
          simpa [accNot] using this
        go_wp2_with (go_at_call 67; refine (Aft.call (seen_c i _ v i0 i1 (by omega) (by omega) v0 v1 _ hv _)).mono ?_; rintro e _ ⟨rfl, y, rfl⟩)
        go_roundw
        case rel => exact ⟨(lo + hi) / 2, hi, _, rfl, rfl, by omega, by omega, by omega, by omega, rfl⟩
        case measure => simp [intOf]; omega
    · go_wp2
      go_ret
      exact ⟨ret_int (by omega), x.below⟩
end Go.Proofs.Ytffdipcogkhkmaa
