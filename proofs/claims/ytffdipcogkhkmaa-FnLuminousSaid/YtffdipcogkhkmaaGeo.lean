/- The horizon and the geographic range: contracts. -/
import Derived.Test.YtffdipcogkhkmaaFog
import Derived.Test.YtffdipcogkhkmaaRoot
namespace Go.Proofs.Ytffdipcogkhkmaa
open Go.RowKit
set_option linter.unusedVariables false
/-- The distance of the horizon. -/
def horZ (h : Int) : Int := rootI (1483790 * h)
theorem horZ_bd {h : Int} (h0 : 0 ≤ h) (h1 : h ≤ 3000) : 0 ≤ horZ h ∧ horZ h ≤ 66719 :=
  ⟨(rootI_spec (by omega)).1, rootI_le (by omega) (by omega) (by omega)⟩
theorem horZ_mono {a b : Int} (h0 : 0 ≤ a) (h : a ≤ b) : horZ a ≤ horZ b := rootI_mono (by omega) (by omega)
set_option maxHeartbeats 1000000 in
theorem l09Horizon_c (h : Int) (h0 : 0 ≤ h) (h1 : h ≤ 3000) (w : World) :
    Calls Try.prog 52 #[.int .i64 h] w fun e w' => e = .returned (.int .i64 (horZ h)) ∧ w = w' := by
  go_enter Try.func52, Try.ntmps52
  go_wp2_with (go_at_call 76; refine (specRoot_calls _ (by omega) (by omega) _).mono ?_; rintro e w' ⟨rfl, rfl⟩)
  go_ret
  exact ⟨rfl, rfl⟩
set_option maxHeartbeats 1000000 in
theorem l09Height_c (n : Int) (w : World) :
    Calls Try.prog 51 #[.int .i64 n] w fun e w' => e = .returned (.bool (inR n 0 3000)) ∧ w = w' := by
  go_enter Try.func51, Try.ntmps51
  go_wp2_with (go_at_call 55; refine (l00In_c _ _ _ _).mono ?_; rintro e w' ⟨rfl, rfl⟩)
  go_ret
  exact ⟨rfl, rfl⟩
set_option maxHeartbeats 1000000 in
theorem horizon_c (h : Int) (h0 : 0 ≤ h) (h1 : h ≤ 3000) (w : World) :
    Calls Try.prog 59 #[.int .i64 h] w fun e w' => e = .returned (.int .i64 (horZ h)) ∧ w = w' := by
  go_enter Try.func59, Try.ntmps59
  go_wp2_with (go_at_call 77; refine (implRoot_calls _ (by omega) (by omega) _).mono ?_; rintro e w' ⟨rfl, rfl⟩)
  go_ret
  exact ⟨rfl, rfl⟩
set_option maxHeartbeats 1000000 in
theorem isHeight_c (n : Int) (w : World) :
    Calls Try.prog 53 #[.int .i64 n] w fun e w' => e = .returned (.bool (inR n 0 3000)) ∧ w = w' := by
  go_enter Try.func53, Try.ntmps53
  go_wp2_with (go_at_call 44; refine (within_c _ _ _ _).mono ?_; rintro e w' ⟨rfl, rfl⟩)
  go_ret
  exact ⟨rfl, rfl⟩
/-- Two numbers as a result. -/
def two (a b : Int) : Value := .tuple #[.int .i64 a, .int .i64 b]
set_option maxHeartbeats 1000000 in
theorem specGeo_1 (h e : Int) (hh : inR h 0 3000 = false) (w : World) :
    Calls Try.prog 21 #[.int .i64 h, .int .i64 e] w fun r w' => r = .returned (.tuple #[.int .i64 0, .int .i64 2]) ∧ w = w' := by
  go_enter Try.func21, Try.ntmps21
  go_wp2_with (go_at_call 51; refine (l09Height_c _ _).mono ?_; rintro e w' ⟨rfl, rfl⟩)
  go_ret2
  exact ⟨rfl, rfl⟩
set_option maxHeartbeats 1000000 in
theorem specGeo_2 (h e : Int) (hh : inR h 0 3000 = true) (he : inR e 0 3000 = false) (w : World) :
    Calls Try.prog 21 #[.int .i64 h, .int .i64 e] w fun r w' => r = .returned (.tuple #[.int .i64 0, .int .i64 2]) ∧ w = w' := by
  go_enter Try.func21, Try.ntmps21
  go_wp2_with (go_at_call 51; refine (l09Height_c _ _).mono ?_; rintro e w' ⟨rfl, rfl⟩)
  go_ret2
  exact ⟨rfl, rfl⟩
set_option maxHeartbeats 1000000 in
theorem specGeo_3 (h e : Int) (hh : inR h 0 3000 = true) (he : inR e 0 3000 = true) (w : World) :
    Calls Try.prog 21 #[.int .i64 h, .int .i64 e] w fun r w' => r = .returned (.tuple #[.int .i64 (horZ h + horZ e), .int .i64 0]) ∧ w = w' := by
  obtain ⟨a0, a1⟩ := inR_iff.1 hh
  obtain ⟨b0, b1⟩ := inR_iff.1 he
  obtain ⟨c0, c1⟩ := horZ_bd a0 a1
  obtain ⟨d0, d1⟩ := horZ_bd b0 b1
  go_enter Try.func21, Try.ntmps21
  go_wp2_with (first
    | (go_at_call 51; refine (l09Height_c _ _).mono ?_; rintro e w' ⟨rfl, rfl⟩)
    | (go_at_call 52; refine (l09Horizon_c _ (by assumption) (by assumption) _).mono ?_; rintro e w' ⟨rfl, rfl⟩))
  go_ret2
  exact ⟨rfl, rfl⟩
end Go.Proofs.Ytffdipcogkhkmaa
