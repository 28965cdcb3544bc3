/- The horizon and the geographic range: contracts. -/
import Derived.Test.YtnbnkabooggoiaaFog
import Derived.Test.YtnbnkabooggoiaaRoot
namespace Go.Proofs.Ytnbnkabooggoiaa
open Go.RowKit
set_option linter.unusedVariables false
/-- The distance of the horizon. -/
def horZ (h : Int) : Int := rootI (1483790 * h)
theorem horZ_bd {h : Int} (h0 : 0 ≤ h) (h1 : h ≤ 3000) : 0 ≤ horZ h ∧ horZ h ≤ 66719 :=
  ⟨(rootI_spec (by omega)).1, rootI_le (by omega) (by omega) (by omega)⟩
theorem horZ_mono {a b : Int} (h0 : 0 ≤ a) (h : a ≤ b) : horZ a ≤ horZ b := rootI_mono (by omega) (by omega)
set_option maxHeartbeats 1000000 in
theorem l09Horizon_c (h : Int) (h0 : 0 ≤ h) (h1 : h ≤ 3000) (w : World) :
    Calls Try.prog 63 #[.int .i64 h] w fun e w' => e = .returned (.int .i64 (horZ h)) ∧ w = w' := by
  go_enter Try.func63, Try.ntmps63
  go_wp2_with (go_at_call 72; refine (specRoot_calls _ (by omega) (by omega) _).mono ?_; rintro e w' ⟨rfl, rfl⟩)
  go_ret
  exact ⟨rfl, rfl⟩
set_option maxHeartbeats 1000000 in
theorem l09Height_c (n : Int) (w : World) :
    Calls Try.prog 62 #[.int .i64 n] w fun e w' => e = .returned (.bool (inR n 0 3000)) ∧ w = w' := by
  go_enter Try.func62, Try.ntmps62
  go_wp2_with (go_at_call 42; refine (l00In_c _ _ _ _).mono ?_; rintro e w' ⟨rfl, rfl⟩)
  go_ret
  exact ⟨rfl, rfl⟩
set_option maxHeartbeats 1000000 in
theorem horizon_c (h : Int) (h0 : 0 ≤ h) (h1 : h ≤ 3000) (w : World) :
    Calls Try.prog 65 #[.int .i64 h] w fun e w' => e = .returned (.int .i64 (horZ h)) ∧ w = w' := by
  go_enter Try.func65, Try.ntmps65
  go_wp2_with (go_at_call 73; refine (implRoot_calls _ (by omega) (by omega) _).mono ?_; rintro e w' ⟨rfl, rfl⟩)
  go_ret
  exact ⟨rfl, rfl⟩
set_option maxHeartbeats 1000000 in
theorem isHeight_c (n : Int) (w : World) :
    Calls Try.prog 64 #[.int .i64 n] w fun e w' => e = .returned (.bool (inR n 0 3000)) ∧ w = w' := by
  go_enter Try.func64, Try.ntmps64
  go_wp2_with (go_at_call 51; refine (within_c _ _ _ _).mono ?_; rintro e w' ⟨rfl, rfl⟩)
  go_ret
  exact ⟨rfl, rfl⟩
/-- Two numbers as a result. -/
def two (a b : Int) : Value := .tuple #[.int .i64 a, .int .i64 b]
set_option maxHeartbeats 1000000 in
theorem specGeo_1 (h e : Int) (hh : inR h 0 3000 = false) (w : World) :
    Calls Try.prog 36 #[.int .i64 h, .int .i64 e] w fun r w' => r = .returned (.tuple #[.int .i64 0, .int .i64 2]) ∧ w = w' := by
  go_enter Try.func36, Try.ntmps36
  go_wp2_with (go_at_call 62; refine (l09Height_c _ _).mono ?_; rintro e w' ⟨rfl, rfl⟩)
  go_ret2
  exact ⟨rfl, rfl⟩
set_option maxHeartbeats 1000000 in
theorem specGeo_2 (h e : Int) (hh : inR h 0 3000 = true) (he : inR e 0 3000 = false) (w : World) :
    Calls Try.prog 36 #[.int .i64 h, .int .i64 e] w fun r w' => r = .returned (.tuple #[.int .i64 0, .int .i64 2]) ∧ w = w' := by
  go_enter Try.func36, Try.ntmps36
  go_wp2_with (go_at_call 62; refine (l09Height_c _ _).mono ?_; rintro e w' ⟨rfl, rfl⟩)
  go_ret2
  exact ⟨rfl, rfl⟩
set_option maxHeartbeats 1000000 in
theorem specGeo_3 (h e : Int) (hh : inR h 0 3000 = true) (he : inR e 0 3000 = true) (w : World) :
    Calls Try.prog 36 #[.int .i64 h, .int .i64 e] w fun r w' => r = .returned (.tuple #[.int .i64 (horZ h + horZ e), .int .i64 0]) ∧ w = w' := by
  obtain ⟨a0, a1⟩ := inR_iff.1 hh
  obtain ⟨b0, b1⟩ := inR_iff.1 he
  obtain ⟨c0, c1⟩ := horZ_bd a0 a1
  obtain ⟨d0, d1⟩ := horZ_bd b0 b1
  go_enter Try.func36, Try.ntmps36
  go_wp2_with (first
    | (go_at_call 62; refine (l09Height_c _ _).mono ?_; rintro e w' ⟨rfl, rfl⟩)
    | (go_at_call 63; refine (l09Horizon_c _ (by assumption) (by assumption) _).mono ?_; rintro e w' ⟨rfl, rfl⟩))
  go_ret2
  exact ⟨rfl, rfl⟩
set_option maxHeartbeats 1000000 in
theorem implGeo_1 (h e : Int) (hh : inR h 0 3000 = false) (w : World) :
    Calls Try.prog 37 #[.int .i64 h, .int .i64 e] w fun r w' => r = .returned (.tuple #[.int .i64 0, .int .i64 2]) ∧ w = w' := by
  go_enter Try.func37, Try.ntmps37
  go_wp2_with (go_at_call 64; refine (isHeight_c _ _).mono ?_; rintro e w' ⟨rfl, rfl⟩)
  go_ret2
  exact ⟨rfl, rfl⟩
set_option maxHeartbeats 1000000 in
theorem implGeo_2 (h e : Int) (hh : inR h 0 3000 = true) (he : inR e 0 3000 = false) (w : World) :
    Calls Try.prog 37 #[.int .i64 h, .int .i64 e] w fun r w' => r = .returned (.tuple #[.int .i64 0, .int .i64 2]) ∧ w = w' := by
  go_enter Try.func37, Try.ntmps37
  go_wp2_with (go_at_call 64; refine (isHeight_c _ _).mono ?_; rintro e w' ⟨rfl, rfl⟩)
  go_ret2
  exact ⟨rfl, rfl⟩
set_option maxHeartbeats 1000000 in
theorem implGeo_3 (h e : Int) (hh : inR h 0 3000 = true) (he : inR e 0 3000 = true) (w : World) :
    Calls Try.prog 37 #[.int .i64 h, .int .i64 e] w fun r w' => r = .returned (.tuple #[.int .i64 (horZ h + horZ e), .int .i64 0]) ∧ w = w' := by
  obtain ⟨a0, a1⟩ := inR_iff.1 hh
  obtain ⟨b0, b1⟩ := inR_iff.1 he
  obtain ⟨c0, c1⟩ := horZ_bd a0 a1
  obtain ⟨d0, d1⟩ := horZ_bd b0 b1
  go_enter Try.func37, Try.ntmps37
  go_wp2_with (first
    | (go_at_call 64; refine (isHeight_c _ _).mono ?_; rintro e w' ⟨rfl, rfl⟩)
    | (go_at_call 65; refine (horizon_c _ (by assumption) (by assumption) _).mono ?_; rintro e w' ⟨rfl, rfl⟩))
  go_ret2
  exact ⟨rfl, rfl⟩
end Go.Proofs.Ytnbnkabooggoiaa
