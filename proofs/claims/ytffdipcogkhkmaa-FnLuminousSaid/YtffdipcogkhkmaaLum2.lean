/- Ranges: contracts of the exported functions of the program and of the reference. -/
import Derived.Test.YtffdipcogkhkmaaFor
namespace Go.Proofs.Ytffdipcogkhkmaa
open Go.RowKit
set_option linter.unusedVariables false
set_option maxHeartbeats 1000000 in
theorem specEye_bad1 (h d : Int) (hh : inR h 0 3000 = false) (w : World) :
    Calls Try.prog 24 #[.int .i64 h, .int .i64 d] w fun e w' => e = .returned (.tuple #[.int .i64 0, .int .i64 2]) ∧ w = w' := by
  go_enter Try.func24, Try.ntmps24
  go_wp2_with (go_at_call 51; refine (l09Height_c _ _).mono ?_; rintro e w' ⟨rfl, rfl⟩)
  go_ret2
  exact ⟨rfl, rfl⟩
set_option maxHeartbeats 1000000 in
theorem specEye_bad2 (h d : Int) (hh : inR h 0 3000 = true) (hd : inR d 1 100000 = false) (w : World) :
    Calls Try.prog 24 #[.int .i64 h, .int .i64 d] w fun e w' => e = .returned (.tuple #[.int .i64 0, .int .i64 2]) ∧ w = w' := by
  go_enter Try.func24, Try.ntmps24
  go_wp2_with (first
    | (go_at_call 51; refine (l09Height_c _ _).mono ?_; rintro e w' ⟨rfl, rfl⟩)
    | (go_at_call 57; refine (l09Distance_c _ _).mono ?_; rintro e w' ⟨rfl, rfl⟩))
  go_ret2
  exact ⟨rfl, rfl⟩
set_option maxHeartbeats 2000000 in
theorem specEye_none (h d : Int) (hh : inR h 0 3000 = true) (hd : inR d 1 100000 = true) (ha : accEye h d 3000 = false) (w : World) :
    Calls Try.prog 24 #[.int .i64 h, .int .i64 d] w fun e w' => e = .returned (.tuple #[.int .i64 0, .int .i64 3]) ∧ w = w' := by
  obtain ⟨h0, h1⟩ := inR_iff.1 hh
  obtain ⟨e0, e1⟩ := horZ_bd h0 h1
  have HA := Lib.hid ha
  clear ha
  go_enter Try.func24, Try.ntmps24
  go_wp2_with (first
    | (go_at_call 51; refine (l09Height_c _ _).mono ?_; rintro e w' ⟨rfl, rfl⟩)
    | (go_at_call 57; refine (l09Distance_c _ _).mono ?_; rintro e w' ⟨rfl, rfl⟩))
  go_loop [6] (fun a => ∃ k : Int, a = .int .i64 k ∧ 0 ≤ k ∧ k ≤ 3001) (fun a => (3001 - intOf a).toNat)
  case atStart => exact ⟨0, rfl, by omega, by omega⟩
  case round =>
    obtain ⟨k, rfl, k0, k1⟩ := hrel
    by_cases hk : k ≤ 3000
    · obtain ⟨f0, f1⟩ := horZ_bd k0 hk
      have hf : decide (d ≤ horZ h + horZ k) = false := by
        cases hv : accEye h d k
        · exact hv
        · have := accEye_mono h d k 3000 k0 hk (Int.le_refl _) hv
          rw [HA.out] at this; cases this
      have hf' : horZ h + horZ k < d := by simpa using hf
      go_wp2_with (go_at_call 52; refine (l09Horizon_c _ (by assumption) (by assumption) _).mono ?_; rintro e w' ⟨rfl, rfl⟩)
      go_round
      case rel => exact ⟨k + 1, rfl, by omega, by omega⟩
      case measure => simp [intOf]; omega
    · go_wp2
      go_ret2
      exact ⟨rfl, rfl⟩
set_option maxHeartbeats 2000000 in
theorem specEye_some (h d : Int) (hh : inR h 0 3000 = true) (hd : inR d 1 100000 = true) (r : Int) (r0 : 0 ≤ r) (r1 : r ≤ 3000) (hr : IsLeast (accEye h d) 0 r) (w : World) :
    Calls Try.prog 24 #[.int .i64 h, .int .i64 d] w fun e w' => e = .returned (.tuple #[.int .i64 r, .int .i64 0]) ∧ w = w' := by
  obtain ⟨h0, h1⟩ := inR_iff.1 hh
  obtain ⟨e0, e1⟩ := horZ_bd h0 h1
  have HR := Lib.hid hr
  clear hr
  go_enter Try.func24, Try.ntmps24
  go_wp2_with (first
    | (go_at_call 51; refine (l09Height_c _ _).mono ?_; rintro e w' ⟨rfl, rfl⟩)
    | (go_at_call 57; refine (l09Distance_c _ _).mono ?_; rintro e w' ⟨rfl, rfl⟩))
  go_loop [6] (fun a => ∃ k : Int, a = .int .i64 k ∧ 0 ≤ k ∧ k ≤ r) (fun a => (3001 - intOf a).toNat)
  case atStart => exact ⟨0, rfl, by omega, by omega⟩
  case round =>
    obtain ⟨k, rfl, k0, k1⟩ := hrel
    obtain ⟨f0, f1⟩ := horZ_bd k0 (by omega)
    by_cases hk : k < r
    · have hf : accEye h d k = false := HR.out.2 k k0 hk
      have hf' : horZ h + horZ k < d := by simpa [accEye] using hf
      clear hf
      go_wp2_with (go_at_call 52; refine (l09Horizon_c _ (by assumption) (by omega) _).mono ?_; rintro e w' ⟨rfl, rfl⟩)
      go_round
      case rel => exact ⟨k + 1, rfl, by omega, by omega⟩
      case measure => simp [intOf]; omega
    · obtain rfl : k = r := by omega
      have hf : d ≤ horZ h + horZ k := by simpa [accEye] using HR.out.1
      go_wp2_with (go_at_call 52; refine (l09Horizon_c _ (by assumption) (by omega) _).mono ?_; rintro e w' ⟨rfl, rfl⟩)
      go_ret2
      exact ⟨rfl, rfl⟩
set_option maxHeartbeats 1000000 in
theorem implTenLog_no (n : Int) (hn : inR n 1 1000000000000 = false) (w : World) :
    Calls Try.prog 18 #[.int .i64 n] w fun e w' => e = .returned (.tuple #[.int .i64 0, .int .i64 2]) ∧ w = w' := by
  go_enter Try.func18, Try.ntmps18
  go_wp2_with (go_at_call 44; refine (within_c _ _ _ _).mono ?_; rintro e w' ⟨rfl, rfl⟩)
  go_ret2
  exact ⟨rfl, rfl⟩
set_option maxHeartbeats 1000000 in
theorem implTenLog_yes (n : Int) (hn : inR n 1 1000000000000 = true) (w : World) :
    Calls Try.prog 18 #[.int .i64 n] w fun e w' => e = .returned (.tuple #[.int .i64 (tenL n), .int .i64 0]) ∧ w = w' := by
  obtain ⟨n0, n1⟩ := inR_iff.1 hn
  go_enter Try.func18, Try.ntmps18
  go_wp2_with (first
    | (go_at_call 44; refine (within_c _ _ _ _).mono ?_; rintro e w' ⟨rfl, rfl⟩)
    | (go_at_call 45; refine (implLog_c _ n0 n1 _).mono ?_; rintro e w' ⟨rfl, rfl⟩))
  go_ret2
  exact ⟨rfl, rfl⟩
set_option maxHeartbeats 1000000 in
theorem specTenLog_no (n : Int) (hn : inR n 1 1000000000000 = false) (w : World) :
    Calls Try.prog 23 #[.int .i64 n] w fun e w' => e = .returned (.tuple #[.int .i64 0, .int .i64 2]) ∧ w = w' := by
  go_enter Try.func23, Try.ntmps23
  go_wp2_with (go_at_call 55; refine (l00In_c _ _ _ _).mono ?_; rintro e w' ⟨rfl, rfl⟩)
  go_ret2
  exact ⟨rfl, rfl⟩
set_option maxHeartbeats 1000000 in
theorem specTenLog_yes (n : Int) (hn : inR n 1 1000000000000 = true) (w : World) :
    Calls Try.prog 23 #[.int .i64 n] w fun e w' => e = .returned (.tuple #[.int .i64 (tenL n), .int .i64 0]) ∧ w = w' := by
  obtain ⟨n0, n1⟩ := inR_iff.1 hn
  go_enter Try.func23, Try.ntmps23
  go_wp2_with (first
    | (go_at_call 55; refine (l00In_c _ _ _ _).mono ?_; rintro e w' ⟨rfl, rfl⟩)
    | (go_at_call 56; refine (specLog_c _ n0 n1 _).mono ?_; rintro e w' ⟨rfl, rfl⟩))
  go_ret2
  exact ⟨rfl, rfl⟩
set_option maxHeartbeats 1000000 in
theorem implLumR_bad1 (i v : Int) (hi : inR i 1 100000000 = false) (w : World) :
    Calls Try.prog 17 #[.int .i64 i, .int .i64 v] w fun e w' => e = .returned (.tuple #[.int .i64 0, .int .i64 2]) ∧ Below w.heap.size w w' := by
  go_enter Try.func17, Try.ntmps17
  go_wp2_with (go_at_call 41; refine (isIntensity_c _ _).mono ?_; rintro e w' ⟨rfl, rfl⟩)
  go_ret2
  exact ⟨rfl, (by repeat (first | exact Below.refl _ _ | refine Below.alloc ?_ (by simp; try omega) _ | refine Below.drew ?_))⟩
set_option maxHeartbeats 1000000 in
theorem implLumR_bad2 (i v : Int) (hi : inR i 1 100000000 = true) (hv : inR v 1 100000 = false) (w : World) :
    Calls Try.prog 17 #[.int .i64 i, .int .i64 v] w fun e w' => e = .returned (.tuple #[.int .i64 0, .int .i64 2]) ∧ Below w.heap.size w w' := by
  go_enter Try.func17, Try.ntmps17
  go_wp2_with (first
    | (go_at_call 41; refine (isIntensity_c _ _).mono ?_; rintro e w' ⟨rfl, rfl⟩)
    | (go_at_call 42; refine (isVisibility_c _ _).mono ?_; rintro e w' ⟨rfl, rfl⟩))
  go_ret2
  exact ⟨rfl, (by repeat (first | exact Below.refl _ _ | refine Below.alloc ?_ (by simp; try omega) _ | refine Below.drew ?_))⟩
set_option maxHeartbeats 1000000 in
theorem implLumR_yes (i v : Int) (hi : inR i 1 100000000 = true) (hv : inR v 1 100000 = true) (r : Int) (hr : Thr (accNot i v) 100000 r) (w : World) :
    Calls Try.prog 17 #[.int .i64 i, .int .i64 v] w fun e w' => e = .returned (.tuple #[.int .i64 (r - 1), .int .i64 0]) ∧ Below w.heap.size w w' := by
  obtain ⟨i0, i1⟩ := inR_iff.1 hi
  obtain ⟨v0, v1⟩ := inR_iff.1 hv
  have HR := Lib.hid hr
  clear hr
  go_enter Try.func17, Try.ntmps17
  go_wp2_with (first
    | (go_at_call 41; refine (isIntensity_c _ _).mono ?_; rintro e w' ⟨rfl, rfl⟩)
    | (go_at_call 42; refine (isVisibility_c _ _).mono ?_; rintro e w' ⟨rfl, rfl⟩)
    | (go_at_call 43; refine (luminous_c i v i0 i1 v0 v1 r HR.out _).mono ?_; rintro e w' ⟨rfl, hb1⟩))
  go_ret2
  exact ⟨rfl, by assumption⟩
set_option maxHeartbeats 1000000 in
theorem specLumR_bad1 (i v : Int) (hi : inR i 1 100000000 = false) (w : World) :
    Calls Try.prog 32 #[.int .i64 i, .int .i64 v] w fun e w' => e = .returned (.tuple #[.int .i64 0, .int .i64 2]) ∧ Below w.heap.size w w' := by
  go_enter Try.func32, Try.ntmps32
  go_wp2_with (go_at_call 68; refine (l09Intensity_c _ _).mono ?_; rintro e w' ⟨rfl, rfl⟩)
  go_ret2
  exact ⟨rfl, (by repeat (first | exact Below.refl _ _ | refine Below.alloc ?_ (by simp; try omega) _ | refine Below.drew ?_))⟩
set_option maxHeartbeats 1000000 in
theorem specLumR_bad2 (i v : Int) (hi : inR i 1 100000000 = true) (hv : inR v 1 100000 = false) (w : World) :
    Calls Try.prog 32 #[.int .i64 i, .int .i64 v] w fun e w' => e = .returned (.tuple #[.int .i64 0, .int .i64 2]) ∧ Below w.heap.size w w' := by
  go_enter Try.func32, Try.ntmps32
  go_wp2_with (first
    | (go_at_call 68; refine (l09Intensity_c _ _).mono ?_; rintro e w' ⟨rfl, rfl⟩)
    | (go_at_call 66; refine (l09Air_c _ _).mono ?_; rintro e w' ⟨rfl, rfl⟩))
  go_ret2
  exact ⟨rfl, (by repeat (first | exact Below.refl _ _ | refine Below.alloc ?_ (by simp; try omega) _ | refine Below.drew ?_))⟩
set_option maxHeartbeats 1000000 in
theorem specLumR_yes (i v : Int) (hi : inR i 1 100000000 = true) (hv : inR v 1 100000 = true) (r : Int) (hr : Thr (accNot i v) 100000 r) (w : World) :
    Calls Try.prog 32 #[.int .i64 i, .int .i64 v] w fun e w' => e = .returned (.tuple #[.int .i64 (r - 1), .int .i64 0]) ∧ Below w.heap.size w w' := by
  obtain ⟨i0, i1⟩ := inR_iff.1 hi
  obtain ⟨v0, v1⟩ := inR_iff.1 hv
  have HR := Lib.hid hr
  clear hr
  go_enter Try.func32, Try.ntmps32
  go_wp2_with (first
    | (go_at_call 68; refine (l09Intensity_c _ _).mono ?_; rintro e w' ⟨rfl, rfl⟩)
    | (go_at_call 66; refine (l09Air_c _ _).mono ?_; rintro e w' ⟨rfl, rfl⟩)
    | (go_at_call 69; refine (specLuminous_c i v i0 i1 v0 v1 r HR.out _).mono ?_; rintro e w' ⟨rfl, hb1⟩))
  go_ret2
  exact ⟨rfl, by assumption⟩
set_option maxHeartbeats 1000000 in
theorem specNom_no (i : Int) (hi : inR i 1 100000000 = false) (w : World) :
    Calls Try.prog 33 #[.int .i64 i] w fun e w' => e = .returned (.tuple #[.int .i64 0, .int .i64 2]) ∧ Below w.heap.size w w' := by
  go_enter Try.func33, Try.ntmps33
  go_wp2_with (go_at_call 68; refine (l09Intensity_c _ _).mono ?_; rintro e w' ⟨rfl, rfl⟩)
  go_ret2
  exact ⟨rfl, (by repeat (first | exact Below.refl _ _ | refine Below.alloc ?_ (by simp; try omega) _ | refine Below.drew ?_))⟩
set_option maxHeartbeats 1000000 in
theorem specNom_yes (i : Int) (hi : inR i 1 100000000 = true) (r : Int) (hr : Thr (accNot i 18520) 100000 r) (w : World) :
    Calls Try.prog 33 #[.int .i64 i] w fun e w' => e = .returned (.tuple #[.int .i64 (r - 1), .int .i64 0]) ∧ Below w.heap.size w w' := by
  obtain ⟨i0, i1⟩ := inR_iff.1 hi
  have HR := Lib.hid hr
  clear hr
  go_enter Try.func33, Try.ntmps33
  go_wp2_with (first
    | (go_at_call 68; refine (l09Intensity_c _ _).mono ?_; rintro e w' ⟨rfl, rfl⟩)
    | (go_at_call 69; refine (specLuminous_c i 18520 i0 i1 (by omega) (by omega) r HR.out _).mono ?_; rintro e w' ⟨rfl, hb1⟩))
  go_ret2
  exact ⟨rfl, by assumption⟩
theorem nomAir : inR 18520 1 100000 = true := by decide
set_option maxHeartbeats 1000000 in
theorem implNom_no (i : Int) (hi : inR i 1 100000000 = false) (w : World) :
    Calls Try.prog 34 #[.int .i64 i] w fun e w' => e = .returned (.tuple #[.int .i64 0, .int .i64 2]) ∧ Below w.heap.size w w' := by
  go_enter Try.func34, Try.ntmps34
  go_wp2_with (go_at_call 17; refine (implLumR_bad1 _ _ hi _).mono ?_; rintro e w' ⟨rfl, hb1⟩)
  go_ret2
  exact ⟨rfl, by assumption⟩
set_option maxHeartbeats 1000000 in
theorem implNom_yes (i : Int) (hi : inR i 1 100000000 = true) (r : Int) (hr : Thr (accNot i 18520) 100000 r) (w : World) :
    Calls Try.prog 34 #[.int .i64 i] w fun e w' => e = .returned (.tuple #[.int .i64 (r - 1), .int .i64 0]) ∧ Below w.heap.size w w' := by
  have HR := Lib.hid hr
  clear hr
  go_enter Try.func34, Try.ntmps34
  go_wp2_with (go_at_call 17; refine (implLumR_yes _ _ hi nomAir r HR.out _).mono ?_; rintro e w' ⟨rfl, hb1⟩)
  go_ret2
  exact ⟨rfl, by assumption⟩
/-- The four conditions of a range. -/
def okRange (i h e v : Int) : Bool := inR i 1 100000000 && inR h 0 3000 && inR e 0 3000 && inR v 1 100000
theorem ret_two {a b : Int} {c : Value} (h : a = b) : Ending.returned (.tuple #[.int .i64 a, c]) = .returned (.tuple #[.int .i64 b, c]) := by rw [h]
set_option maxHeartbeats 2000000 in
theorem implRange_no (i h e v : Int) (hn : okRange i h e v = false) (w : World) :
    Calls Try.prog 22 #[.int .i64 i, .int .i64 h, .int .i64 e, .int .i64 v] w fun e w' => e = .returned (.tuple #[.int .i64 0, .int .i64 2]) ∧ Below w.heap.size w w' := by
  cases c1 : inR i 1 100000000
  all_goals try cases c2 : inR h 0 3000
  all_goals try cases c3 : inR e 0 3000
  all_goals try cases c4 : inR v 1 100000
  all_goals first
    | (exfalso; simp [okRange, c1, c2, c3, c4] at hn; done)
    | (clear hn
       go_enter Try.func22, Try.ntmps22
       go_wp2_with (first
         | (go_at_call 41; refine (isIntensity_c _ _).mono ?_; rintro e w' ⟨rfl, rfl⟩)
         | (go_at_call 53; refine (isHeight_c _ _).mono ?_; rintro e w' ⟨rfl, rfl⟩)
         | (go_at_call 42; refine (isVisibility_c _ _).mono ?_; rintro e w' ⟨rfl, rfl⟩))
       go_ret2
       exact ⟨rfl, (by repeat (first | exact Below.refl _ _ | refine Below.alloc ?_ (by simp; try omega) _ | refine Below.drew ?_))⟩)
set_option maxHeartbeats 2000000 in
theorem implRange_yes (i h e v : Int) (hn : okRange i h e v = true) (r : Int) (hr : Thr (accNot i v) 100000 r) (w : World) :
    Calls Try.prog 22 #[.int .i64 i, .int .i64 h, .int .i64 e, .int .i64 v] w fun z w' => z = .returned (.tuple #[.int .i64 (min (r - 1) (horZ h + horZ e)), .int .i64 0]) ∧ Below w.heap.size w w' := by
  simp only [okRange, Bool.and_eq_true] at hn
  obtain ⟨⟨⟨c1, c2⟩, c3⟩, c4⟩ := hn
  obtain ⟨i0, i1⟩ := inR_iff.1 c1
  obtain ⟨h0, h1⟩ := inR_iff.1 c2
  obtain ⟨e0, e1⟩ := inR_iff.1 c3
  obtain ⟨v0, v1⟩ := inR_iff.1 c4
  obtain ⟨f0, f1⟩ := horZ_bd h0 h1
  obtain ⟨f2, f3⟩ := horZ_bd e0 e1
  have r0 := hr.1
  have r1 := hr.2.1
  have HR := Lib.hid hr
  clear hr
  by_cases hm : r - 1 ≤ horZ h + horZ e
  all_goals
    go_enter Try.func22, Try.ntmps22
    go_wp2_with (first
      | (go_at_call 41; refine (isIntensity_c _ _).mono ?_; rintro e w' ⟨rfl, rfl⟩)
      | (go_at_call 53; refine (isHeight_c _ _).mono ?_; rintro e w' ⟨rfl, rfl⟩)
      | (go_at_call 42; refine (isVisibility_c _ _).mono ?_; rintro e w' ⟨rfl, rfl⟩)
      | (go_at_call 43; refine (luminous_c i v i0 i1 v0 v1 r HR.out _).mono ?_; rintro e w' ⟨rfl, hb1⟩)
      | (go_at_call 59; refine (horizon_c _ (by assumption) (by assumption) _).mono ?_; rintro e w' ⟨rfl, rfl⟩)
      | go_in)
    go_ret2
    exact ⟨ret_two (by omega), by assumption⟩
set_option maxHeartbeats 2000000 in
theorem specRange_no (i h e v : Int) (hn : okRange i h e v = false) (w : World) :
    Calls Try.prog 35 #[.int .i64 i, .int .i64 h, .int .i64 e, .int .i64 v] w fun e w' => e = .returned (.tuple #[.int .i64 0, .int .i64 2]) ∧ Below w.heap.size w w' := by
  cases c1 : inR i 1 100000000
  all_goals try cases c2 : inR h 0 3000
  all_goals try cases c3 : inR e 0 3000
  all_goals try cases c4 : inR v 1 100000
  all_goals first
    | (exfalso; simp [okRange, c1, c2, c3, c4] at hn; done)
    | (clear hn
       go_enter Try.func35, Try.ntmps35
       go_wp2_with (first
         | (go_at_call 68; refine (l09Intensity_c _ _).mono ?_; rintro e w' ⟨rfl, rfl⟩)
         | (go_at_call 51; refine (l09Height_c _ _).mono ?_; rintro e w' ⟨rfl, rfl⟩)
         | (go_at_call 66; refine (l09Air_c _ _).mono ?_; rintro e w' ⟨rfl, rfl⟩))
       go_ret2
       exact ⟨rfl, (by repeat (first | exact Below.refl _ _ | refine Below.alloc ?_ (by simp; try omega) _ | refine Below.drew ?_))⟩)
set_option maxHeartbeats 2000000 in
theorem specRange_yes (i h e v : Int) (hn : okRange i h e v = true) (r : Int) (hr : Thr (accNot i v) 100000 r) (w : World) :
    Calls Try.prog 35 #[.int .i64 i, .int .i64 h, .int .i64 e, .int .i64 v] w fun z w' => z = .returned (.tuple #[.int .i64 (min (r - 1) (horZ h + horZ e)), .int .i64 0]) ∧ Below w.heap.size w w' := by
  simp only [okRange, Bool.and_eq_true] at hn
  obtain ⟨⟨⟨c1, c2⟩, c3⟩, c4⟩ := hn
  obtain ⟨i0, i1⟩ := inR_iff.1 c1
  obtain ⟨h0, h1⟩ := inR_iff.1 c2
  obtain ⟨e0, e1⟩ := inR_iff.1 c3
  obtain ⟨v0, v1⟩ := inR_iff.1 c4
  obtain ⟨f0, f1⟩ := horZ_bd h0 h1
  obtain ⟨f2, f3⟩ := horZ_bd e0 e1
  have r0 := hr.1
  have r1 := hr.2.1
  have HR := Lib.hid hr
  clear hr
  by_cases hm : r - 1 < horZ h + horZ e
  all_goals
    go_enter Try.func35, Try.ntmps35
    go_wp2_with (first
      | (go_at_call 68; refine (l09Intensity_c _ _).mono ?_; rintro e w' ⟨rfl, rfl⟩)
      | (go_at_call 51; refine (l09Height_c _ _).mono ?_; rintro e w' ⟨rfl, rfl⟩)
      | (go_at_call 66; refine (l09Air_c _ _).mono ?_; rintro e w' ⟨rfl, rfl⟩)
      | (go_at_call 69; refine (specLuminous_c i v i0 i1 v0 v1 r HR.out _).mono ?_; rintro e w' ⟨rfl, hb1⟩)
      | (go_at_call 52; refine (l09Horizon_c _ (by assumption) (by assumption) _).mono ?_; rintro e w' ⟨rfl, rfl⟩)
      | go_in)
    go_ret2
    exact ⟨ret_two (by omega), by assumption⟩
end Go.Proofs.Ytffdipcogkhkmaa
