/- The least loudness, and how far a loudness is heard: contracts of the exported functions. -/
import Derived.Test.YtffdipcogkhkmaaSound
namespace Go.Proofs.Ytffdipcogkhkmaa
open Go.RowKit
set_option linter.unusedVariables false
set_option maxHeartbeats 1000000 in
theorem isWind_c (n : Int) (w : World) :
    Calls Try.prog 63 #[.int .i64 n] w fun e w' => e = .returned (.bool (inR n (-3) 3)) ∧ w = w' := by
  go_enter Try.func63, Try.ntmps63
  go_wp2_with (go_at_call 44; refine (within_c _ _ _ _).mono ?_; rintro e w' ⟨rfl, rfl⟩)
  go_ret
  exact ⟨rfl, rfl⟩
set_option maxHeartbeats 1000000 in
theorem l10Wind_c (n : Int) (w : World) :
    Calls Try.prog 60 #[.int .i64 n] w fun e w' => e = .returned (.bool (inR n (-3) 3)) ∧ w = w' := by
  go_enter Try.func60, Try.ntmps60
  go_wp2_with (go_at_call 55; refine (l00In_c _ _ _ _).mono ?_; rintro e w' ⟨rfl, rfl⟩)
  go_ret
  exact ⟨rfl, rfl⟩
set_option maxHeartbeats 1000000 in
theorem implSoundR_bad1 (p v : Int) (ha : inR p 60 140 = false) (w : World) :
    Calls Try.prog 27 #[.int .i64 p, .int .i64 v] w fun e w' => e = .returned (.tuple #[.int .i64 0, .int .i64 2]) ∧ Below w.heap.size w w' := by
  go_enter Try.func27, Try.ntmps27
  go_wp2_with (go_at_call 62; refine (isPower_c _ _).mono ?_; rintro e w' ⟨rfl, rfl⟩)
  go_ret2
  exact ⟨rfl, (by repeat (first | exact Below.refl _ _ | refine Below.alloc ?_ (by simp; try omega) _ | refine Below.drew ?_))⟩
set_option maxHeartbeats 1000000 in
theorem implSoundR_bad2 (p v : Int) (ha : inR p 60 140 = true) (hb : inR v (-3) 3 = false) (w : World) :
    Calls Try.prog 27 #[.int .i64 p, .int .i64 v] w fun e w' => e = .returned (.tuple #[.int .i64 0, .int .i64 2]) ∧ Below w.heap.size w w' := by
  go_enter Try.func27, Try.ntmps27
  go_wp2_with (first
    | (go_at_call 62; refine (isPower_c _ _).mono ?_; rintro e w' ⟨rfl, rfl⟩)
    | (go_at_call 63; refine (isWind_c _ _).mono ?_; rintro e w' ⟨rfl, rfl⟩))
  go_ret2
  exact ⟨rfl, (by repeat (first | exact Below.refl _ _ | refine Below.alloc ?_ (by simp; try omega) _ | refine Below.drew ?_))⟩
set_option maxHeartbeats 1000000 in
theorem implSoundR_yes (p v : Int) (ha : inR p 60 140 = true) (hb : inR v (-3) 3 = true) (w : World) :
    Calls Try.prog 27 #[.int .i64 p, .int .i64 v] w fun e w' => e = .returned (.tuple #[.int .i64 (sndZ p v), .int .i64 0]) ∧ Below w.heap.size w w' := by
  obtain ⟨p0, p1⟩ := inR_iff.1 ha
  obtain ⟨v0, v1⟩ := inR_iff.1 hb
  go_enter Try.func27, Try.ntmps27
  go_wp2_with (first
    | (go_at_call 62; refine (isPower_c _ _).mono ?_; rintro e w' ⟨rfl, rfl⟩)
    | (go_at_call 63; refine (isWind_c _ _).mono ?_; rintro e w' ⟨rfl, rfl⟩)
    | (go_at_call 64; refine (soundRange_c p v p0 p1 v0 v1 _).mono ?_; rintro e w' ⟨rfl, hb1⟩))
  go_ret2
  exact ⟨rfl, by assumption⟩
set_option maxHeartbeats 1000000 in
theorem specSoundR_bad1 (p v : Int) (ha : inR p 60 140 = false) (w : World) :
    Calls Try.prog 26 #[.int .i64 p, .int .i64 v] w fun e w' => e = .returned (.tuple #[.int .i64 0, .int .i64 2]) ∧ Below w.heap.size w w' := by
  go_enter Try.func26, Try.ntmps26
  go_wp2_with (go_at_call 55; refine (l00In_c _ _ _ _).mono ?_; rintro e w' ⟨rfl, rfl⟩)
  go_ret2
  exact ⟨rfl, (by repeat (first | exact Below.refl _ _ | refine Below.alloc ?_ (by simp; try omega) _ | refine Below.drew ?_))⟩
set_option maxHeartbeats 1000000 in
theorem specSoundR_bad2 (p v : Int) (ha : inR p 60 140 = true) (hb : inR v (-3) 3 = false) (w : World) :
    Calls Try.prog 26 #[.int .i64 p, .int .i64 v] w fun e w' => e = .returned (.tuple #[.int .i64 0, .int .i64 2]) ∧ Below w.heap.size w w' := by
  go_enter Try.func26, Try.ntmps26
  go_wp2_with (first
    | (go_at_call 55; refine (l00In_c _ _ _ _).mono ?_; rintro e w' ⟨rfl, rfl⟩)
    | (go_at_call 60; refine (l10Wind_c _ _).mono ?_; rintro e w' ⟨rfl, rfl⟩))
  go_ret2
  exact ⟨rfl, (by repeat (first | exact Below.refl _ _ | refine Below.alloc ?_ (by simp; try omega) _ | refine Below.drew ?_))⟩
set_option maxHeartbeats 1000000 in
theorem specSoundR_yes (p v : Int) (ha : inR p 60 140 = true) (hb : inR v (-3) 3 = true) (w : World) :
    Calls Try.prog 26 #[.int .i64 p, .int .i64 v] w fun e w' => e = .returned (.tuple #[.int .i64 (sndZ p v), .int .i64 0]) ∧ Below w.heap.size w w' := by
  obtain ⟨p0, p1⟩ := inR_iff.1 ha
  obtain ⟨v0, v1⟩ := inR_iff.1 hb
  go_enter Try.func26, Try.ntmps26
  go_wp2_with (first
    | (go_at_call 55; refine (l00In_c _ _ _ _).mono ?_; rintro e w' ⟨rfl, rfl⟩)
    | (go_at_call 60; refine (l10Wind_c _ _).mono ?_; rintro e w' ⟨rfl, rfl⟩)
    | (go_at_call 61; refine (l10Range_c p v p0 p1 v0 v1 _).mono ?_; rintro e w' ⟨rfl, hb1⟩))
  go_ret2
  exact ⟨rfl, by assumption⟩
set_option maxHeartbeats 1000000 in
theorem power1_c (d v n : Int) (v0 : -3 ≤ v) (v1 : v ≤ 3) (n0 : 60 ≤ n) (n1 : n ≤ 140) (g1 g2 : Nat) (w : World) (hg1 : g1 < w.heap.size) (hg2 : g2 < w.heap.size)
    (c1 : w.cell? ⟨g1, 0, none⟩ = some (.int .i64 v)) (c2 : w.cell? ⟨g2, 0, none⟩ = some (.int .i64 d)) :
    Calls Try.prog 65 #[.int .i64 n, .pointer (some ⟨g1, 0, none⟩), .pointer (some ⟨g2, 0, none⟩)] w fun e w' => e = .returned (.bool (accS d v n)) ∧ Below w.heap.size w w' := by
  have k1 : ∀ x : Aft w, x.w1.cell? ⟨g1, 0, none⟩ = some (.int .i64 v) := fun x => x.cell hg1 c1
  have k2 : ∀ x : Aft w, x.w1.cell? ⟨g2, 0, none⟩ = some (.int .i64 d) := fun x => x.cell hg2 c2
  go_enter Try.func65, Try.ntmps65
  first
    | (go_wp2_with fail
       refine wp_region_aft (by kernel_rfl) (by kernel_rfl) ?_
       repeat (go_big_quiet_step ((go_at_call 64; exact Aft.call (soundRange_c n v n0 n1 v0 v1 _))))
       refine wpQuiet_nil ?_
       intro w1 hb1
       go_wp2
       go_ret
       exact ⟨rfl, hb1⟩)
    | (go_wp2_with (go_at_call 64; refine (Aft.first (soundRange_c n v n0 n1 v0 v1 _)).mono ?_; rintro e _ ⟨rfl, y, rfl⟩)
       go_ret
       exact ⟨rfl, Aft.below _⟩)
theorem power1_enter : ∀ args w, (callFunc 65 args).run Try.prog w = .ok (.enter 65 args) w := Go.Proofs.enters_of Try.func65 (by kernel_rfl) rfl
theorem power1_accepts (d v : Int) (v0 : -3 ≤ v) (v1 : v ≤ 3) (g1 g2 : Nat) (w : World) (hg1 : g1 < w.heap.size) (hg2 : g2 < w.heap.size)
    (c1 : w.cell? ⟨g1, 0, none⟩ = some (.int .i64 v)) (c2 : w.cell? ⟨g2, 0, none⟩ = some (.int .i64 d)) :
    Accepts 65 [.pointer (some ⟨g1, 0, none⟩), .pointer (some ⟨g2, 0, none⟩)] w 60 140 (accS d v) :=
  fun n x n0 n1 => Aft.call (power1_c d v n v0 v1 n0 n1 g1 g2 x.w1 (x.lt hg1) (x.lt hg2) (x.cell hg1 c1) (x.cell hg2 c2))
set_option maxHeartbeats 1000000 in
theorem implPower_bad1 (d v : Int) (ha : inR d 0 300000 = false) (w : World) :
    Calls Try.prog 29 #[.int .i64 d, .int .i64 v] w fun e w' => e = .returned (.tuple #[.int .i64 0, .int .i64 2]) ∧ Below w.heap.size w w' := by
  go_enter Try.func29, Try.ntmps29
  go_wp2_with (go_at_call 44; refine (within_c _ _ _ _).mono ?_; rintro e w' ⟨rfl, rfl⟩)
  go_ret2
  exact ⟨rfl, (by repeat (first | exact Below.refl _ _ | refine Below.alloc ?_ (by simp; try omega) _ | refine Below.drew ?_))⟩
set_option maxHeartbeats 1000000 in
theorem implPower_bad2 (d v : Int) (ha : inR d 0 300000 = true) (hb : inR v (-3) 3 = false) (w : World) :
    Calls Try.prog 29 #[.int .i64 d, .int .i64 v] w fun e w' => e = .returned (.tuple #[.int .i64 0, .int .i64 2]) ∧ Below w.heap.size w w' := by
  go_enter Try.func29, Try.ntmps29
  go_wp2_with (first
    | (go_at_call 44; refine (within_c _ _ _ _).mono ?_; rintro e w' ⟨rfl, rfl⟩)
    | (go_at_call 63; refine (isWind_c _ _).mono ?_; rintro e w' ⟨rfl, rfl⟩))
  go_ret2
  exact ⟨rfl, (by repeat (first | exact Below.refl _ _ | refine Below.alloc ?_ (by simp; try omega) _ | refine Below.drew ?_))⟩
set_option maxHeartbeats 1000000 in
theorem implPower_some (d v : Int) (ha : inR d 0 300000 = true) (hb : inR v (-3) 3 = true) (hx : accS d v 140 = true) (r : Int) (r0 : 60 ≤ r) (hr : IsLeast (accS d v) 60 r) (w : World) :
    Calls Try.prog 29 #[.int .i64 d, .int .i64 v] w fun e w' => e = .returned (.tuple #[.int .i64 r, .int .i64 0]) ∧ Below w.heap.size w w' := by
  have hmf : ∀ (fn : Fn) (first cap : Array Value) (w : World), (Instr.makeFunc fn first cap).run Try.prog w = .ok (.func fn first cap) w := fun _ _ _ _ => rfl
  obtain ⟨v0, v1⟩ := inR_iff.1 hb
  have HX := Lib.hid hx
  have HR := Lib.hid hr
  clear hx hr
  go_enter Try.func29, Try.ntmps29
  go_wp2_with (first
    | (go_at_call 44; refine (within_c _ _ _ _).mono ?_; rintro e w' ⟨rfl, rfl⟩)
    | (go_at_call 63; refine (isWind_c _ _).mono ?_; rintro e w' ⟨rfl, rfl⟩))
  refine (leastOf_some 65 [.pointer (some ⟨w.heap.size + 1, 0, none⟩), .pointer (some ⟨w.heap.size, 0, none⟩)] 60 140 (accS d v) (by omega) (by omega) (by omega) _ power1_enter
    (power1_accepts d v v0 v1 _ _ _ (by simp) (by simp; omega) (cell_two2 _ _ _ _ _) (cell_two1 _ _ _ _ _)) HX.out (accS_mono v0) r r0 HR.out ⟨_, Below.refl _ _⟩).mono ?_
  rintro e _ ⟨rfl, y, rfl⟩
  go_wp2
  go_ret2
  exact ⟨rfl, below_box (below_box y.below)⟩
set_option maxHeartbeats 1000000 in
theorem implPower_none (d v : Int) (ha : inR d 0 300000 = true) (hb : inR v (-3) 3 = true) (hx : accS d v 140 = false) (w : World) :
    Calls Try.prog 29 #[.int .i64 d, .int .i64 v] w fun e w' => e = .returned (.tuple #[.int .i64 0, .int .i64 3]) ∧ Below w.heap.size w w' := by
  have hmf : ∀ (fn : Fn) (first cap : Array Value) (w : World), (Instr.makeFunc fn first cap).run Try.prog w = .ok (.func fn first cap) w := fun _ _ _ _ => rfl
  obtain ⟨v0, v1⟩ := inR_iff.1 hb
  have HX := Lib.hid hx
  clear hx
  go_enter Try.func29, Try.ntmps29
  go_wp2_with (first
    | (go_at_call 44; refine (within_c _ _ _ _).mono ?_; rintro e w' ⟨rfl, rfl⟩)
    | (go_at_call 63; refine (isWind_c _ _).mono ?_; rintro e w' ⟨rfl, rfl⟩))
  refine (leastOf_none 65 [.pointer (some ⟨w.heap.size + 1, 0, none⟩), .pointer (some ⟨w.heap.size, 0, none⟩)] 60 140 (accS d v) (by omega) (by omega) (by omega) _ power1_enter
    (power1_accepts d v v0 v1 _ _ _ (by simp) (by simp; omega) (cell_two2 _ _ _ _ _) (cell_two1 _ _ _ _ _)) HX.out ⟨_, Below.refl _ _⟩).mono ?_
  rintro e _ ⟨rfl, y, rfl⟩
  go_wp2
  go_ret2
  exact ⟨rfl, below_box (below_box y.below)⟩
set_option maxHeartbeats 1000000 in
theorem specPower_bad1 (d v : Int) (ha : inR d 0 300000 = false) (w : World) :
    Calls Try.prog 28 #[.int .i64 d, .int .i64 v] w fun e w' => e = .returned (.tuple #[.int .i64 0, .int .i64 2]) ∧ Below w.heap.size w w' := by
  go_enter Try.func28, Try.ntmps28
  go_wp2_with (go_at_call 55; refine (l00In_c _ _ _ _).mono ?_; rintro e w' ⟨rfl, rfl⟩)
  go_ret2
  exact ⟨rfl, (by repeat (first | exact Below.refl _ _ | refine Below.alloc ?_ (by simp; try omega) _ | refine Below.drew ?_))⟩
set_option maxHeartbeats 1000000 in
theorem specPower_bad2 (d v : Int) (ha : inR d 0 300000 = true) (hb : inR v (-3) 3 = false) (w : World) :
    Calls Try.prog 28 #[.int .i64 d, .int .i64 v] w fun e w' => e = .returned (.tuple #[.int .i64 0, .int .i64 2]) ∧ Below w.heap.size w w' := by
  go_enter Try.func28, Try.ntmps28
  go_wp2_with (first
    | (go_at_call 55; refine (l00In_c _ _ _ _).mono ?_; rintro e w' ⟨rfl, rfl⟩)
    | (go_at_call 60; refine (l10Wind_c _ _).mono ?_; rintro e w' ⟨rfl, rfl⟩))
  go_ret2
  exact ⟨rfl, (by repeat (first | exact Below.refl _ _ | refine Below.alloc ?_ (by simp; try omega) _ | refine Below.drew ?_))⟩
set_option maxHeartbeats 2000000 in
theorem specPower_none (d v : Int) (ha : inR d 0 300000 = true) (hb : inR v (-3) 3 = true) (hx : accS d v 140 = false) (w : World) :
    Calls Try.prog 28 #[.int .i64 d, .int .i64 v] w fun e w' => e = .returned (.tuple #[.int .i64 0, .int .i64 3]) ∧ Below w.heap.size w w' := by
  obtain ⟨v0, v1⟩ := inR_iff.1 hb
  have HX := Lib.hid hx
  clear hx
  go_enter Try.func28, Try.ntmps28
  go_wp2_with (first
    | (go_at_call 55; refine (l00In_c _ _ _ _).mono ?_; rintro e w' ⟨rfl, rfl⟩)
    | (go_at_call 60; refine (l10Wind_c _ _).mono ?_; rintro e w' ⟨rfl, rfl⟩))
  go_loopw [6] (fun a wr => ∃ (k : Int) (x : Aft w), a = .int .i64 k ∧ 60 ≤ k ∧ k ≤ 141 ∧ wr = x.w1) (fun a _ => (141 - intOf a).toNat)
  case atStart => exact ⟨60, ⟨w, Below.refl _ _⟩, rfl, by omega, by omega, rfl⟩
  case round =>
    obtain ⟨k, x, rfl, k0, k1, rfl⟩ := hrel
    by_cases hk : k ≤ 140
    · have hf : accS d v k = false := by
        cases hv : accS d v k
        · rfl
        · have := accS_mono v0 k 140 k0 hk (Int.le_refl _) hv
          rw [HX.out] at this; cases this
      have hf' : sndZ k v < d := by simpa [accS] using hf
      clear hf
      go_wp2_with (go_at_call 61; refine (Aft.call (l10Range_c k v k0 hk v0 v1 _)).mono ?_; rintro e _ ⟨rfl, y, rfl⟩)
      go_roundw
      case rel => exact ⟨k + 1, _, rfl, by omega, by omega, rfl⟩
      case measure => simp [intOf]; omega
    · go_wp2
      go_ret2
      exact ⟨rfl, x.below⟩
set_option maxHeartbeats 2000000 in
theorem specPower_some (d v : Int) (ha : inR d 0 300000 = true) (hb : inR v (-3) 3 = true) (r : Int) (r0 : 60 ≤ r) (r1 : r ≤ 140) (hr : IsLeast (accS d v) 60 r) (w : World) :
    Calls Try.prog 28 #[.int .i64 d, .int .i64 v] w fun e w' => e = .returned (.tuple #[.int .i64 r, .int .i64 0]) ∧ Below w.heap.size w w' := by
  obtain ⟨v0, v1⟩ := inR_iff.1 hb
  have HR := Lib.hid hr
  clear hr
  go_enter Try.func28, Try.ntmps28
  go_wp2_with (first
    | (go_at_call 55; refine (l00In_c _ _ _ _).mono ?_; rintro e w' ⟨rfl, rfl⟩)
    | (go_at_call 60; refine (l10Wind_c _ _).mono ?_; rintro e w' ⟨rfl, rfl⟩))
  go_loopw [6] (fun a wr => ∃ (k : Int) (x : Aft w), a = .int .i64 k ∧ 60 ≤ k ∧ k ≤ r ∧ wr = x.w1) (fun a _ => (141 - intOf a).toNat)
  case atStart => exact ⟨60, ⟨w, Below.refl _ _⟩, rfl, by omega, by omega, rfl⟩
  case round =>
    obtain ⟨k, x, rfl, k0, k1, rfl⟩ := hrel
    by_cases hk : k < r
    · have hf' : sndZ k v < d := by simpa [accS] using HR.out.2 k k0 hk
      go_wp2_with (go_at_call 61; refine (Aft.call (l10Range_c k v k0 (by omega) v0 v1 _)).mono ?_; rintro e _ ⟨rfl, y, rfl⟩)
      go_roundw
      case rel => exact ⟨k + 1, _, rfl, by omega, by omega, rfl⟩
      case measure => simp [intOf]; omega
    · obtain rfl : k = r := by omega
      have hf' : d ≤ sndZ k v := by simpa [accS] using HR.out.1
      go_wp2_with (go_at_call 61; refine (Aft.call (l10Range_c k v k0 (by omega) v0 v1 _)).mono ?_; rintro e _ ⟨rfl, y, rfl⟩)
      go_ret2
      exact ⟨rfl, Aft.below _⟩
end Go.Proofs.Ytffdipcogkhkmaa
