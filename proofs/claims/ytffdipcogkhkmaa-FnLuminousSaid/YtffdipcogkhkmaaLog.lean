/- The logarithm in thousandths: the contracts of the program's and of the reference's function. -/
import Derived.Test.YtffdipcogkhkmaaLogPlain
namespace Go.Proofs.Ytffdipcogkhkmaa
open Go.RowKit
set_option linter.unusedVariables false
def R1 (n r m : Int) : Prop := r + lg m = lg n
theorem R1.up {n r m : Int} (h : R1 n r m) (h1 : 10 ≤ m) (h2 : m ≤ 1000000000000) : R1 n (r + 1) (m / 10) := by
  have := lg_step h1 (by rw [tens20]; omega)
  unfold R1 at *
  omega
theorem R1.bd {n r m : Int} (h : R1 n r m) : r ≤ 20 := by
  have h1 := lg_le n
  have h2 := lg_nonneg m
  unfold R1 at h
  omega
theorem R1.end_ {n r m : Int} (h : R1 n r m) (h1 : m < 10) : r = lg n := by
  have := lg_small h1
  unfold R1 at h
  omega
def R2 (n k x : Int) : Prop := (lg n ≤ 8 ∧ lg n ≤ k ∧ k ≤ 8 ∧ up (8 - k).toNat x = nrm n) ∨ (8 < lg n ∧ k = lg n ∧ x = n)
theorem R2.start (n : Int) : R2 n (lg n) n := by
  by_cases h : lg n ≤ 8
  · exact .inl ⟨h, Int.le_refl _, h, by unfold nrm; rw [if_pos h]⟩
  · exact .inr ⟨by omega, rfl, rfl⟩
theorem R2.bd {n k x : Int} (h : R2 n k x) (h1 : 1 ≤ n) (h2 : n ≤ 1000000000000) (hk : k < 8) (hx : 1 ≤ x) : 10 * x ≤ 999999999 := by
  rcases h with ⟨a, b, c, d⟩ | ⟨a, b, c⟩
  · have hb := nrm_bd h1 h2
    rw [← d, show (8 - k).toNat = (8 - (k + 1)).toNat + 1 by omega] at hb
    have := up_le (8 - (k + 1)).toNat (x * 10) (by omega)
    have hb2 : up (8 - (k + 1)).toNat (x * 10) ≤ 999999999 := hb.2
    omega
  · omega
theorem R2.up {n k x : Int} (h : R2 n k x) (hk : k < 8) : R2 n (k + 1) (x * 10) := by
  rcases h with ⟨a, b, c, d⟩ | ⟨a, b, c⟩
  · refine .inl ⟨a, by omega, by omega, ?_⟩
    rw [show (8 - k).toNat = (8 - (k + 1)).toNat + 1 by omega] at d
    exact d
  · omega
def R3 (n j x : Int) : Prop := (lg n ≤ 8 ∧ j = 8 ∧ x = nrm n) ∨ (8 < lg n ∧ 8 ≤ j ∧ j ≤ lg n ∧ down (lg n - j).toNat x = nrm n)
theorem R2.end_ {n k x : Int} (h : R2 n k x) (hk : ¬ k < 8) : R3 n 8 x := by
  rcases h with ⟨a, b, c, d⟩ | ⟨a, b, c⟩
  · have : k = 8 := by omega
    subst this
    exact .inl ⟨a, rfl, d⟩
  · refine .inr ⟨a, Int.le_refl _, by omega, ?_⟩
    rw [c]
    unfold nrm; rw [if_neg (by omega)]
theorem R3.up {n j x : Int} (h : R3 n j x) (hj : j < lg n) : R3 n (j + 1) (x / 10) := by
  rcases h with ⟨a, b, c⟩ | ⟨a, b, c, d⟩
  · omega
  · refine .inr ⟨a, by omega, by omega, ?_⟩
    rw [show (lg n - j).toNat = (lg n - (j + 1)).toNat + 1 by omega] at d
    exact d
theorem R3.end_ {n j x : Int} (h : R3 n j x) (hj : ¬ j < lg n) : x = nrm n := by
  rcases h with ⟨a, b, c⟩ | ⟨a, b, c, d⟩
  · exact c
  · rw [show (lg n - j).toNat = 0 by omega] at d
    exact d
/-- The reference counts down. -/
def R3' (n j x : Int) : Prop := (lg n ≤ 8 ∧ j = lg n ∧ x = nrm n) ∨ (8 < lg n ∧ 8 ≤ j ∧ j ≤ lg n ∧ down (j - 8).toNat x = nrm n)
theorem R2.end' {n k x : Int} (h : R2 n k x) (hk : ¬ k < 8) : R3' n (lg n) x := by
  rcases h with ⟨a, b, c, d⟩ | ⟨a, b, c⟩
  · have : k = 8 := by omega
    subst this
    exact .inl ⟨a, rfl, d⟩
  · refine .inr ⟨a, by omega, by omega, ?_⟩
    rw [c]
    unfold nrm; rw [if_neg (by omega)]
theorem R3'.up {n j x : Int} (h : R3' n j x) (hj : 8 < j) : R3' n (j - 1) (x / 10) := by
  rcases h with ⟨a, b, c⟩ | ⟨a, b, c, d⟩
  · omega
  · refine .inr ⟨a, by omega, by omega, ?_⟩
    rw [show (j - 8).toNat = (j - 1 - 8).toNat + 1 by omega] at d
    exact d
theorem R3'.end_ {n j x : Int} (h : R3' n j x) (hj : ¬ 8 < j) : x = nrm n := by
  rcases h with ⟨a, b, c⟩ | ⟨a, b, c, d⟩
  · exact c
  · rw [show (j - 8).toNat = 0 by omega] at d
    exact d
def R4 (n : Int) (j : Nat) (r x : Int) : Prop := rnds (3 - j) (r, x) = rnds 3 (lg n, nrm n)
theorem R4.up {n : Int} {j : Nat} {r x y d : Int} (h : R4 n j r x) (hj : j < 3) (hd : (y, d) = digs x 10 (100000000, 0)) : R4 n (j + 1) (10 * r + d) y := by
  unfold R4 at *
  rw [← h, show 3 - j = (3 - (j + 1)) + 1 by omega]
  show _ = rnds (3 - (j + 1)) (rnd (r, x))
  unfold rnd
  rw [← hd]
theorem R4.end_ {n r x : Int} (h : R4 n 3 r x) : r = tenL n := by
  unfold R4 at h
  unfold tenL
  rw [← h]; rfl
def Rb (j : Nat) (r : Int) : Prop := (j = 0 ∧ r ≤ 20) ∨ (j = 1 ∧ r ≤ 209) ∨ (j = 2 ∧ r ≤ 2099) ∨ (j = 3 ∧ r ≤ 20999)
theorem Rb.le {j : Nat} {r : Int} (h : Rb j r) : r ≤ 20999 := by unfold Rb at h; omega
theorem Rb.up {j : Nat} {r d : Int} (h : Rb j r) (hj : j < 3) (hd : d ≤ 9) : Rb (j + 1) (10 * r + d) := by unfold Rb at *; omega
def R5 (x : Int) (i : Nat) (y d : Int) : Prop := digs x (10 - i) (y, d) = digs x 10 (100000000, 0)
theorem R5.yes {x y d : Int} {i : Nat} (h : R5 x i y d) (hi : i < 10) (h1 : 1000000000 ≤ y * x / 100000000) : R5 x (i + 1) (y * x / 100000000 / 10) (d + 1) := by
  unfold R5 at *
  rw [← h, show 10 - i = (10 - (i + 1)) + 1 by omega]
  show _ = digs x (10 - (i + 1)) (stepD x (y, d))
  unfold stepD
  rw [if_pos h1]
theorem R5.no {x y d : Int} {i : Nat} (h : R5 x i y d) (hi : i < 10) (h1 : y * x / 100000000 < 1000000000) : R5 x (i + 1) (y * x / 100000000) d := by
  unfold R5 at *
  rw [← h, show 10 - i = (10 - (i + 1)) + 1 by omega]
  show _ = digs x (10 - (i + 1)) (stepD x (y, d))
  unfold stepD
  rw [if_neg (show ¬ 1000000000 ≤ y * x / 100000000 by omega)]
theorem R5.end_ {x y d : Int} (h : R5 x 10 y d) : (y, d) = digs x 10 (100000000, 0) := h
theorem nine_yes {x y : Int} (hx : NineD x) (hy : NineD y) (h : 1000000000 ≤ y * x / 100000000) : NineD (y * x / 100000000 / 10) := by
  obtain ⟨a, b⟩ := mul_bd hx hy
  generalize y * x = z at *
  exact ⟨by omega, by omega⟩
theorem nine_no {x y : Int} (hx : NineD x) (hy : NineD y) (h : y * x / 100000000 < 1000000000) : NineD (y * x / 100000000) := by
  obtain ⟨a, b⟩ := mul_bd hx hy
  generalize y * x = z at *
  exact ⟨by omega, by omega⟩
set_option maxHeartbeats 4000000 in
theorem implLog_c (n : Int) (h1 : 1 ≤ n) (h2 : n ≤ 1000000000000) (w : World) :
    Calls Try.prog 45 #[.int .i64 n] w fun e w' => e = .returned (.int .i64 (tenL n)) ∧ w = w' := by
  have g0 := lg_nonneg n
  have g1 := lg_le n
  go_enter Try.func45, Try.ntmps45
  go_wp2
  go_loop [3, 5] (fun a b => ∃ r m : Int, a = .int .i64 r ∧ b = .int .i64 m ∧ 0 ≤ r ∧ 1 ≤ m ∧ m ≤ n ∧ R1 n r m) (fun _ b => (intOf b).toNat)
  case atStart => exact ⟨0, n, rfl, rfl, by omega, h1, by omega, by unfold R1; omega⟩
  case round =>
    obtain ⟨r, m, rfl, rfl, r0, m1, m2, hrel⟩ := hrel
    have rb := hrel.bd
    by_cases hm : 10 ≤ m
    · go_wp2
      go_round
      case rel => exact ⟨r + 1, m / 10, rfl, rfl, by omega, by omega, by omega, hrel.up hm (by omega)⟩
      case measure => simp [intOf]; omega
    · obtain rfl : r = lg n := hrel.end_ (by omega)
      clear hrel rb r0
      go_wp2
      go_loop [4, 6] (fun a b => ∃ x k : Int, a = .int .i64 x ∧ b = .int .i64 k ∧ 1 ≤ x ∧ x ≤ 1000000000000 ∧ 0 ≤ k ∧ k ≤ 20 ∧ R2 n k x) (fun _ b => (8 - intOf b).toNat)
      case atStart => exact ⟨n, lg n, rfl, rfl, h1, h2, g0, g1, R2.start n⟩
      case round =>
        obtain ⟨x, k, rfl, rfl, x1, x2, k0, k1, hrel⟩ := hrel
        by_cases hk : k < 8
        · have hb := hrel.bd h1 h2 hk x1
          go_wp2
          go_round
          case rel => exact ⟨x * 10, k + 1, rfl, rfl, by omega, by omega, by omega, by omega, hrel.up hk⟩
          case measure => simp [intOf]; omega
        · have hr3 := hrel.end_ hk
          clear hrel
          go_wp2
          go_loop [4, 7] (fun a b => ∃ x k : Int, a = .int .i64 x ∧ b = .int .i64 k ∧ 0 ≤ x ∧ x ≤ 1000000000000 ∧ 8 ≤ k ∧ k ≤ 20 ∧ R3 n k x) (fun _ b => (lg n - intOf b).toNat)
          case atStart => exact ⟨x, 8, rfl, rfl, by omega, x2, by omega, by omega, hr3⟩
          case round =>
            clear hr3
            obtain ⟨x, k, rfl, rfl, x1, x2, k0, k1, hrel⟩ := hrel
            by_cases hk : k < lg n
            · go_wp2
              go_round
              case rel => exact ⟨x / 10, k + 1, rfl, rfl, by omega, by omega, by omega, by omega, hrel.up hk⟩
              case measure => simp [intOf]; omega
            · obtain rfl : x = nrm n := hrel.end_ hk
              clear hrel x1 x2 m1 m2 hm
              have hnine := nrm_bd h1 h2
              go_wp2
              go_loop [3, 4, 32] (fun a b c => ∃ (r x : Int) (j : Nat), a = .int .i64 r ∧ b = .int .i64 x ∧ c = .int .i64 j ∧ j ≤ 3 ∧ 0 ≤ r ∧ Rb j r ∧ NineD x ∧ R4 n j r x) (fun _ _ c => (3 - intOf c).toNat)
              case atStart => exact ⟨lg n, nrm n, 0, rfl, rfl, rfl, by omega, g0, .inl ⟨rfl, g1⟩, hnine, rfl⟩
              case round =>
                clear hnine
                obtain ⟨r, x, j, rfl, rfl, rfl, j3, r0, hrb, hx, hrel4⟩ := hrel
                have r1 := hrb.le
                by_cases hj : j < 3
                · go_wp2
                  go_loop [8, 9, 34] (fun a b c => ∃ (y d : Int) (i : Nat), a = .int .i64 y ∧ b = .int .i64 d ∧ c = .int .i64 i ∧ i ≤ 10 ∧ 0 ≤ d ∧ d ≤ i ∧ NineD y ∧ R5 x i y d) (fun _ _ c => (10 - intOf c).toNat)
                  case atStart => exact ⟨100000000, 0, 0, rfl, rfl, rfl, by omega, by omega, by omega, nine_one, rfl⟩
                  case round =>
                    obtain ⟨y, d, i, rfl, rfl, rfl, i10, d0, d1, hy, hrel5⟩ := hrel
                    by_cases hi : i < 10
                    · have hm := mul_bd hx hy
                      obtain ⟨m1, m2⟩ := hm
                      go_wp2
                      · have hge : 1000000000 ≤ y * x / 100000000 := by assumption
                        go_round
                        case rel => exact ⟨y * x / 100000000 / 10, d + 1, i + 1, rfl, rfl, by go_num, by omega, by omega, by omega, nine_yes hx hy hge, hrel5.yes hi hge⟩
                        case measure => simp [intOf]; omega
                      · have hlt : y * x / 100000000 < 1000000000 := by assumption
                        go_round
                        case rel => exact ⟨y * x / 100000000, d, i + 1, rfl, rfl, by go_num, by omega, by omega, by omega, nine_no hx hy hlt, hrel5.no hi hlt⟩
                        case measure => simp [intOf]; omega
                    · obtain rfl : i = 10 := by omega
                      have he := hrel5.end_
                      have hn9 := digs_nine hx
                      rw [← he] at hn9
                      obtain ⟨q1, q2, q3⟩ := hn9
                      simp only at q2 q3
                      have q1' : NineD y := q1
                      have HE := Lib.hid he
                      clear he hrel5
                      go_wp2
                      go_round
                      case rel => exact ⟨10 * r + d, y, j + 1, rfl, rfl, by go_num, by omega, by omega, hrb.up hj q3, q1', hrel4.up hj HE.out⟩
                      case measure => simp [intOf]; omega
                · obtain rfl : j = 3 := by omega
                  have he := hrel4.end_
                  have HE := Lib.hid he
                  clear he hrel4
                  go_wp2
                  go_ret
                  exact ⟨ret_int HE.out, rfl⟩
set_option maxHeartbeats 4000000 in
theorem specLog_c (n : Int) (h1 : 1 ≤ n) (h2 : n ≤ 1000000000000) (w : World) :
    Calls Try.prog 56 #[.int .i64 n] w fun e w' => e = .returned (.int .i64 (tenL n)) ∧ w = w' := by
  have g0 := lg_nonneg n
  have g1 := lg_le n
  go_enter Try.func56, Try.ntmps56
  go_wp2
  go_loop [3, 4] (fun a b => ∃ r m : Int, a = .int .i64 r ∧ b = .int .i64 m ∧ 0 ≤ r ∧ 1 ≤ m ∧ m ≤ n ∧ R1 n r m) (fun _ b => (intOf b).toNat)
  case atStart => exact ⟨0, n, rfl, rfl, by omega, h1, by omega, by unfold R1; omega⟩
  case round =>
    obtain ⟨r, m, rfl, rfl, r0, m1, m2, hrel⟩ := hrel
    have rb := hrel.bd
    by_cases hm : 10 ≤ m
    · go_wp2
      go_round
      case rel => exact ⟨r + 1, m / 10, rfl, rfl, by omega, by omega, by omega, hrel.up hm (by omega)⟩
      case measure => simp [intOf]; omega
    · obtain rfl : r = lg n := hrel.end_ (by omega)
      clear hrel rb r0
      go_wp2
      go_loop [5, 6] (fun a b => ∃ x k : Int, a = .int .i64 x ∧ b = .int .i64 k ∧ 1 ≤ x ∧ x ≤ 1000000000000 ∧ 0 ≤ k ∧ k ≤ 20 ∧ R2 n k x) (fun _ b => (8 - intOf b).toNat)
      case atStart => exact ⟨n, lg n, rfl, rfl, h1, h2, g0, g1, R2.start n⟩
      case round =>
        obtain ⟨x, k, rfl, rfl, x1, x2, k0, k1, hrel⟩ := hrel
        by_cases hk : k < 8
        · have hb := hrel.bd h1 h2 hk x1
          go_wp2
          go_round
          case rel => exact ⟨x * 10, k + 1, rfl, rfl, by omega, by omega, by omega, by omega, hrel.up hk⟩
          case measure => simp [intOf]; omega
        · have hr3 := hrel.end' hk
          clear hrel
          go_wp2
          go_loop [5, 7] (fun a b => ∃ x k : Int, a = .int .i64 x ∧ b = .int .i64 k ∧ 0 ≤ x ∧ x ≤ 1000000000000 ∧ 0 ≤ k ∧ k ≤ 20 ∧ R3' n k x) (fun _ b => (intOf b - 8).toNat)
          case atStart => exact ⟨x, lg n, rfl, rfl, by omega, x2, g0, g1, hr3⟩
          case round =>
            clear hr3
            obtain ⟨x, k, rfl, rfl, x1, x2, k0, k1, hrel⟩ := hrel
            by_cases hk : 8 < k
            · go_wp2
              go_round
              case rel => exact ⟨x / 10, k - 1, rfl, rfl, by omega, by omega, by omega, by omega, hrel.up hk⟩
              case measure => simp [intOf]; omega
            · obtain rfl : x = nrm n := hrel.end_ hk
              clear hrel x1 x2 m1 m2 hm
              have hnine := nrm_bd h1 h2
              go_wp2
              go_loop [3, 5, 8] (fun a b c => ∃ (r x : Int) (j : Nat), a = .int .i64 r ∧ b = .int .i64 x ∧ c = .int .i64 j ∧ j ≤ 3 ∧ 0 ≤ r ∧ Rb j r ∧ NineD x ∧ R4 n j r x) (fun _ _ c => (3 - intOf c).toNat)
              case atStart => exact ⟨lg n, nrm n, 0, rfl, rfl, rfl, by omega, g0, .inl ⟨rfl, g1⟩, hnine, rfl⟩
              case round =>
                clear hnine
                obtain ⟨r, x, j, rfl, rfl, rfl, j3, r0, hrb, hx, hrel4⟩ := hrel
                have r1 := hrb.le
                by_cases hj : j < 3
                · go_wp2
                  go_loop [9, 10, 11] (fun a b c => ∃ (y d : Int) (i : Nat), a = .int .i64 y ∧ b = .int .i64 d ∧ c = .int .i64 i ∧ i ≤ 10 ∧ 0 ≤ d ∧ d ≤ i ∧ NineD y ∧ R5 x i y d) (fun _ _ c => (10 - intOf c).toNat)
                  case atStart => exact ⟨100000000, 0, 0, rfl, rfl, rfl, by omega, by omega, by omega, nine_one, rfl⟩
                  case round =>
                    obtain ⟨y, d, i, rfl, rfl, rfl, i10, d0, d1, hy, hrel5⟩ := hrel
                    by_cases hi : i < 10
                    · have hm := mul_bd hx hy
                      obtain ⟨m1, m2⟩ := hm
                      go_wp2
                      · have hge : 1000000000 ≤ y * x / 100000000 := by assumption
                        go_round
                        case rel => exact ⟨y * x / 100000000 / 10, d + 1, i + 1, rfl, rfl, by go_num, by omega, by omega, by omega, nine_yes hx hy hge, hrel5.yes hi hge⟩
                        case measure => simp [intOf]; omega
                      · have hlt : y * x / 100000000 < 1000000000 := by assumption
                        go_round
                        case rel => exact ⟨y * x / 100000000, d, i + 1, rfl, rfl, by go_num, by omega, by omega, by omega, nine_no hx hy hlt, hrel5.no hi hlt⟩
                        case measure => simp [intOf]; omega
                    · obtain rfl : i = 10 := by omega
                      have he := hrel5.end_
                      have hn9 := digs_nine hx
                      rw [← he] at hn9
                      obtain ⟨q1, q2, q3⟩ := hn9
                      simp only at q2 q3
                      have q1' : NineD y := q1
                      have HE := Lib.hid he
                      clear he hrel5
                      go_wp2
                      go_round
                      case rel => exact ⟨10 * r + d, y, j + 1, rfl, rfl, by go_num, by omega, by omega, hrb.up hj q3, q1', hrel4.up hj HE.out⟩
                      case measure => simp [intOf]; omega
                · obtain rfl : j = 3 := by omega
                  have he := hrel4.end_
                  have HE := Lib.hid he
                  clear he hrel4
                  go_wp2
                  go_ret
                  exact ⟨ret_int HE.out, rfl⟩
end Go.Proofs.Ytffdipcogkhkmaa
