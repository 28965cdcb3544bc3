/- Points and their distance. -/
import Derived.Test.YtimfpnmcdicldaaRoot
import Derived.Test.YtimfpnmcdicldaaR8
import Derived.Test.YtimfpnmcdicldaaFog
namespace Go.Proofs.Ytimfpnmcdicldaa
open Go.RowKit
set_option linter.unusedVariables false
/-- A point is valid. -/
def okP (x y : Int) : Bool := inR x 0 200000 && inR y 0 200000
theorem okP_yes {x y : Int} (h : okP x y = true) : (0 ≤ x ∧ x ≤ 200000) ∧ (0 ≤ y ∧ y ≤ 200000) := by
  simpa [okP, inR] using h
def sqd (a b c d : Int) : Int := (a - c) * (a - c) + (b - d) * (b - d)
theorem sq_bd {t : Int} (h0 : -1000000 ≤ t) (h1 : t ≤ 1000000) : 0 ≤ t * t ∧ t * t ≤ 1000000000000 := by
  constructor
  · rcases Int.le_total 0 t with h | h
    · exact Int.mul_nonneg h h
    · exact Int.mul_nonneg_of_nonpos_of_nonpos h h
  · rcases Int.le_total 0 t with h | h
    · have := Int.mul_le_mul h1 h1 h (by omega)
      omega
    · have h2 : -t ≤ 1000000 := by omega
      have := Int.mul_le_mul h2 h2 (by omega) (by omega)
      rw [Int.neg_mul_neg] at this
      omega
set_option maxHeartbeats 1000000 in
theorem l02Ok_c (x y : Int) (v : Bool) (hv : okP x y = v) (w : World) :
    Calls Try.prog 52 #[.agg #[.int .i64 x, .int .i64 y]] w fun e w' => e = .returned (.bool v) ∧ Below w.heap.size w w' := by
  subst hv
  unfold okP
  cases h : inR x 0 200000
  all_goals
    go_enter Try.func52, Try.ntmps52
    go_wp2_with (go_at_call 43; refine (l00In_c _ _ _ _).mono ?_; rintro e w' ⟨rfl, rfl⟩)
    go_ret
    exact ⟨ret_bool (by simp), (by repeat (first | exact Below.refl _ _ | refine Below.alloc ?_ (by simp; try omega) _ | refine Below.drew ?_))⟩
set_option maxHeartbeats 1000000 in
theorem validPoint_c (x y : Int) (v : Bool) (hv : okP x y = v) (w : World) :
    Calls Try.prog 54 #[.agg #[.int .i64 x, .int .i64 y]] w fun e w' => e = .returned (.bool v) ∧ Below w.heap.size w w' := by
  subst hv
  unfold okP
  cases h : inR x 0 200000
  all_goals
    go_enter Try.func54, Try.ntmps54
    go_wp2_with (go_at_call 48; refine (within_c _ _ _ _).mono ?_; rintro e w' ⟨rfl, rfl⟩)
    go_ret
    exact ⟨ret_bool (by simp), (by repeat (first | exact Below.refl _ _ | refine Below.alloc ?_ (by simp; try omega) _ | refine Below.drew ?_))⟩
set_option maxHeartbeats 1000000 in
theorem l02Square_c (a b c d : Int) (h1 : okP a b = true) (h2 : okP c d = true) (w : World) :
    Calls Try.prog 104 #[.agg #[.int .i64 a, .int .i64 b], .agg #[.int .i64 c, .int .i64 d]] w fun e w' => e = .returned (.int .i64 (sqd a b c d)) ∧ Below w.heap.size w w' := by
  obtain ⟨⟨a0, a1⟩, b0, b1⟩ := okP_yes h1
  obtain ⟨⟨c0, c1⟩, d0, d1⟩ := okP_yes h2
  have q1 := sq_bd (t := a - c) (by omega) (by omega)
  have q2 := sq_bd (t := b - d) (by omega) (by omega)
  unfold sqd
  clear h1 h2
  go_enter Try.func104, Try.ntmps104
  go_wp2
  go_ret
  exact ⟨rfl, (by repeat (first | exact Below.refl _ _ | refine Below.alloc ?_ (by simp; try omega) _ | refine Below.drew ?_))⟩
set_option maxHeartbeats 1000000 in
theorem squared_c (a b c d : Int) (h1 : okP a b = true) (h2 : okP c d = true) (w : World) :
    Calls Try.prog 109 #[.agg #[.int .i64 a, .int .i64 b], .agg #[.int .i64 c, .int .i64 d]] w fun e w' => e = .returned (.int .i64 (sqd a b c d)) ∧ Below w.heap.size w w' := by
  obtain ⟨⟨a0, a1⟩, b0, b1⟩ := okP_yes h1
  obtain ⟨⟨c0, c1⟩, d0, d1⟩ := okP_yes h2
  have q1 := sq_bd (t := a - c) (by omega) (by omega)
  have q2 := sq_bd (t := b - d) (by omega) (by omega)
  unfold sqd
  clear h1 h2
  go_enter Try.func109, Try.ntmps109
  go_wp2
  go_ret
  exact ⟨rfl, (by repeat (first | exact Below.refl _ _ | refine Below.alloc ?_ (by simp; try omega) _ | refine Below.drew ?_))⟩
theorem sqd_bd {a b c d : Int} (h1 : okP a b = true) (h2 : okP c d = true) : 0 ≤ sqd a b c d ∧ sqd a b c d ≤ 2000000000000 := by
  obtain ⟨⟨a0, a1⟩, b0, b1⟩ := okP_yes h1
  obtain ⟨⟨c0, c1⟩, d0, d1⟩ := okP_yes h2
  have q1 := sq_bd (t := a - c) (by omega) (by omega)
  have q2 := sq_bd (t := b - d) (by omega) (by omega)
  unfold sqd
  omega
set_option maxHeartbeats 1000000 in
theorem l02Apart_c (a b c d : Int) (h1 : okP a b = true) (h2 : okP c d = true) (w : World) :
    Calls Try.prog 79 #[.agg #[.int .i64 a, .int .i64 b], .agg #[.int .i64 c, .int .i64 d]] w fun e w' => e = .returned (.int .i64 (rootI (sqd a b c d))) ∧ Below w.heap.size w w' := by
  have hb := sqd_bd h1 h2
  have HS := Lib.hid (fun W => l02Square_c a b c d h1 h2 W)
  have HR := Lib.hid (fun W => specRoot_calls (sqd a b c d) (by omega) (by omega) W)
  generalize sqd a b c d = q at *
  clear h1 h2
  go_enter Try.func79, Try.ntmps79
  go_wp2_with (first
    | (go_at_call 104; refine (Aft.first (HS.out _)).mono ?_; rintro e _ ⟨rfl, y, rfl⟩)
    | (go_at_call 103; refine (Aft.same (HR.out _)).mono ?_; rintro e _ ⟨rfl, y, rfl⟩))
  go_ret
  exact ⟨rfl, below_box (below_box (Aft.below _))⟩
set_option maxHeartbeats 2000000 in
theorem arePoints_c (g cap : Nat) (a b c d : Int) (v : Bool) (hv : (okP a b && okP c d) = v) (w : World)
    (c0 : w.cell? ⟨g, 0, none⟩ = some (.int .i64 a)) (c1 : w.cell? ⟨g, 1, none⟩ = some (.int .i64 b)) (c2 : w.cell? ⟨g, 2, none⟩ = some (.int .i64 c)) (c3 : w.cell? ⟨g, 3, none⟩ = some (.int .i64 d)) :
    Calls Try.prog 62 #[.slice (some ⟨g, 0, none⟩) 2 cap] w fun e w' => e = .returned (.bool v) ∧ Below w.heap.size w w' := by
  have hg : g < w.heap.size := cell_lt c0
  have k0 : ∀ x : Aft w, x.w1.cell? ⟨g, 0, none⟩ = some (.int .i64 a) := fun x => x.cell hg c0
  have k1 : ∀ x : Aft w, x.w1.cell? ⟨g, 1, none⟩ = some (.int .i64 b) := fun x => x.cell hg c1
  have k2 : ∀ x : Aft w, x.w1.cell? ⟨g, 2, none⟩ = some (.int .i64 c) := fun x => x.cell hg c2
  have k3 : ∀ x : Aft w, x.w1.cell? ⟨g, 3, none⟩ = some (.int .i64 d) := fun x => x.cell hg c3
  clear c0 c1 c2 c3
  go_enter Try.func62, Try.ntmps62
  go_wp2
  go_loopw [7] (fun i wr => ∃ x : Aft w, wr = x.w1 ∧ (i = .int .i64 0 ∨ (i = .int .i64 1 ∧ okP a b = true) ∨ (i = .int .i64 2 ∧ okP a b = true ∧ okP c d = true))) (fun i _ => 2 - (intOf i).toNat)
  case atStart => exact ⟨⟨w, Below.refl _ _⟩, rfl, .inl rfl⟩
  case round =>
    obtain ⟨x, rfl, rfl | ⟨rfl, h1⟩ | ⟨rfl, h1, h2⟩⟩ := hrel
    · cases h1 : okP a b
      · go_wp2_with (go_at_call 54; refine (validPoint_c a b _ h1 _).mono ?_; rintro e w2 ⟨rfl, hb2⟩)
        go_ret
        exact ⟨ret_bool (by rw [← hv, h1]; rfl), held_next x.below (below_box hb2)⟩
      · go_wp2_with (go_at_call 54; refine (validPoint_c a b _ h1 _).mono ?_; rintro e w2 ⟨rfl, hb2⟩)
        go_roundw
        case rel => exact ⟨⟨_, held_next x.below (below_box hb2)⟩, rfl, .inr (.inl ⟨rfl, by first | trivial | exact h1⟩)⟩
        case measure => simp [intOf]
    · cases h2 : okP c d
      · go_wp2_with (go_at_call 54; refine (validPoint_c c d _ h2 _).mono ?_; rintro e w2 ⟨rfl, hb2⟩)
        go_ret
        exact ⟨ret_bool (by rw [← hv, h1, h2]; rfl), held_next x.below (below_box hb2)⟩
      · go_wp2_with (go_at_call 54; refine (validPoint_c c d _ h2 _).mono ?_; rintro e w2 ⟨rfl, hb2⟩)
        go_roundw
        case rel => exact ⟨⟨_, held_next x.below (below_box hb2)⟩, rfl, .inr (.inr ⟨rfl, h1, by first | trivial | exact h2⟩)⟩
        case measure => simp [intOf]
    · go_wp2
      go_ret
      exact ⟨ret_bool (by rw [← hv, h1, h2]; rfl), Aft.below _⟩
set_option maxHeartbeats 2000000 in
theorem distance_c (a b c d : Int) (h1 : okP a b = true) (h2 : okP c d = true) (w : World) :
    Calls Try.prog 83 #[.agg #[.int .i64 a, .int .i64 b], .agg #[.int .i64 c, .int .i64 d]] w fun e w' => e = .returned (.int .i64 (rootI (sqd a b c d))) ∧ Below w.heap.size w w' := by
  have hb := sqd_bd h1 h2
  have HS := Lib.hid (fun W => squared_c a b c d h1 h2 W)
  have HR := Lib.hid (fun W => implRoot_calls (sqd a b c d) (by omega) (by omega) W)
  generalize sqd a b c d = q at *
  have HP := Lib.hid (show (okP a b && okP c d) = true by rw [h1, h2]; rfl)
  clear h1 h2
  have k0 : ∀ y : Aft (((w.alloc (.cells #[.int .i64 a, .int .i64 b] 27)).alloc (.cells #[.int .i64 c, .int .i64 d] 27)).alloc (.cells #[.int .i64 a, .int .i64 b, .int .i64 c, .int .i64 d] 27)), y.w1.cell? ⟨w.heap.size, 0, none⟩ = some (.int .i64 a) := fun y => y.cell (by simp; try omega) (by simp [go_sem])
  have k1 : ∀ y : Aft (((w.alloc (.cells #[.int .i64 a, .int .i64 b] 27)).alloc (.cells #[.int .i64 c, .int .i64 d] 27)).alloc (.cells #[.int .i64 a, .int .i64 b, .int .i64 c, .int .i64 d] 27)), y.w1.cell? ⟨w.heap.size, 1, none⟩ = some (.int .i64 b) := fun y => y.cell (by simp; try omega) (by simp [go_sem])
  have k2 : ∀ y : Aft (((w.alloc (.cells #[.int .i64 a, .int .i64 b] 27)).alloc (.cells #[.int .i64 c, .int .i64 d] 27)).alloc (.cells #[.int .i64 a, .int .i64 b, .int .i64 c, .int .i64 d] 27)), y.w1.cell? ⟨w.heap.size + 1, 0, none⟩ = some (.int .i64 c) := fun y => y.cell (by simp; try omega) (by simp [go_sem])
  have k3 : ∀ y : Aft (((w.alloc (.cells #[.int .i64 a, .int .i64 b] 27)).alloc (.cells #[.int .i64 c, .int .i64 d] 27)).alloc (.cells #[.int .i64 a, .int .i64 b, .int .i64 c, .int .i64 d] 27)), y.w1.cell? ⟨w.heap.size + 1, 1, none⟩ = some (.int .i64 d) := fun y => y.cell (by simp; try omega) (by simp [go_sem])
  go_enter Try.func83, Try.ntmps83
  go_wp2_with (first
    | (go_at_call 62; refine (Aft.first (arePoints_c _ _ a b c d _ HP.out _ (by simp [go_sem]) (by simp [go_sem]) (by simp [go_sem]) (by simp [go_sem]))).mono ?_; rintro e _ ⟨rfl, y, rfl⟩)
    | (go_at_call 109; refine (Aft.call (HS.out _)).mono ?_; rintro e _ ⟨rfl, y, rfl⟩)
    | (go_at_call 108; refine (Aft.same (HR.out _)).mono ?_; rintro e _ ⟨rfl, y, rfl⟩))
  go_ret
  exact ⟨rfl, below_box (below_box (below_box (Aft.below _)))⟩
end Go.Proofs.Ytimfpnmcdicldaa
