/- The length of a channel: the program and the reference. -/
import Derived.Test.YtimfpnmcdicldaaChan
namespace Go.Proofs.Ytimfpnmcdicldaa
open Go Go.RowKit
/-- The length of the first j segments of a line. -/
def lenI (X Y : Nat → Int) : Nat → Int
  | 0 => 0
  | j + 1 => lenI X Y j + rootI (sqd (X j) (Y j) (X (j + 1)) (Y (j + 1)))
theorem rootP_bd {a b c d : Int} (h1 : okP a b = true) (h2 : okP c d = true) : 0 ≤ rootI (sqd a b c d) ∧ rootI (sqd a b c d) ≤ 1500000 := by
  have hb := sqd_bd h1 h2
  exact ⟨(rootI_spec hb.1).1, rootI_le hb.1 (by omega) (by omega)⟩
theorem lenI_bd {X Y : Nat → Int} : ∀ (j : Nat), (∀ i, i < j + 1 → okP (X i) (Y i) = true) → 0 ≤ lenI X Y j ∧ lenI X Y j ≤ 1500000 * j
  | 0, _ => by simp [lenI]
  | j + 1, h => by
    have h1 := lenI_bd j (fun i hi => h i (by omega))
    have h2 := rootP_bd (h j (by omega)) (h (j + 1) (by omega))
    simp only [lenI]
    omega
set_option maxHeartbeats 4000000 in
theorem l13Length_c (A : Option Addr) (n cap : Nat) (X Y : Nat → Int) (w : World) (hn : 1 ≤ n) (hn2 : n ≤ 12) (hok : ∀ i, i < n → okP (X i) (Y i) = true) (hR : Rec 2 w A n (vPoint X Y)) :
    Calls Try.prog 44 #[.slice A n cap] w fun e w' => e = .returned (.int .i64 (lenI X Y (n - 1))) ∧ Below w.heap.size w w' := by
  go_enter Try.func44, Try.ntmps44
  go_wp2
  go_loopw [3, 4] (fun t i wr => ∃ (j : Nat) (x : Aft w), j + 1 ≤ n ∧ i = .int .i64 (j + 1 : Int) ∧ wr = x.w1 ∧ t = .int .i64 (lenI X Y j)) (fun _ i _ => n - (intOf i).toNat)
  case atStart => exact ⟨0, ⟨w, Below.refl _ _⟩, by omega, rfl, rfl, rfl⟩
  case round =>
    obtain ⟨j, x, hk, rfl, rfl, rfl⟩ := hrel
    by_cases hlt : j + 1 < n
    · obtain ⟨b, o, hi⟩ := hR
      obtain ⟨rfl, hc⟩ := hi j (by omega)
      obtain ⟨_, hc2⟩ := hi (j + 1) hlt
      have p0 : w.cell? ⟨b, o + j * 2, none⟩ = some (.int .i64 (X j)) := by simpa [vPoint, Nat.add_assoc] using hc 0 (by omega)
      have p1 : w.cell? ⟨b, o + j * 2 + 1, none⟩ = some (.int .i64 (Y j)) := by simpa [vPoint, Nat.add_assoc] using hc 1 (by omega)
      have p2 : w.cell? ⟨b, o + (j + 1) * 2, none⟩ = some (.int .i64 (X (j + 1))) := by simpa [vPoint, Nat.add_assoc] using hc2 0 (by omega)
      have p3 : w.cell? ⟨b, o + (j + 1) * 2 + 1, none⟩ = some (.int .i64 (Y (j + 1))) := by simpa [vPoint, Nat.add_assoc] using hc2 1 (by omega)
      have m0 : ∀ y : Aft w, y.w1.cell? ⟨b, o + j * 2, none⟩ = some (.int .i64 (X j)) := fun y => y.cell (cell_lt p0) p0
      have m1 : ∀ y : Aft w, y.w1.cell? ⟨b, o + j * 2 + 1, none⟩ = some (.int .i64 (Y j)) := fun y => y.cell (cell_lt p1) p1
      have m2 : ∀ y : Aft w, y.w1.cell? ⟨b, o + (j + 1) * 2, none⟩ = some (.int .i64 (X (j + 1))) := fun y => y.cell (cell_lt p2) p2
      have m3 : ∀ y : Aft w, y.w1.cell? ⟨b, o + (j + 1) * 2 + 1, none⟩ = some (.int .i64 (Y (j + 1))) := fun y => y.cell (cell_lt p3) p3
      have hl := lenI_bd j (fun i hi => hok i (by omega))
      have hq := rootP_bd (hok j (by omega)) (hok (j + 1) hlt)
      have HA := Lib.hid (fun W => l02Apart_c _ _ _ _ (hok j (by omega)) (hok (j + 1) hlt) W)
      have HS := Lib.hid (show lenI X Y (j + 1) = lenI X Y j + rootI (sqd (X j) (Y j) (X (j + 1)) (Y (j + 1))) from rfl)
      generalize rootI (sqd (X j) (Y j) (X (j + 1)) (Y (j + 1))) = q at *
      generalize lenI X Y j = t at *
      obtain ⟨l0, l1⟩ := hl
      obtain ⟨q0, q1⟩ := hq
      have hw : IntKind.i64.wrap (t + q) = t + q := IntWalk.i64_in _ (by omega)
      clear hc hi hc2 p0 p1 p2 p3
      go_wp2
      refine wp_region_aftx x (by kernel_rfl) (by kernel_rfl) ?_
      repeat (go_big_quiet_step ((go_at_call 79; exact Aft.call (HA.out _))))
      refine wpQuiet_nil ?_
      intro z
      go_wp2
      go_roundw
      case rel => exact ⟨j + 1, z, by omega, by go_num, rfl, by rw [HS.out]⟩
      case measure => simp [intOf]; omega
    · obtain rfl : n = j + 1 := by omega
      go_wp2
      go_ret
      exact ⟨ret_int (by simp), x.below⟩
set_option maxHeartbeats 4000000 in
theorem length_c (nm : ByteArray) (wd : Int) (A : Option Addr) (n cap : Nat) (X Y : Nat → Int) (w : World) (hn : 1 ≤ n) (hn2 : n ≤ 12) (hok : ∀ i, i < n → okP (X i) (Y i) = true) (hR : Rec 2 w A n (vPoint X Y)) :
    Calls Try.prog 49 #[.agg #[.string nm, .slice A n cap, .int .i64 wd]] w fun e w' => e = .returned (.int .i64 (lenI X Y (n - 1))) ∧ Below w.heap.size w w' := by
  have k1 : ∀ y : Aft (w.alloc (.cells #[.string nm, .slice A n cap, .int .i64 wd] 32)), y.w1.cell? ⟨w.heap.size, 1, none⟩ = some (.slice A n cap) := fun y => y.new rfl
  have hR2 := hR.below (w' := w.alloc (.cells #[.string nm, .slice A n cap, .int .i64 wd] 32)) (by repeat (first | exact Below.refl _ _ | refine Below.alloc ?_ (by simp; try omega) _ | refine Below.drew ?_))
  clear hR
  go_enter Try.func49, Try.ntmps49
  go_wp2
  generalize hW : w.alloc (.cells #[.string nm, .slice A n cap, .int .i64 wd] 32) = W at *
  have hbW : Below w.heap.size w W := hW ▸ (by repeat (first | exact Below.refl _ _ | refine Below.alloc ?_ (by simp; try omega) _ | refine Below.drew ?_))
  clear hW
  go_loopw [3, 4] (fun t i wr => ∃ (j : Nat) (x : Aft W), j + 1 ≤ n ∧ i = .int .i64 (j + 1 : Int) ∧ wr = x.w1 ∧ t = .int .i64 (lenI X Y j)) (fun _ i _ => n - (intOf i).toNat)
  case atStart => exact ⟨0, ⟨W, Below.refl _ _⟩, by omega, rfl, rfl, rfl⟩
  case round =>
    obtain ⟨j, x, hk, rfl, rfl, rfl⟩ := hrel
    by_cases hlt : j + 1 < n
    · obtain ⟨b, o, hi⟩ := hR2
      obtain ⟨rfl, hc⟩ := hi j (by omega)
      obtain ⟨_, hc2⟩ := hi (j + 1) hlt
      have p0 : W.cell? ⟨b, o + j * 2, none⟩ = some (.int .i64 (X j)) := by simpa [vPoint, Nat.add_assoc] using hc 0 (by omega)
      have p1 : W.cell? ⟨b, o + j * 2 + 1, none⟩ = some (.int .i64 (Y j)) := by simpa [vPoint, Nat.add_assoc] using hc 1 (by omega)
      have p2 : W.cell? ⟨b, o + (j + 1) * 2, none⟩ = some (.int .i64 (X (j + 1))) := by simpa [vPoint, Nat.add_assoc] using hc2 0 (by omega)
      have p3 : W.cell? ⟨b, o + (j + 1) * 2 + 1, none⟩ = some (.int .i64 (Y (j + 1))) := by simpa [vPoint, Nat.add_assoc] using hc2 1 (by omega)
      have m0 : ∀ y : Aft W, y.w1.cell? ⟨b, o + j * 2, none⟩ = some (.int .i64 (X j)) := fun y => y.cell (cell_lt p0) p0
      have m1 : ∀ y : Aft W, y.w1.cell? ⟨b, o + j * 2 + 1, none⟩ = some (.int .i64 (Y j)) := fun y => y.cell (cell_lt p1) p1
      have m2 : ∀ y : Aft W, y.w1.cell? ⟨b, o + (j + 1) * 2, none⟩ = some (.int .i64 (X (j + 1))) := fun y => y.cell (cell_lt p2) p2
      have m3 : ∀ y : Aft W, y.w1.cell? ⟨b, o + (j + 1) * 2 + 1, none⟩ = some (.int .i64 (Y (j + 1))) := fun y => y.cell (cell_lt p3) p3
      have hl := lenI_bd j (fun i hi => hok i (by omega))
      have hq := rootP_bd (hok j (by omega)) (hok (j + 1) hlt)
      have HA := Lib.hid (fun W => distance_c _ _ _ _ (hok j (by omega)) (hok (j + 1) hlt) W)
      have HS := Lib.hid (show lenI X Y (j + 1) = lenI X Y j + rootI (sqd (X j) (Y j) (X (j + 1)) (Y (j + 1))) from rfl)
      generalize rootI (sqd (X j) (Y j) (X (j + 1)) (Y (j + 1))) = q at *
      generalize lenI X Y j = t at *
      obtain ⟨l0, l1⟩ := hl
      obtain ⟨q0, q1⟩ := hq
      have hw : IntKind.i64.wrap (t + q) = t + q := IntWalk.i64_in _ (by omega)
      clear hc hi hc2 p0 p1 p2 p3
      go_wp2
      refine wp_region_aftx x (by kernel_rfl) (by kernel_rfl) ?_
      repeat (go_big_quiet_step ((go_at_call 83; exact Aft.call (HA.out _))))
      refine wpQuiet_nil ?_
      intro z
      go_wp2
      go_roundw
      case rel => exact ⟨j + 1, z, by omega, by go_num, rfl, by rw [HS.out]⟩
      case measure => simp [intOf]; omega
    · obtain rfl : n = j + 1 := by omega
      go_wp2
      go_ret
      exact ⟨ret_int (by simp), held_next hbW x.below⟩
theorem okChan_yes {nm : ByteArray} {n : Nat} {X Y : Nat → Int} {wd : Int} (h : okChan nm n X Y wd = true) :
    (∀ i, i < n → okP (X i) (Y i) = true) ∧ 2 ≤ n ∧ n ≤ 12 ∧ 10 ≤ wd ∧ wd ≤ 5000 := by
  unfold okChan at h
  simp only [Bool.and_eq_true, decide_eq_true_eq] at h
  obtain ⟨h1, _, h2, h3, h4⟩ := h
  obtain ⟨h5, h6⟩ := inR_iff.1 h4
  refine ⟨fun i hi => ?_, by omega, by omega, h5, h6⟩
  have := allB_at h1 i hi
  unfold okL at this
  simp only [Bool.and_eq_true] at this
  exact this.1
end Go.Proofs.Ytimfpnmcdicldaa
