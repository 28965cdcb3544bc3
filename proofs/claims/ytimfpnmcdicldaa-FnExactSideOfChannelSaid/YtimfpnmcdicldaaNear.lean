/- The nearest segment of a line: the program and the reference. -/
import Derived.Test.YtimfpnmcdicldaaGapWalk
namespace Go.Proofs.Ytimfpnmcdicldaa
open Go Go.RowKit
def gapN (X Y : Nat → Int) (x y : Int) (i : Nat) : Int := gapI (X i) (Y i) (X (i + 1)) (Y (i + 1)) x y
def nearF (G : Nat → Int) : Nat → Nat
  | 0 => 0
  | k + 1 => if G (k + 1) < G (nearF G k) then k + 1 else nearF G k
theorem nearF_le (G : Nat → Int) : ∀ k, nearF G k ≤ k
  | 0 => Nat.le_refl _
  | k + 1 => by
    have := nearF_le G k
    unfold nearF
    split <;> omega
theorem gapI_nonneg {a b c d x y : Int} (h1 : okP a b = true) (h2 : okP c d = true) (h3 : okP x y = true) : 0 ≤ gapI a b c d x y := by
  unfold gapI
  split
  · exact (rootI_spec (sqd_bd h1 h3).1).1
  · split
    · exact (rootI_spec (sqd_bd h2 h3).1).1
    · have h4 := (sqd_bd h1 h2).1
      exact (rootI_spec (Int.ediv_nonneg (sq_nonneg _) h4)).1
set_option maxRecDepth 100000 in
set_option maxHeartbeats 4000000 in
theorem l13Nearest_c (A : Option Addr) (n cap : Nat) (X Y : Nat → Int) (x y : Int) (w : World) (n2 : 2 ≤ n) (hn2 : n ≤ 12) (hok : ∀ i, i < n → okP (X i) (Y i) = true) (hp : okP x y = true) (hR : Rec 2 w A n (vPoint X Y)) :
    Calls Try.prog 53 #[.slice A n cap, .agg #[.int .i64 x, .int .i64 y]] w fun e w' => e = .returned (.tuple #[.int .i64 ((nearF (gapN X Y x y) (n - 2) : Int) + 1), .int .i64 (gapN X Y x y (nearF (gapN X Y x y) (n - 2)))]) ∧ Below w.heap.size w w' := by
  have HGN : Hid (∀ i, i + 1 < n → ∀ W : World, Calls Try.prog 85 #[.agg #[.int .i64 (X i), .int .i64 (Y i)], .agg #[.int .i64 (X (i + 1)), .int .i64 (Y (i + 1))], .agg #[.int .i64 x, .int .i64 y]] W fun e w' => e = .returned (.int .i64 (gapN X Y x y i)) ∧ Below W.heap.size W w') := Lib.hid (fun i h W => l02Gap_c (X i) (Y i) (X (i + 1)) (Y (i + 1)) x y (hok i (by omega)) (hok (i + 1) h) hp W)
  generalize gapN X Y x y = G at *
  go_enter Try.func53, Try.ntmps53
  go_wp2
  generalize hW : w.alloc (.cells #[.int .i64 x, .int .i64 y] 27) = W
  have hbW : Below w.heap.size w W := hW ▸ (by repeat (first | exact Below.refl _ _ | refine Below.alloc ?_ (by simp; try omega) _ | refine Below.drew ?_))
  have k0 : ∀ z : Aft W, z.w1.cell? ⟨w.heap.size, 0, none⟩ = some (.int .i64 x) := by subst hW; exact fun z => z.new rfl
  have k1 : ∀ z : Aft W, z.w1.cell? ⟨w.heap.size, 1, none⟩ = some (.int .i64 y) := by subst hW; exact fun z => z.new rfl
  replace hR := hR.below hbW
  clear hW
  obtain ⟨b, o, hi⟩ := hR
  obtain ⟨rfl, hc⟩ := hi 0 (by omega)
  obtain ⟨_, hc2⟩ := hi 1 (by omega)
  have p0 : W.cell? ⟨b, o, none⟩ = some (.int .i64 (X 0)) := by simpa [vPoint, Nat.add_assoc] using hc 0 (by omega)
  have p1 : W.cell? ⟨b, o + 1, none⟩ = some (.int .i64 (Y 0)) := by simpa [vPoint, Nat.add_assoc] using hc 1 (by omega)
  have p2 : W.cell? ⟨b, o + 2, none⟩ = some (.int .i64 (X 1)) := by simpa [vPoint, Nat.add_assoc] using hc2 0 (by omega)
  have p3 : W.cell? ⟨b, o + 2 + 1, none⟩ = some (.int .i64 (Y 1)) := by simpa [vPoint, Nat.add_assoc] using hc2 1 (by omega)
  have m0 : ∀ y : Aft W, y.w1.cell? ⟨b, o, none⟩ = some (.int .i64 (X 0)) := fun y => y.cell (cell_lt p0) p0
  have m1 : ∀ y : Aft W, y.w1.cell? ⟨b, o + 1, none⟩ = some (.int .i64 (Y 0)) := fun y => y.cell (cell_lt p1) p1
  have m2 : ∀ y : Aft W, y.w1.cell? ⟨b, o + 2, none⟩ = some (.int .i64 (X 1)) := fun y => y.cell (cell_lt p2) p2
  have m3 : ∀ y : Aft W, y.w1.cell? ⟨b, o + 2 + 1, none⟩ = some (.int .i64 (Y 1)) := fun y => y.cell (cell_lt p3) p3
  have HI := Lib.hid hi
  have HA := Lib.hid (HGN.out 0 (by omega))
  clear hi hc hc2 p0 p1 p2 p3
  refine wp_region_aft (by kernel_rfl) (by kernel_rfl) ?_
  repeat (go_big_quiet_step ((go_at_call 85; exact Aft.call (HA.out _))))
  refine wpQuiet_nil ?_
  intro zw hbz
  obtain ⟨z, rfl⟩ : ∃ z : Aft W, zw = z.w1 := ⟨⟨zw, hbz⟩, rfl⟩
  clear m0 m1 m2 m3 HA
  go_wp2
  go_loopw [6, 7, 8] (fun be le i wr => ∃ (k : Nat) (x : Aft W), k + 2 ≤ n ∧ i = .int .i64 (k + 2 : Int) ∧ wr = x.w1 ∧ be = .int .i64 ((nearF G k : Int) + 1) ∧ le = .int .i64 (G (nearF G k))) (fun _ _ i _ => n - (intOf i).toNat)
  case atStart => exact ⟨0, z, by omega, rfl, rfl, rfl, rfl⟩
  case round =>
    obtain ⟨k, x', hk, rfl, rfl, rfl, rfl⟩ := hrel
    by_cases hlt : k + 2 < n
    · obtain ⟨_, hc⟩ := HI.out (k + 1) (by omega)
      obtain ⟨_, hc2⟩ := HI.out (k + 2) hlt
      have p0 : W.cell? ⟨b, o + (k + 1) * 2, none⟩ = some (.int .i64 (X (k + 1))) := by simpa [vPoint, Nat.add_assoc] using hc 0 (by omega)
      have p1 : W.cell? ⟨b, o + (k + 1) * 2 + 1, none⟩ = some (.int .i64 (Y (k + 1))) := by simpa [vPoint, Nat.add_assoc] using hc 1 (by omega)
      have p2 : W.cell? ⟨b, o + (k + 2) * 2, none⟩ = some (.int .i64 (X (k + 2))) := by simpa [vPoint, Nat.add_assoc] using hc2 0 (by omega)
      have p3 : W.cell? ⟨b, o + (k + 2) * 2 + 1, none⟩ = some (.int .i64 (Y (k + 2))) := by simpa [vPoint, Nat.add_assoc] using hc2 1 (by omega)
      have m0 : ∀ y : Aft W, y.w1.cell? ⟨b, o + (k + 1) * 2, none⟩ = some (.int .i64 (X (k + 1))) := fun y => y.cell (cell_lt p0) p0
      have m1 : ∀ y : Aft W, y.w1.cell? ⟨b, o + (k + 1) * 2 + 1, none⟩ = some (.int .i64 (Y (k + 1))) := fun y => y.cell (cell_lt p1) p1
      have m2 : ∀ y : Aft W, y.w1.cell? ⟨b, o + (k + 2) * 2, none⟩ = some (.int .i64 (X (k + 2))) := fun y => y.cell (cell_lt p2) p2
      have m3 : ∀ y : Aft W, y.w1.cell? ⟨b, o + (k + 2) * 2 + 1, none⟩ = some (.int .i64 (Y (k + 2))) := fun y => y.cell (cell_lt p3) p3
      have HA := Lib.hid (HGN.out (k + 1) (by omega))
      have HN := Lib.hid (show nearF G (k + 1) = if G (k + 1) < G (nearF G k) then k + 1 else nearF G k from rfl)
      clear hc hc2 p0 p1 p2 p3
      generalize nearF G k = J at *
      generalize hg1 : G (k + 1) = g1 at *
      generalize hg2 : G J = g2 at *
      by_cases hd : g1 < g2
      · have HN2 := Lib.hid (HN.out.trans (if_pos hd))
        go_wp2
        refine wp_region_aftx x' (by kernel_rfl) (by kernel_rfl) ?_
        repeat (go_big_quiet_step ((go_at_call 85; exact Aft.call (HA.out _))))
        refine wpQuiet_nil ?_
        intro z'
        go_wp2
        go_roundw
        case rel => exact ⟨k + 1, z', by omega, by go_num, rfl, by rw [HN2.out]; congr 1, by rw [HN2.out, hg1]⟩
        case measure => simp [intOf]; omega
      · have HN2 := Lib.hid (HN.out.trans (if_neg hd))
        go_wp2
        refine wp_region_aftx x' (by kernel_rfl) (by kernel_rfl) ?_
        repeat (go_big_quiet_step ((go_at_call 85; exact Aft.call (HA.out _))))
        refine wpQuiet_nil ?_
        intro z'
        go_wp2
        go_roundw
        case rel => exact ⟨k + 1, z', by omega, by go_num, rfl, by rw [HN2.out], by rw [HN2.out, hg2]⟩
        case measure => simp [intOf]; omega
    · obtain rfl : n = k + 2 := by omega
      go_wp2
      go_ret2
      exact ⟨by simp only [Nat.add_sub_cancel]; rfl, held_next hbW x'.below⟩
set_option maxRecDepth 100000 in
set_option maxHeartbeats 4000000 in
theorem nearest_c (nm : ByteArray) (wd : Int) (A : Option Addr) (n cap : Nat) (X Y : Nat → Int) (x y : Int) (w : World) (n2 : 2 ≤ n) (hn2 : n ≤ 12) (hok : ∀ i, i < n → okP (X i) (Y i) = true) (hp : okP x y = true) (hR : Rec 2 w A n (vPoint X Y)) :
    Calls Try.prog 55 #[.agg #[.string nm, .slice A n cap, .int .i64 wd], .agg #[.int .i64 x, .int .i64 y]] w fun e w' => e = .returned (.tuple #[.int .i64 (nearF (gapN X Y x y) (n - 2) : Int), .int .i64 (gapN X Y x y (nearF (gapN X Y x y) (n - 2)))]) ∧ Below w.heap.size w w' := by
  have HGN : Hid (∀ i, i + 1 < n → ∀ W : World, Calls Try.prog 86 #[.agg #[.int .i64 (X i), .int .i64 (Y i)], .agg #[.int .i64 (X (i + 1)), .int .i64 (Y (i + 1))], .agg #[.int .i64 x, .int .i64 y]] W fun e w' => e = .returned (.int .i64 (gapN X Y x y i)) ∧ Below W.heap.size W w') := Lib.hid (fun i h W => dts_c (X i) (Y i) (X (i + 1)) (Y (i + 1)) x y (hok i (by omega)) (hok (i + 1) h) hp W)
  have HG0 : Hid (∀ i, i + 1 < n → 0 ≤ gapN X Y x y i) := Lib.hid (fun i h => gapI_nonneg (hok i (by omega)) (hok (i + 1) h) hp)
  generalize gapN X Y x y = G at *
  go_enter Try.func55, Try.ntmps55
  go_wp2
  generalize hW : (w.alloc (.cells #[.string nm, .slice A n cap, .int .i64 wd] 32)).alloc (.cells #[.int .i64 x, .int .i64 y] 27) = W
  have hbW : Below w.heap.size w W := hW ▸ (by repeat (first | exact Below.refl _ _ | refine Below.alloc ?_ (by simp; try omega) _ | refine Below.drew ?_))
  have k0 : ∀ z : Aft W, z.w1.cell? ⟨w.heap.size, 1, none⟩ = some (.slice A n cap) := by subst hW; exact fun z => z.cell (by simp; try omega) (by simp [go_sem])
  have k1 : ∀ z : Aft W, z.w1.cell? ⟨w.heap.size + 1, 0, none⟩ = some (.int .i64 x) := by subst hW; exact fun z => z.cell (by simp; try omega) (by simp [go_sem])
  have k2 : ∀ z : Aft W, z.w1.cell? ⟨w.heap.size + 1, 1, none⟩ = some (.int .i64 y) := by subst hW; exact fun z => z.cell (by simp; try omega) (by simp [go_sem])
  replace hR := hR.below hbW
  clear hW
  obtain ⟨b, o, hi⟩ := hR
  obtain ⟨rfl, _⟩ := hi 0 (by omega)
  have HI := Lib.hid hi
  clear hi
  go_loopw [6, 7, 8] (fun be le i wr => ∃ (c : Nat) (x : Aft W), c + 1 ≤ n ∧ i = .int .i64 (c + 1 : Int) ∧ wr = x.w1 ∧ ((c = 0 ∧ be = .int .i64 0 ∧ le = .int .i64 (-1)) ∨ ∃ k, c = k + 1 ∧ be = .int .i64 (nearF G k : Int) ∧ le = .int .i64 (G (nearF G k)))) (fun _ _ i _ => n - (intOf i).toNat)
  case atStart => exact ⟨0, ⟨W, Below.refl _ _⟩, by omega, rfl, rfl, .inl ⟨rfl, rfl, rfl⟩⟩
  case round =>
    obtain ⟨c, x', hk, rfl, rfl, ⟨rfl, rfl, rfl⟩ | ⟨k, rfl, rfl, rfl⟩⟩ := hrel
    · have hlt : 1 < n := by omega
      obtain ⟨_, hc⟩ := HI.out 0 (by omega)
      obtain ⟨_, hc2⟩ := HI.out 1 (by omega)
      have p0 : W.cell? ⟨b, o, none⟩ = some (.int .i64 (X 0)) := by simpa [vPoint, Nat.add_assoc] using hc 0 (by omega)
      have p1 : W.cell? ⟨b, o + 1, none⟩ = some (.int .i64 (Y 0)) := by simpa [vPoint, Nat.add_assoc] using hc 1 (by omega)
      have p2 : W.cell? ⟨b, o + 2, none⟩ = some (.int .i64 (X 1)) := by simpa [vPoint, Nat.add_assoc] using hc2 0 (by omega)
      have p3 : W.cell? ⟨b, o + 2 + 1, none⟩ = some (.int .i64 (Y 1)) := by simpa [vPoint, Nat.add_assoc] using hc2 1 (by omega)
      have m0 : ∀ y : Aft W, y.w1.cell? ⟨b, o, none⟩ = some (.int .i64 (X 0)) := fun y => y.cell (cell_lt p0) p0
      have m1 : ∀ y : Aft W, y.w1.cell? ⟨b, o + 1, none⟩ = some (.int .i64 (Y 0)) := fun y => y.cell (cell_lt p1) p1
      have m2 : ∀ y : Aft W, y.w1.cell? ⟨b, o + 2, none⟩ = some (.int .i64 (X 1)) := fun y => y.cell (cell_lt p2) p2
      have m3 : ∀ y : Aft W, y.w1.cell? ⟨b, o + 2 + 1, none⟩ = some (.int .i64 (Y 1)) := fun y => y.cell (cell_lt p3) p3
      have HA := Lib.hid (HGN.out 0 (by omega))
      clear hc hc2 p0 p1 p2 p3
      generalize hg1 : G 0 = g1 at *
      · go_wp2
        refine wp_region_aftx x' (by kernel_rfl) (by kernel_rfl) ?_
        repeat (go_big_quiet_step ((go_at_call 86; exact Aft.call (HA.out _))))
        refine wpQuiet_nil ?_
        intro z'
        go_wp2
        go_roundw
        case rel => exact ⟨1, z', by omega, by go_num, rfl, .inr ⟨0, rfl, rfl, by rw [show nearF G 0 = 0 from rfl, hg1]⟩⟩
        case measure => simp [intOf]; omega
    · by_cases hlt : k + 2 < n
      · have hge := HG0.out (nearF G k) (by have := nearF_le G k; omega)
        obtain ⟨_, hc⟩ := HI.out (k + 1) (by omega)
        obtain ⟨_, hc2⟩ := HI.out (k + 2) (by omega)
        have p0 : W.cell? ⟨b, o + (k + 1) * 2, none⟩ = some (.int .i64 (X (k + 1))) := by simpa [vPoint, Nat.add_assoc] using hc 0 (by omega)
        have p1 : W.cell? ⟨b, o + (k + 1) * 2 + 1, none⟩ = some (.int .i64 (Y (k + 1))) := by simpa [vPoint, Nat.add_assoc] using hc 1 (by omega)
        have p2 : W.cell? ⟨b, o + (k + 2) * 2, none⟩ = some (.int .i64 (X (k + 2))) := by simpa [vPoint, Nat.add_assoc] using hc2 0 (by omega)
        have p3 : W.cell? ⟨b, o + (k + 2) * 2 + 1, none⟩ = some (.int .i64 (Y (k + 2))) := by simpa [vPoint, Nat.add_assoc] using hc2 1 (by omega)
        have m0 : ∀ y : Aft W, y.w1.cell? ⟨b, o + (k + 1) * 2, none⟩ = some (.int .i64 (X (k + 1))) := fun y => y.cell (cell_lt p0) p0
        have m1 : ∀ y : Aft W, y.w1.cell? ⟨b, o + (k + 1) * 2 + 1, none⟩ = some (.int .i64 (Y (k + 1))) := fun y => y.cell (cell_lt p1) p1
        have m2 : ∀ y : Aft W, y.w1.cell? ⟨b, o + (k + 2) * 2, none⟩ = some (.int .i64 (X (k + 2))) := fun y => y.cell (cell_lt p2) p2
        have m3 : ∀ y : Aft W, y.w1.cell? ⟨b, o + (k + 2) * 2 + 1, none⟩ = some (.int .i64 (Y (k + 2))) := fun y => y.cell (cell_lt p3) p3
        have HA := Lib.hid (HGN.out (k + 1) (by omega))
        have HN := Lib.hid (show nearF G (k + 1) = if G (k + 1) < G (nearF G k) then k + 1 else nearF G k from rfl)
        clear hc hc2 p0 p1 p2 p3
        generalize nearF G k = J at *
        generalize hg1 : G (k + 1) = g1 at *
        generalize hg2 : G J = g2 at *
        by_cases hd : g1 < g2
        all_goals
          have HN2 := Lib.hid (HN.out.trans (by first | exact if_pos hd | exact if_neg hd))
          go_wp2
          refine wp_region_aftx x' (by kernel_rfl) (by kernel_rfl) ?_
          repeat (go_big_quiet_step ((go_at_call 86; exact Aft.call (HA.out _))))
          refine wpQuiet_nil ?_
          intro z'
          go_wp2
          go_roundw
          case rel =>
            first
              | exact ⟨k + 2, z', by omega, by go_num, rfl, .inr ⟨k + 1, rfl, by rw [HN2.out]; congr 1, by rw [HN2.out, hg1]⟩⟩
              | exact ⟨k + 2, z', by omega, by go_num, rfl, .inr ⟨k + 1, rfl, by rw [HN2.out], by rw [HN2.out, hg2]⟩⟩
          case measure => simp [intOf]; omega
      · obtain rfl : n = k + 2 := by omega
        go_wp2
        go_ret2
        exact ⟨by simp only [Nat.add_sub_cancel]; rfl, held_next hbW x'.below⟩
end Go.Proofs.Ytimfpnmcdicldaa
