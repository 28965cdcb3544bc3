/- The place at a distance along a channel: the program and the reference. -/
import Derived.Test.YtimfpnmcdicldaaBetw
import Derived.Deep.RegionHeld3
namespace Go.Proofs.Ytimfpnmcdicldaa
open Go Go.RowKit
theorem FirstSeg.rest {X Y : Nat → Int} {n J : Nat} {d : Int} (h : FirstSeg X Y n d J) (d0 : 0 ≤ d) : 0 ≤ d - lenI X Y J ∧ d - lenI X Y J ≤ rootI (sqd (X J) (Y J) (X (J + 1)) (Y (J + 1))) := by
  obtain ⟨h1, h2, h3⟩ := h
  simp only [lenI] at h2
  refine ⟨?_, by omega⟩
  match J, h3 with
  | 0, _ => simp [lenI]; omega
  | k + 1, h3 => have := h3 k (by omega); omega
/-- A line's segments have a length. -/
def Segs (X Y : Nat → Int) (n : Nat) : Prop := (∀ i, i < n → okP (X i) (Y i) = true) ∧ ∀ i, i + 1 < n → 1 ≤ rootI (sqd (X i) (Y i) (X (i + 1)) (Y (i + 1)))
set_option maxRecDepth 100000 in
set_option maxHeartbeats 4000000 in
theorem l13Find_c (A : Option Addr) (n cap : Nat) (X Y : Nat → Int) (d : Int) (J : Nat) (w : World) (hn2 : n ≤ 12) (hok : ∀ i, i < n → okP (X i) (Y i) = true) (hF : FirstSeg X Y n d J) (d0 : 0 ≤ d) (d1 : d ≤ 18000000) (hR : Rec 2 w A n (vPoint X Y)) :
    Calls Try.prog 80 #[.slice A n cap, .int .i64 d] w fun e w' => e = .returned (.tuple #[.int .i64 ((J : Int) + 1), .int .i64 (d - lenI X Y J)]) ∧ Below w.heap.size w w' := by
  obtain ⟨F1, F2, F3⟩ := hF
  go_enter Try.func80, Try.ntmps80
  go_wp2
  go_loopw [1, 6] (fun dv i wr => ∃ (j : Nat) (x : Aft w), j ≤ J ∧ i = .int .i64 (j + 1 : Int) ∧ wr = x.w1 ∧ dv = .int .i64 (d - lenI X Y j)) (fun _ i _ => n - (intOf i).toNat)
  case atStart => exact ⟨0, ⟨w, Below.refl _ _⟩, by omega, rfl, rfl, by simp [lenI]⟩
  case round =>
    obtain ⟨j, x, hk, rfl, rfl, rfl⟩ := hrel
    have hlt : j + 1 < n := by omega
    obtain ⟨b, o, hi⟩ := hR
    obtain ⟨rfl, hc⟩ := hi j (by omega)
    obtain ⟨_, hc2⟩ := hi (j + 1) hlt
    have p0 : w.cell? ⟨b, o + j * 2, none⟩ = some (.int .i64 (X j)) := by simpa [vPoint, Nat.add_assoc] using hc 0 (by omega)
    have p1 : w.cell? ⟨b, o + j * 2 + 1, none⟩ = some (.int .i64 (Y j)) := by simpa [vPoint, Nat.add_assoc] using hc 1 (by omega)
    have p2 : w.cell? ⟨b, o + (j + 1) * 2, none⟩ = some (.int .i64 (X (j + 1))) := by simpa [vPoint, Nat.add_assoc] using hc2 0 (by omega)
    have p3 : w.cell? ⟨b, o + (j + 1) * 2 + 1, none⟩ = some (.int .i64 (Y (j + 1))) := by simpa [vPoint, Nat.add_assoc] using hc2 1 (by omega)
    have m0 : ∀ y : Aft w, y.w1.cell? ⟨b, o + j * 2, none⟩ = some (.int .i64 (X j)) := fun y => y.cell (cell_lt p0) p0
    have m1 : ∀ y : Aft w, y.w1.cell? ⟨b, o + j * 2 + 1, none⟩ = some (.int .i64 (Y j)) := fun y => y.cell (cell_lt p1) p1
    have m2 : ∀ y : Aft w, y.w1.cell? ⟨b, o + (j + 1) * 2, none⟩ = some (.int .i64 (X (j + 1))) := fun y => y.cell (cell_lt p2) p2
    have m3 : ∀ y : Aft w, y.w1.cell? ⟨b, o + (j + 1) * 2 + 1, none⟩ = some (.int .i64 (Y (j + 1))) := fun y => y.cell (cell_lt p3) p3
    have hl := lenI_bd j (fun i hi => hok i (by omega))
    have hq := rootP_bd (hok j (by omega)) (hok (j + 1) hlt)
    have HA := Lib.hid (fun W => l02Apart_c _ _ _ _ (hok j (by omega)) (hok (j + 1) hlt) W)
    have hS : lenI X Y (j + 1) = lenI X Y j + rootI (sqd (X j) (Y j) (X (j + 1)) (Y (j + 1))) := rfl
    have hd : if j = J then d - lenI X Y j ≤ rootI (sqd (X j) (Y j) (X (j + 1)) (Y (j + 1))) else ¬ d - lenI X Y j ≤ rootI (sqd (X j) (Y j) (X (j + 1)) (Y (j + 1))) := by
      split
      · rename_i e; subst e; omega
      · have := F3 j (by omega); omega
    have HS := Lib.hid hS
    clear hS
    have hJ : j = J → lenI X Y J = lenI X Y j := fun e => by rw [e]
    generalize rootI (sqd (X j) (Y j) (X (j + 1)) (Y (j + 1))) = q at *
    generalize lenI X Y j = t at *
    obtain ⟨l0, l1⟩ := hl
    obtain ⟨q0, q1⟩ := hq
    clear hc hi hc2 p0 p1 p2 p3 F2 F3
    by_cases e : j = J
    · rw [if_pos e] at hd
      subst e
      have hJ := hJ rfl
      go_wp2
      refine wp_region_aftx x (by kernel_rfl) (by kernel_rfl) ?_
      repeat (go_big_quiet_step ((go_at_call 79; exact Aft.call (HA.out _))))
      refine wpQuiet_nil ?_
      intro z
      go_wp2
      go_ret2
      exact ⟨by rw [show lenI X Y j = t from by first | exact hJ | exact hJ trivial | exact hJ rfl]; rfl, z.below⟩
    · rw [if_neg e] at hd
      clear hJ
      go_wp2
      refine wp_region_aftx x (by kernel_rfl) (by kernel_rfl) ?_
      repeat (go_big_quiet_step ((go_at_call 79; exact Aft.call (HA.out _))))
      refine wpQuiet_nil ?_
      intro z
      go_wp2
      go_roundw
      case rel => exact ⟨j + 1, z, by omega, by go_num, rfl, by rw [HS.out]; congr 1; omega⟩
      case measure => simp [intOf]; omega
theorem past1 {Z : World} {b i : Nat} {v : Value} (h : Z.cell? ⟨b, i, none⟩ = some v) : ∀ o, (Z.alloc o).cell? ⟨b, i, none⟩ = some v := fun o => (cell_past (cell_lt h) o i).trans h
theorem past2 {Z : World} {b i : Nat} {v : Value} (h : Z.cell? ⟨b, i, none⟩ = some v) : ∀ o o', ((Z.alloc o).alloc o').cell? ⟨b, i, none⟩ = some v := fun o o' => past1 (past1 h o) o'
theorem keep2 {Y : World} {g b i : Nat} {u v x : Value} (h : Y.cell? ⟨b, i, none⟩ = some x) (hne : b ≠ g) : ((Y.setCell ⟨g, 0, none⟩ u).setCell ⟨g, 1, none⟩ v).cell? ⟨b, i, none⟩ = some x := by
  have e : ∀ (Y : World) (k : Nat) (u : Value), (Y.setCell ⟨g, k, none⟩ u).cell? ⟨b, i, none⟩ = Y.cell? ⟨b, i, none⟩ := fun Y k u => by
    have := Below.heap_setCell Y ⟨g, k, none⟩ u b hne
    simp only [World.cell?, this]
  rw [e, e]
  exact h
theorem rootP_pos {a b c d : Int} (h1 : okP a b = true) (h2 : okP c d = true) (hne : ¬ (a = c ∧ b = d)) : 1 ≤ rootI (sqd a b c d) := by
  obtain ⟨r0, r1, r2⟩ := rootI_spec (sqd_bd h1 h2).1
  rcases (show rootI (sqd a b c d) = 0 ∨ 1 ≤ rootI (sqd a b c d) by omega) with h | h
  · rw [h] at r2
    have p1 : 0 ≤ (a - c) * (a - c) := by
      rcases Int.le_total 0 (a - c) with q | q
      · exact Int.mul_nonneg q q
      · exact Int.mul_nonneg_of_nonpos_of_nonpos q q
    have p2 : 0 ≤ (b - d) * (b - d) := by
      rcases Int.le_total 0 (b - d) with q | q
      · exact Int.mul_nonneg q q
      · exact Int.mul_nonneg_of_nonpos_of_nonpos q q
    unfold sqd at r2
    have e1 : (a - c) * (a - c) = 0 := by omega
    have e2 : (b - d) * (b - d) = 0 := by omega
    have e3 := Int.mul_eq_zero.1 e1
    have e4 := Int.mul_eq_zero.1 e2
    exact absurd ⟨by omega, by omega⟩ hne
  · exact h
theorem okChan_segs {nm : ByteArray} {n : Nat} {X Y : Nat → Int} {wd : Int} (h : okChan nm n X Y wd = true) : Segs X Y n := by
  obtain ⟨h0, _⟩ := okChan_yes h
  refine ⟨h0, fun i hi => rootP_pos (h0 i (by omega)) (h0 (i + 1) hi) ?_⟩
  unfold okChan at h
  simp only [Bool.and_eq_true] at h
  have h1 := allB_at h.1 (i + 1) hi
  unfold okL at h1
  simp only [Bool.and_eq_true, Bool.not_eq_true'] at h1
  rintro ⟨e1, e2⟩
  have h2 := h1.2
  rw [Nat.add_sub_cancel, e1, e2, dPoint_self] at h2
  simp at h2
/-- The answer's place. -/
def plX (X Y : Nat → Int) (J : Nat) (d : Int) : Int := btwX (X J) (Y J) (X (J + 1)) (Y (J + 1)) (d - lenI X Y J) (rootI (sqd (X J) (Y J) (X (J + 1)) (Y (J + 1))))
def plY (X Y : Nat → Int) (J : Nat) (d : Int) : Int := btwY (X J) (Y J) (X (J + 1)) (Y (J + 1)) (d - lenI X Y J) (rootI (sqd (X J) (Y J) (X (J + 1)) (Y (J + 1))))
set_option maxRecDepth 100000 in
set_option maxHeartbeats 4000000 in
theorem l13Place_c (A : Option Addr) (n cap : Nat) (X Y : Nat → Int) (d : Int) (J : Nat) (w : World) (hn2 : n ≤ 12) (hS : Segs X Y n) (hF : FirstSeg X Y n d J) (d0 : 0 ≤ d) (d1 : d ≤ 18000000) (hR : Rec 2 w A n (vPoint X Y)) :
    Calls Try.prog 45 #[.slice A n cap, .int .i64 d] w fun e w' => e = .returned (.agg #[.int .i64 (plX X Y J d), .int .i64 (plY X Y J d)]) ∧ Below w.heap.size w w' := by
  have hlt : J + 1 < n := hF.1
  obtain ⟨s0, s1⟩ := hF.rest d0
  have o1 := hS.1 J (by omega)
  have o2 := hS.1 (J + 1) hlt
  have q1 := hS.2 J hlt
  have q2 := (rootP_bd o1 o2).2
  have HA := Lib.hid (fun W => l02Apart_c _ _ _ _ o1 o2 W)
  have HB := Lib.hid (fun W => l02Between_c _ _ _ _ (d - lenI X Y J) _ o1 o2 s0 s1 q1 q2 W)
  have HF := Lib.hid (fun W h => l13Find_c A n cap X Y d J W hn2 hS.1 hF d0 d1 h)
  unfold plX plY
  generalize rootI (sqd (X J) (Y J) (X (J + 1)) (Y (J + 1))) = q at *
  generalize d - lenI X Y J = r at *
  generalize btwX (X J) (Y J) (X (J + 1)) (Y (J + 1)) r q = rx at *
  generalize btwY (X J) (Y J) (X (J + 1)) (Y (J + 1)) r q = ry at *
  clear hF hS
  go_enter Try.func45, Try.ntmps45
  go_wp2_with fail
  generalize hW : w.alloc (.cells #[.int .i64 0, .int .i64 0] 27) = W
  have hbW : Below w.heap.size w W := hW ▸ (by repeat (first | exact Below.refl _ _ | refine Below.alloc ?_ (by simp; try omega) _ | refine Below.drew ?_))
  have hB : Blk W w.heap.size 27 #[.int .i64 0, .int .i64 0] := by subst hW; exact Blk.new _ _ _
  replace hR := hR.below hbW
  clear hW
  refine (HF.out _ hR).mono ?_
  rintro e w1 ⟨rfl, hb1⟩
  obtain ⟨x, rfl⟩ : ∃ x : Aft W, w1 = x.w1 := ⟨⟨w1, hb1⟩, rfl⟩
  clear HF
  obtain ⟨b, o, hi⟩ := hR
  obtain ⟨rfl, hc⟩ := hi J (by omega)
  obtain ⟨_, hc2⟩ := hi (J + 1) hlt
  have p0 : W.cell? ⟨b, o + J * 2, none⟩ = some (.int .i64 (X J)) := by simpa [vPoint, Nat.add_assoc] using hc 0 (by omega)
  have p1 : W.cell? ⟨b, o + J * 2 + 1, none⟩ = some (.int .i64 (Y J)) := by simpa [vPoint, Nat.add_assoc] using hc 1 (by omega)
  have p2 : W.cell? ⟨b, o + (J + 1) * 2, none⟩ = some (.int .i64 (X (J + 1))) := by simpa [vPoint, Nat.add_assoc] using hc2 0 (by omega)
  have p3 : W.cell? ⟨b, o + (J + 1) * 2 + 1, none⟩ = some (.int .i64 (Y (J + 1))) := by simpa [vPoint, Nat.add_assoc] using hc2 1 (by omega)
  have m0 : ∀ y : Aft W, y.w1.cell? ⟨b, o + J * 2, none⟩ = some (.int .i64 (X J)) := fun y => y.cell (cell_lt p0) p0
  have m1 : ∀ y : Aft W, y.w1.cell? ⟨b, o + J * 2 + 1, none⟩ = some (.int .i64 (Y J)) := fun y => y.cell (cell_lt p1) p1
  have m2 : ∀ y : Aft W, y.w1.cell? ⟨b, o + (J + 1) * 2, none⟩ = some (.int .i64 (X (J + 1))) := fun y => y.cell (cell_lt p2) p2
  have m3 : ∀ y : Aft W, y.w1.cell? ⟨b, o + (J + 1) * 2 + 1, none⟩ = some (.int .i64 (Y (J + 1))) := fun y => y.cell (cell_lt p3) p3
  clear hc hi hc2 p0 p1 p2 p3
  go_wp2
  refine wp_region_aftx_tail x 21 (by kernel_rfl) (by kernel_rfl) ?_
  simp only [List.take_succ_cons, List.take_zero, List.drop_succ_cons, List.drop_zero]
  repeat (go_big_quiet_step (first
    | (go_at_call 79; exact Aft.call (HA.out _))
    | (go_at_call 81; exact Aft.call (HB.out _))))
  refine wpQuiet_nil ?_
  intro z
  have hz := hB.below z.below
  have z0 : z.w1.cell? ⟨w.heap.size, 0, none⟩ = some (.int .i64 0) := hz.cell 0
  have z1 : z.w1.cell? ⟨w.heap.size, 1, none⟩ = some (.int .i64 0) := hz.cell 1
  have g0 := hz.frozen 0
  have g1 := hz.frozen 1
  have hbz := held_next hbW z.below
  clear m0 m1 m2 m3 hz
  go_wp2
  refine bodyPost_ret (v := .agg #[.int .i64 rx, .int .i64 ry]) (by simp [results, Try.results45, go_sem, z0, z1]) rfl ⟨rfl, ?_⟩
  exact (hbz.setCell (by simp) _).setCell (by simp) _
set_option maxRecDepth 100000 in
set_option maxHeartbeats 4000000 in
theorem along_c (nm : ByteArray) (wd : Int) (A : Option Addr) (n cap : Nat) (X Y : Nat → Int) (d : Int) (J : Nat) (w : World) (hn2 : n ≤ 12) (hS : Segs X Y n) (hF : FirstSeg X Y n d J) (d0 : 0 ≤ d) (d1 : d ≤ 18000000) (hR : Rec 2 w A n (vPoint X Y)) :
    Calls Try.prog 50 #[.agg #[.string nm, .slice A n cap, .int .i64 wd], .int .i64 d] w fun e w' => e = .returned (.tuple #[.agg #[.int .i64 (plX X Y J d), .int .i64 (plY X Y J d)], .agg #[.int .i64 (X J), .int .i64 (Y J)], .agg #[.int .i64 (X (J + 1)), .int .i64 (Y (J + 1))]]) ∧ Below w.heap.size w w' := by
  have hJlt : J + 1 < n := hF.1
  obtain ⟨s0, s1⟩ := hF.rest d0
  have o1 := hS.1 J (by omega)
  have o2 := hS.1 (J + 1) hJlt
  have q1 := hS.2 J hJlt
  have q2 := (rootP_bd o1 o2).2
  have HD := Lib.hid (fun W => distance_c _ _ _ _ o1 o2 W)
  have HB := Lib.hid (fun W => between_c _ _ _ _ (d - lenI X Y J) _ o1 o2 s0 s1 q1 q2 W)
  have HX := Lib.hid (show plX X Y J d = btwX (X J) (Y J) (X (J + 1)) (Y (J + 1)) (d - lenI X Y J) (rootI (sqd (X J) (Y J) (X (J + 1)) (Y (J + 1)))) from rfl)
  have HY := Lib.hid (show plY X Y J d = btwY (X J) (Y J) (X (J + 1)) (Y (J + 1)) (d - lenI X Y J) (rootI (sqd (X J) (Y J) (X (J + 1)) (Y (J + 1)))) from rfl)
  have hok := hS.1
  obtain ⟨F1, F2, F3⟩ := hF
  generalize plX X Y J d = rx at *
  generalize plY X Y J d = ry at *
  clear hS
  go_enter Try.func50, Try.ntmps50
  go_wp2
  generalize hW : (((w.alloc (.cells #[.string nm, .slice A n cap, .int .i64 wd] 32)).alloc (.cells #[.int .i64 0, .int .i64 0] 27)).alloc (.cells #[.int .i64 0, .int .i64 0] 27)).alloc (.cells #[.int .i64 0, .int .i64 0] 27) = W
  have hbW : Below w.heap.size w W := hW ▸ (by repeat (first | exact Below.refl _ _ | refine Below.alloc ?_ (by simp; try omega) _ | refine Below.drew ?_))
  have k1 : ∀ y : Aft W, y.w1.cell? ⟨w.heap.size, 1, none⟩ = some (.slice A n cap) := by subst hW; exact fun y => y.cell (by simp; try omega) (by simp [go_sem])
  have hB1 : Blk W (w.heap.size + 1) 27 #[.int .i64 0, .int .i64 0] := by subst hW; have := (Blk.new (w.alloc (.cells #[.string nm, .slice A n cap, .int .i64 wd] 32)) 27 #[.int .i64 0, .int .i64 0]); exact Blk.below (w := (w.alloc (.cells #[.string nm, .slice A n cap, .int .i64 wd] 32)).alloc (.cells #[.int .i64 0, .int .i64 0] 27)) (by simpa [World.size_alloc] using this) (by repeat (first | exact Below.refl _ _ | refine Below.alloc ?_ (by simp; try omega) _ | refine Below.drew ?_))
  have hB2 : Blk W (w.heap.size + 1 + 1) 27 #[.int .i64 0, .int .i64 0] := by subst hW; exact (Blk.new2 _ _ _ _ _).below (by repeat (first | exact Below.refl _ _ | refine Below.alloc ?_ (by simp; try omega) _ | refine Below.drew ?_))
  have hB3 : Blk W (w.heap.size + 1 + 1 + 1) 27 #[.int .i64 0, .int .i64 0] := by subst hW; simpa [World.size_alloc] using Blk.new (((w.alloc (.cells #[.string nm, .slice A n cap, .int .i64 wd] 32)).alloc (.cells #[.int .i64 0, .int .i64 0] 27)).alloc (.cells #[.int .i64 0, .int .i64 0] 27)) 27 #[.int .i64 0, .int .i64 0]
  replace hR := hR.below hbW
  clear hW
  go_loopw [1, 7] (fun dv i wr => ∃ (j : Nat) (x : Aft W), j ≤ J ∧ i = .int .i64 (j + 1 : Int) ∧ wr = x.w1 ∧ dv = .int .i64 (d - lenI X Y j)) (fun _ i _ => n - (intOf i).toNat)
  case atStart => exact ⟨0, ⟨W, Below.refl _ _⟩, by omega, rfl, rfl, by simp [lenI]⟩
  case round =>
    obtain ⟨j, x, hk, rfl, rfl, rfl⟩ := hrel
    have hlt : j + 1 < n := by omega
    obtain ⟨b, o, hi⟩ := hR
    obtain ⟨rfl, hc⟩ := hi j (by omega)
    obtain ⟨_, hc2⟩ := hi (j + 1) hlt
    have p0 : W.cell? ⟨b, o + j * 2, none⟩ = some (.int .i64 (X j)) := by simpa [vPoint, Nat.add_assoc] using hc 0 (by omega)
    have p1 : W.cell? ⟨b, o + j * 2 + 1, none⟩ = some (.int .i64 (Y j)) := by simpa [vPoint, Nat.add_assoc] using hc 1 (by omega)
    have p2 : W.cell? ⟨b, o + (j + 1) * 2, none⟩ = some (.int .i64 (X (j + 1))) := by simpa [vPoint, Nat.add_assoc] using hc2 0 (by omega)
    have p3 : W.cell? ⟨b, o + (j + 1) * 2 + 1, none⟩ = some (.int .i64 (Y (j + 1))) := by simpa [vPoint, Nat.add_assoc] using hc2 1 (by omega)
    have m0 : ∀ y : Aft W, y.w1.cell? ⟨b, o + j * 2, none⟩ = some (.int .i64 (X j)) := fun y => y.cell (cell_lt p0) p0
    have m1 : ∀ y : Aft W, y.w1.cell? ⟨b, o + j * 2 + 1, none⟩ = some (.int .i64 (Y j)) := fun y => y.cell (cell_lt p1) p1
    have m2 : ∀ y : Aft W, y.w1.cell? ⟨b, o + (j + 1) * 2, none⟩ = some (.int .i64 (X (j + 1))) := fun y => y.cell (cell_lt p2) p2
    have m3 : ∀ y : Aft W, y.w1.cell? ⟨b, o + (j + 1) * 2 + 1, none⟩ = some (.int .i64 (Y (j + 1))) := fun y => y.cell (cell_lt p3) p3
    have hl := lenI_bd j (fun i hi => hok i (by omega))
    have hq := rootP_bd (hok j (by omega)) (hok (j + 1) hlt)
    have HA := Lib.hid (fun W => distance_c _ _ _ _ (hok j (by omega)) (hok (j + 1) hlt) W)
    have hS : lenI X Y (j + 1) = lenI X Y j + rootI (sqd (X j) (Y j) (X (j + 1)) (Y (j + 1))) := rfl
    have hd : if j = J then d - lenI X Y j ≤ rootI (sqd (X j) (Y j) (X (j + 1)) (Y (j + 1))) else ¬ d - lenI X Y j ≤ rootI (sqd (X j) (Y j) (X (j + 1)) (Y (j + 1))) := by
      split
      · rename_i e; subst e; omega
      · have := F3 j (by omega); omega
    have HS := Lib.hid hS
    clear hS hc hi hc2 p0 p1 p2 p3 F2 F3
    obtain ⟨l0, l1⟩ := hl
    obtain ⟨q0, q1'⟩ := hq
    by_cases e : j = J
    · rw [if_pos e] at hd
      subst e
      clear HS HA
      rw [← HX.out, ← HY.out] at HB
      clear HX HY
      generalize rootI (sqd (X j) (Y j) (X (j + 1)) (Y (j + 1))) = q at *
      generalize d - lenI X Y j = r at *
      go_wp2
      refine wp_region_aftx x (by kernel_rfl) (by kernel_rfl) ?_
      repeat (go_big_quiet_step ((go_at_call 83; exact Aft.call (HD.out _))))
      refine wpQuiet_nil ?_
      intro z
      go_wp2
      have HM := Lib.hid (fun y => And.intro (m0 y) (And.intro (m1 y) (And.intro (m2 y) (m3 y))))
      have HK := Lib.hid k1
      have hB1 := hB1.below z.below
      have hB2 := hB2.below z.below
      have hB3 := hB3.below z.below
      have hbz := held_next hbW z.below
      have t0 := m0 z
      have t1 := m1 z
      have t2 := m2 z
      have t3 := m3 z
      have t4 := k1 z
      clear m0 m1 m2 m3 k1
      generalize hZ : z.w1 = Z at *
      have s0 := past1 t0
      have s1 := past1 t1
      have s2 := past1 t2
      have s3 := past1 t3
      have s4 := past1 t4
      have u0 := past2 t0
      have u1 := past2 t1
      have u2 := past2 t2
      have u3 := past2 t3
      have u4 := past2 t4
      clear hZ HM HK
      go_region
      · clear s0 s1 s2 s3 s4 u0 u1 u2 u3 u4 t0 t1 t2 t3 t4
        generalize hV : ((Z.alloc (.cells #[.int .i64 (X j), .int .i64 (Y j)] 27)).alloc (.cells #[.int .i64 (X (j + 1)), .int .i64 (Y (j + 1))] 27)).drew = V
        have hbV : Below Z.heap.size Z V := hV ▸ (by repeat (first | exact Below.refl _ _ | refine Below.alloc ?_ (by simp; try omega) _ | refine Below.drew ?_))
        have c0 : ∀ y : Aft V, y.w1.cell? ⟨Z.heap.size, 0, none⟩ = some (.int .i64 (X j)) := by subst hV; exact fun y => y.cell (by simp; try omega) (by simp [go_sem])
        have c1 : ∀ y : Aft V, y.w1.cell? ⟨Z.heap.size, 1, none⟩ = some (.int .i64 (Y j)) := by subst hV; exact fun y => y.cell (by simp; try omega) (by simp [go_sem])
        have c2 : ∀ y : Aft V, y.w1.cell? ⟨Z.heap.size + 1, 0, none⟩ = some (.int .i64 (X (j + 1))) := by subst hV; exact fun y => y.cell (by simp; try omega) (by simp [go_sem])
        have c3 : ∀ y : Aft V, y.w1.cell? ⟨Z.heap.size + 1, 1, none⟩ = some (.int .i64 (Y (j + 1))) := by subst hV; exact fun y => y.cell (by simp; try omega) (by simp [go_sem])
        have G1 := hB1.below hbV
        have G2 := hB2.below hbV
        have G3 := hB3.below hbV
        have gz := held_next hbz hbV
        have hlz := hB3.lt
        clear hV hbV hbz hB1 hB2 hB3
        go_wp2
        have nu1 : Z.heap.size ≠ w.heap.size + 1 := by omega
        have nu2 : Z.heap.size ≠ w.heap.size + 1 + 1 := by omega
        have nu3 : Z.heap.size ≠ w.heap.size + 1 + 1 + 1 := by omega
        have nv1 : Z.heap.size + 1 ≠ w.heap.size + 1 := by omega
        have nv2 : Z.heap.size + 1 ≠ w.heap.size + 1 + 1 := by omega
        have nv3 : Z.heap.size + 1 ≠ w.heap.size + 1 + 1 + 1 := by omega
        have e0 := c0 ⟨V, Below.refl _ _⟩
        have e1 := c1 ⟨V, Below.refl _ _⟩
        have e2 := c2 ⟨V, Below.refl _ _⟩
        have e3 := c3 ⟨V, Below.refl _ _⟩
        have a0 : ∀ y : Aft V, y.w1.cell? ⟨w.heap.size + 1, 0, none⟩ = some (.int .i64 0) := fun y => (G1.below y.below).cell 0
        have a1 : ∀ y : Aft V, y.w1.cell? ⟨w.heap.size + 1, 1, none⟩ = some (.int .i64 0) := fun y => (G1.below y.below).cell 1
        have a2 : ∀ y : Aft V, y.w1.cell? ⟨w.heap.size + 1 + 1, 0, none⟩ = some (.int .i64 0) := fun y => (G2.below y.below).cell 0
        have a3 : ∀ y : Aft V, y.w1.cell? ⟨w.heap.size + 1 + 1, 1, none⟩ = some (.int .i64 0) := fun y => (G2.below y.below).cell 1
        have a4 : ∀ y : Aft V, y.w1.cell? ⟨w.heap.size + 1 + 1 + 1, 0, none⟩ = some (.int .i64 0) := fun y => (G3.below y.below).cell 0
        have a5 : ∀ y : Aft V, y.w1.cell? ⟨w.heap.size + 1 + 1 + 1, 1, none⟩ = some (.int .i64 0) := fun y => (G3.below y.below).cell 1
        have b0 : ∀ y : Aft V, y.w1.frozen? ⟨w.heap.size + 1, 0, none⟩ = false := fun y => (G1.below y.below).frozen 0
        have b1 : ∀ y : Aft V, y.w1.frozen? ⟨w.heap.size + 1, 1, none⟩ = false := fun y => (G1.below y.below).frozen 1
        have b2 : ∀ y : Aft V, y.w1.frozen? ⟨w.heap.size + 1 + 1, 0, none⟩ = false := fun y => (G2.below y.below).frozen 0
        have b3 : ∀ y : Aft V, y.w1.frozen? ⟨w.heap.size + 1 + 1, 1, none⟩ = false := fun y => (G2.below y.below).frozen 1
        have b4 : ∀ y : Aft V, y.w1.frozen? ⟨w.heap.size + 1 + 1 + 1, 0, none⟩ = false := fun y => (G3.below y.below).frozen 0
        have b5 : ∀ y : Aft V, y.w1.frozen? ⟨w.heap.size + 1 + 1 + 1, 1, none⟩ = false := fun y => (G3.below y.below).frozen 1
        clear G1 G2 G3
        go_region_held3 (fun w' => w'.cell? ⟨Z.heap.size, 0, none⟩ = some (.int .i64 (X j)) ∧ w'.cell? ⟨Z.heap.size, 1, none⟩ = some (.int .i64 (Y j)) ∧ w'.cell? ⟨Z.heap.size + 1, 0, none⟩ = some (.int .i64 (X (j + 1))) ∧ w'.cell? ⟨Z.heap.size + 1, 1, none⟩ = some (.int .i64 (Y (j + 1))))
          (first | go_keep | exact ⟨by (first | with_reducible exact c0 y6 | with_reducible exact keep2 (c0 y6) nu1 | with_reducible exact keep2 (keep2 (c0 y6) nu1) nu2 | with_reducible exact keep2 (keep2 (keep2 (c0 y6) nu1) nu2) nu3), by (first | with_reducible exact c1 y6 | with_reducible exact keep2 (c1 y6) nu1 | with_reducible exact keep2 (keep2 (c1 y6) nu1) nu2 | with_reducible exact keep2 (keep2 (keep2 (c1 y6) nu1) nu2) nu3), by (first | with_reducible exact c2 y6 | with_reducible exact keep2 (c2 y6) nv1 | with_reducible exact keep2 (keep2 (c2 y6) nv1) nv2 | with_reducible exact keep2 (keep2 (keep2 (c2 y6) nv1) nv2) nv3), by (first | with_reducible exact c3 y6 | with_reducible exact keep2 (c3 y6) nv1 | with_reducible exact keep2 (keep2 (c3 y6) nv1) nv2 | with_reducible exact keep2 (keep2 (keep2 (c3 y6) nv1) nv2) nv3)⟩)
          (first
            | (go_at_call 83; refine (HD.out _).mono ?_; rintro e u6 ⟨rfl, b6⟩; obtain ⟨y6, rfl⟩ : ∃ x : Aft V, u6 = x.w1 := ⟨⟨u6, held_next (Below.refl V.heap.size V).drew b6⟩, rfl⟩)
            | (go_at_call 84; refine (HB.out _).mono ?_; rintro e u6 ⟨rfl, b6⟩; obtain ⟨y6, rfl⟩ : ∃ x : Aft V, u6 = x.w1 := ⟨⟨u6, held_next y6.below b6⟩, rfl⟩))
        have hbz := held_next gz y6.below
        have d0 := a0 y6
        have d1 := a1 y6
        have d2 := a2 y6
        have d3 := a3 y6
        have d4 := a4 y6
        have d5 := a5 y6
        clear a0 a1 a2 a3 a4 a5 b0 b1 b2 b3 b4 b5 c0 c1 c2 c3 e0 e1 e2 e3
        go_wp2
        refine bodyPost_ret (v := .tuple #[.agg #[.int .i64 rx, .int .i64 ry], .agg #[.int .i64 (X j), .int .i64 (Y j)], .agg #[.int .i64 (X (j + 1)), .int .i64 (Y (j + 1))]]) (by simp [results, Try.results50, go_sem, d0, d1, d2, d3, d4, d5]) rfl ⟨rfl, ?_⟩
        exact (((((hbz.setCell (by simp; try omega) _).setCell (by simp; try omega) _).setCell (by simp; try omega) _).setCell (by simp; try omega) _).setCell (by simp; try omega) _).setCell (by simp; try omega) _
      · clear s0 s1 s2 s3 s4 u0 u1 u2 u3 u4 t0 t1 t2 t3 t4
        generalize hV : ((Z.alloc (.cells #[.int .i64 (X (j + 1)), .int .i64 (Y (j + 1))] 27)).alloc (.cells #[.int .i64 (X j), .int .i64 (Y j)] 27)).drew = V
        have hbV : Below Z.heap.size Z V := hV ▸ (by repeat (first | exact Below.refl _ _ | refine Below.alloc ?_ (by simp; try omega) _ | refine Below.drew ?_))
        have c0 : ∀ y : Aft V, y.w1.cell? ⟨Z.heap.size + 1, 0, none⟩ = some (.int .i64 (X j)) := by subst hV; exact fun y => y.cell (by simp; try omega) (by simp [go_sem])
        have c1 : ∀ y : Aft V, y.w1.cell? ⟨Z.heap.size + 1, 1, none⟩ = some (.int .i64 (Y j)) := by subst hV; exact fun y => y.cell (by simp; try omega) (by simp [go_sem])
        have c2 : ∀ y : Aft V, y.w1.cell? ⟨Z.heap.size, 0, none⟩ = some (.int .i64 (X (j + 1))) := by subst hV; exact fun y => y.cell (by simp; try omega) (by simp [go_sem])
        have c3 : ∀ y : Aft V, y.w1.cell? ⟨Z.heap.size, 1, none⟩ = some (.int .i64 (Y (j + 1))) := by subst hV; exact fun y => y.cell (by simp; try omega) (by simp [go_sem])
        have G1 := hB1.below hbV
        have G2 := hB2.below hbV
        have G3 := hB3.below hbV
        have gz := held_next hbz hbV
        have hlz := hB3.lt
        clear hV hbV hbz hB1 hB2 hB3
        go_wp2
        have nu1 : Z.heap.size + 1 ≠ w.heap.size + 1 := by omega
        have nu2 : Z.heap.size + 1 ≠ w.heap.size + 1 + 1 := by omega
        have nu3 : Z.heap.size + 1 ≠ w.heap.size + 1 + 1 + 1 := by omega
        have nv1 : Z.heap.size ≠ w.heap.size + 1 := by omega
        have nv2 : Z.heap.size ≠ w.heap.size + 1 + 1 := by omega
        have nv3 : Z.heap.size ≠ w.heap.size + 1 + 1 + 1 := by omega
        have e0 := c0 ⟨V, Below.refl _ _⟩
        have e1 := c1 ⟨V, Below.refl _ _⟩
        have e2 := c2 ⟨V, Below.refl _ _⟩
        have e3 := c3 ⟨V, Below.refl _ _⟩
        have a0 : ∀ y : Aft V, y.w1.cell? ⟨w.heap.size + 1, 0, none⟩ = some (.int .i64 0) := fun y => (G1.below y.below).cell 0
        have a1 : ∀ y : Aft V, y.w1.cell? ⟨w.heap.size + 1, 1, none⟩ = some (.int .i64 0) := fun y => (G1.below y.below).cell 1
        have a2 : ∀ y : Aft V, y.w1.cell? ⟨w.heap.size + 1 + 1, 0, none⟩ = some (.int .i64 0) := fun y => (G2.below y.below).cell 0
        have a3 : ∀ y : Aft V, y.w1.cell? ⟨w.heap.size + 1 + 1, 1, none⟩ = some (.int .i64 0) := fun y => (G2.below y.below).cell 1
        have a4 : ∀ y : Aft V, y.w1.cell? ⟨w.heap.size + 1 + 1 + 1, 0, none⟩ = some (.int .i64 0) := fun y => (G3.below y.below).cell 0
        have a5 : ∀ y : Aft V, y.w1.cell? ⟨w.heap.size + 1 + 1 + 1, 1, none⟩ = some (.int .i64 0) := fun y => (G3.below y.below).cell 1
        have b0 : ∀ y : Aft V, y.w1.frozen? ⟨w.heap.size + 1, 0, none⟩ = false := fun y => (G1.below y.below).frozen 0
        have b1 : ∀ y : Aft V, y.w1.frozen? ⟨w.heap.size + 1, 1, none⟩ = false := fun y => (G1.below y.below).frozen 1
        have b2 : ∀ y : Aft V, y.w1.frozen? ⟨w.heap.size + 1 + 1, 0, none⟩ = false := fun y => (G2.below y.below).frozen 0
        have b3 : ∀ y : Aft V, y.w1.frozen? ⟨w.heap.size + 1 + 1, 1, none⟩ = false := fun y => (G2.below y.below).frozen 1
        have b4 : ∀ y : Aft V, y.w1.frozen? ⟨w.heap.size + 1 + 1 + 1, 0, none⟩ = false := fun y => (G3.below y.below).frozen 0
        have b5 : ∀ y : Aft V, y.w1.frozen? ⟨w.heap.size + 1 + 1 + 1, 1, none⟩ = false := fun y => (G3.below y.below).frozen 1
        clear G1 G2 G3
        go_region_held3 (fun w' => w'.cell? ⟨Z.heap.size + 1, 0, none⟩ = some (.int .i64 (X j)) ∧ w'.cell? ⟨Z.heap.size + 1, 1, none⟩ = some (.int .i64 (Y j)) ∧ w'.cell? ⟨Z.heap.size, 0, none⟩ = some (.int .i64 (X (j + 1))) ∧ w'.cell? ⟨Z.heap.size, 1, none⟩ = some (.int .i64 (Y (j + 1))))
          (first | go_keep | exact ⟨by (first | with_reducible exact c0 y6 | with_reducible exact keep2 (c0 y6) nu1 | with_reducible exact keep2 (keep2 (c0 y6) nu1) nu2 | with_reducible exact keep2 (keep2 (keep2 (c0 y6) nu1) nu2) nu3), by (first | with_reducible exact c1 y6 | with_reducible exact keep2 (c1 y6) nu1 | with_reducible exact keep2 (keep2 (c1 y6) nu1) nu2 | with_reducible exact keep2 (keep2 (keep2 (c1 y6) nu1) nu2) nu3), by (first | with_reducible exact c2 y6 | with_reducible exact keep2 (c2 y6) nv1 | with_reducible exact keep2 (keep2 (c2 y6) nv1) nv2 | with_reducible exact keep2 (keep2 (keep2 (c2 y6) nv1) nv2) nv3), by (first | with_reducible exact c3 y6 | with_reducible exact keep2 (c3 y6) nv1 | with_reducible exact keep2 (keep2 (c3 y6) nv1) nv2 | with_reducible exact keep2 (keep2 (keep2 (c3 y6) nv1) nv2) nv3)⟩)
          (first
            | (go_at_call 83; refine (HD.out _).mono ?_; rintro e u6 ⟨rfl, b6⟩; obtain ⟨y6, rfl⟩ : ∃ x : Aft V, u6 = x.w1 := ⟨⟨u6, held_next (Below.refl V.heap.size V).drew b6⟩, rfl⟩)
            | (go_at_call 84; refine (HB.out _).mono ?_; rintro e u6 ⟨rfl, b6⟩; obtain ⟨y6, rfl⟩ : ∃ x : Aft V, u6 = x.w1 := ⟨⟨u6, held_next y6.below b6⟩, rfl⟩))
        have hbz := held_next gz y6.below
        have d0 := a0 y6
        have d1 := a1 y6
        have d2 := a2 y6
        have d3 := a3 y6
        have d4 := a4 y6
        have d5 := a5 y6
        clear a0 a1 a2 a3 a4 a5 b0 b1 b2 b3 b4 b5 c0 c1 c2 c3 e0 e1 e2 e3
        go_wp2
        refine bodyPost_ret (v := .tuple #[.agg #[.int .i64 rx, .int .i64 ry], .agg #[.int .i64 (X j), .int .i64 (Y j)], .agg #[.int .i64 (X (j + 1)), .int .i64 (Y (j + 1))]]) (by simp [results, Try.results50, go_sem, d0, d1, d2, d3, d4, d5]) rfl ⟨rfl, ?_⟩
        exact (((((hbz.setCell (by simp; try omega) _).setCell (by simp; try omega) _).setCell (by simp; try omega) _).setCell (by simp; try omega) _).setCell (by simp; try omega) _).setCell (by simp; try omega) _
    · rw [if_neg e] at hd
      clear HD HB HX HY q1 q2 s0 s1
      generalize rootI (sqd (X j) (Y j) (X (j + 1)) (Y (j + 1))) = q at *
      generalize lenI X Y j = t at *
      go_wp2
      refine wp_region_aftx x (by kernel_rfl) (by kernel_rfl) ?_
      repeat (go_big_quiet_step ((go_at_call 83; exact Aft.call (HA.out _))))
      refine wpQuiet_nil ?_
      intro z
      go_wp2
      refine wp_region_aftx z (by kernel_rfl) (by kernel_rfl) ?_
      repeat (go_big_quiet_step ((go_at_call 83; exact Aft.call (HA.out _))))
      refine wpQuiet_nil ?_
      intro z
      go_wp2
      go_roundw
      case rel => exact ⟨j + 1, z, by omega, by go_num, rfl, by rw [HS.out]; congr 1; omega⟩
      case measure => simp [intOf]; omega
end Go.Proofs.Ytimfpnmcdicldaa
