/- Gates: what a gate is; the reference's and the program's. -/
import Derived.Test.YtimfpnmcdicldaaAlong
import Derived.Test.YtimfpnmcdicldaaQPlan
import Derived.Test.YtimfpnmcdicldaaAppF
namespace Go.Proofs.Ytimfpnmcdicldaa
open Go Go.RowKit
/-- The segment that is used at a distance. -/
noncomputable def segJ (X Y : Nat → Int) (n : Nat) (d : Int) : Nat := by
  classical
  exact if h : ∃ J, FirstSeg X Y n d J then Classical.choose h else 0
theorem segJ_of {X Y : Nat → Int} {n : Nat} {d : Int} (hn : 2 ≤ n) (h : d ≤ lenI X Y (n - 1)) : FirstSeg X Y n d (segJ X Y n d) := by
  have he : ∃ J, FirstSeg X Y n d J := first_seg hn h
  unfold segJ
  rw [dif_pos he]
  exact Classical.choose_spec he
/-- Half the width across a segment. -/
def offX (X Y : Nat → Int) (wd : Int) (J : Nat) : Int := dvR ((Y (J + 1) - Y J) * (wd / 2)) (rootI (sqd (X J) (Y J) (X (J + 1)) (Y (J + 1))))
def offY (X Y : Nat → Int) (wd : Int) (J : Nat) : Int := dvR ((X (J + 1) - X J) * (wd / 2)) (rootI (sqd (X J) (Y J) (X (J + 1)) (Y (J + 1))))
theorem btw_bd {a b c d i n : Int} (h1 : okP a b = true) (h2 : okP c d = true) (i0 : 0 ≤ i) (i1 : i ≤ n) (n0 : 1 ≤ n) (n1 : n ≤ 1500000) :
    (-400000000000 ≤ btwX a b c d i n ∧ btwX a b c d i n ≤ 400000000000) ∧ -400000000000 ≤ btwY a b c d i n ∧ btwY a b c d i n ≤ 400000000000 := by
  obtain ⟨⟨a0, a1⟩, b0, b1⟩ := okP_yes h1
  obtain ⟨⟨c0, c1⟩, d0, d1⟩ := okP_yes h2
  have bx := mul_abs (x := i) (y := c - a) (A := 1500000) (B := 200000) (by omega) (by omega) (by omega) (by omega) (by omega) (by omega)
  have b_y := mul_abs (x := i) (y := d - b) (A := 1500000) (B := 200000) (by omega) (by omega) (by omega) (by omega) (by omega) (by omega)
  have cx := mul_abs (x := n - i) (y := a - c) (A := 1500000) (B := 200000) (by omega) (by omega) (by omega) (by omega) (by omega) (by omega)
  have cy := mul_abs (x := n - i) (y := b - d) (A := 1500000) (B := 200000) (by omega) (by omega) (by omega) (by omega) (by omega) (by omega)
  have ex := dv_bd n0 bx.1 bx.2 (by omega)
  have ey := dv_bd n0 b_y.1 b_y.2 (by omega)
  have fx := dv_bd n0 cx.1 cx.2 (by omega)
  have fy := dv_bd n0 cy.1 cy.2 (by omega)
  unfold btwX btwY
  split <;> omega
theorem off_bd {X Y : Nat → Int} {wd : Int} {J : Nat} (h1 : okP (X J) (Y J) = true) (h2 : okP (X (J + 1)) (Y (J + 1)) = true) (q1 : 1 ≤ rootI (sqd (X J) (Y J) (X (J + 1)) (Y (J + 1)))) (hw0 : 10 ≤ wd) (hw1 : wd ≤ 5000) :
    ((-500000000 ≤ (Y (J + 1) - Y J) * (wd / 2) ∧ (Y (J + 1) - Y J) * (wd / 2) ≤ 500000000) ∧ -500000000 ≤ (X (J + 1) - X J) * (wd / 2) ∧ (X (J + 1) - X J) * (wd / 2) ≤ 500000000) ∧
    (-500000001 ≤ offX X Y wd J ∧ offX X Y wd J ≤ 500000001) ∧ -500000001 ≤ offY X Y wd J ∧ offY X Y wd J ≤ 500000001 := by
  obtain ⟨⟨a0, a1⟩, b0, b1⟩ := okP_yes h1
  obtain ⟨⟨c0, c1⟩, d0, d1⟩ := okP_yes h2
  have by_ := mul_abs (x := Y (J + 1) - Y J) (y := wd / 2) (A := 200000) (B := 2500) (by omega) (by omega) (by omega) (by omega) (by omega) (by omega)
  have bx := mul_abs (x := X (J + 1) - X J) (y := wd / 2) (A := 200000) (B := 2500) (by omega) (by omega) (by omega) (by omega) (by omega) (by omega)
  have ex := dv_bd q1 by_.1 by_.2 (by omega)
  have ey := dv_bd q1 bx.1 bx.2 (by omega)
  unfold offX offY
  exact ⟨⟨⟨by omega, by omega⟩, by omega, by omega⟩, ⟨by omega, by omega⟩, by omega, by omega⟩
set_option maxRecDepth 100000 in
set_option maxHeartbeats 8000000 in
theorem l13Gate_c (g : Nat) (nm : ByteArray) (wd : Int) (A : Option Addr) (n cap : Nat) (X Y : Nat → Int) (d : Int) (J : Nat) (w : World) (hn2 : n ≤ 12) (hw0 : 10 ≤ wd) (hw1 : wd ≤ 5000) (hS : Segs X Y n) (hF : FirstSeg X Y n d J) (d0 : 0 ≤ d) (d1 : d ≤ 18000000) (hR : Rec 2 w A n (vPoint X Y))
    (c0 : w.cell? ⟨g, 0, none⟩ = some (.string nm)) (c1 : w.cell? ⟨g, 1, none⟩ = some (.slice A n cap)) (c2 : w.cell? ⟨g, 2, none⟩ = some (.int .i64 wd)) :
    Calls Try.prog 89 #[.pointer (some ⟨g, 0, none⟩), .int .i64 d] w fun e w' => e = .returned (.agg #[.int .i64 d, .int .i64 (plX X Y J d - offX X Y wd J), .int .i64 (plY X Y J d + offY X Y wd J), .int .i64 (plX X Y J d + offX X Y wd J), .int .i64 (plY X Y J d - offY X Y wd J)]) ∧ Below w.heap.size w w' := by
  have hlt : J + 1 < n := hF.1
  have HF := Lib.hid (fun W h => l13Find_c A n cap X Y d J W hn2 hS.1 hF d0 d1 h)
  have o1 := hS.1 J (by omega)
  have o2 := hS.1 (J + 1) hlt
  have HA := Lib.hid (fun W => l02Apart_c _ _ _ _ o1 o2 W)
  have HP := Lib.hid (fun W h => l13Place_c A n cap X Y d J W hn2 hS hF d0 d1 h)
  obtain ⟨s0, s1⟩ := hF.rest d0
  have q1 := hS.2 J hlt
  have q2 := (rootP_bd o1 o2).2
  obtain ⟨⟨px0, px1⟩, py0, py1⟩ : (-400000000000 ≤ plX X Y J d ∧ plX X Y J d ≤ 400000000000) ∧ -400000000000 ≤ plY X Y J d ∧ plY X Y J d ≤ 400000000000 := btw_bd o1 o2 s0 s1 q1 q2
  obtain ⟨⟨⟨oy0, oy1⟩, ox0, ox1⟩, ⟨fx0, fx1⟩, fy0, fy1⟩ := off_bd o1 o2 q1 hw0 hw1
  have HDx : Hid (∀ W, Calls Try.prog 105 #[.int .i64 ((Y (J + 1) - Y J) * (wd / 2)), .int .i64 (rootI (sqd (X J) (Y J) (X (J + 1)) (Y (J + 1))))] W fun e w' => e = .returned (.int .i64 (offX X Y wd J)) ∧ W = w') := Lib.hid (fun W => l01Div_c _ _ q1 (by omega) (by omega) (by omega) W)
  have HDy : Hid (∀ W, Calls Try.prog 105 #[.int .i64 ((X (J + 1) - X J) * (wd / 2)), .int .i64 (rootI (sqd (X J) (Y J) (X (J + 1)) (Y (J + 1))))] W fun e w' => e = .returned (.int .i64 (offY X Y wd J)) ∧ W = w') := Lib.hid (fun W => l01Div_c _ _ q1 (by omega) (by omega) (by omega) W)
  obtain ⟨⟨ax0, ax1⟩, ay0, ay1⟩ := okP_yes o1
  obtain ⟨⟨bx0, bx1⟩, by0, by1⟩ := okP_yes o2
  generalize hW : w.alloc (.cells #[.int .i64 0, .int .i64 0, .int .i64 0, .int .i64 0, .int .i64 0] 84) = W
  have hbW : Below w.heap.size w W := hW ▸ (by repeat (first | exact Below.refl _ _ | refine Below.alloc ?_ (by simp; try omega) _ | refine Below.drew ?_))
  have hB : Blk W w.heap.size 84 #[.int .i64 0, .int .i64 0, .int .i64 0, .int .i64 0, .int .i64 0] := by subst hW; exact Blk.new _ _ _
  have hg : g < w.heap.size := cell_lt c0
  have k1 : ∀ y : Aft W, y.w1.cell? ⟨g, 1, none⟩ = some (.slice A n cap) := fun y => y.cell (Nat.lt_of_lt_of_le hg hbW.size) ((hbW.cell (p := ⟨g, 1, none⟩) hg).trans c1)
  have k2 : ∀ y : Aft W, y.w1.cell? ⟨g, 2, none⟩ = some (.int .i64 wd) := fun y => y.cell (Nat.lt_of_lt_of_le hg hbW.size) ((hbW.cell (p := ⟨g, 2, none⟩) hg).trans c2)
  replace hR := hR.below hbW
  have e1 := k1 ⟨W, Below.refl _ _⟩
  simp only at e1
  clear c0 c1 c2
  generalize plX X Y J d = px at *
  generalize plY X Y J d = py at *
  generalize offX X Y wd J = fx at *
  generalize offY X Y wd J = fy at *
  generalize rootI (sqd (X J) (Y J) (X (J + 1)) (Y (J + 1))) = q at *
  go_enter Try.func89, Try.ntmps89
  go_wp2_with fail
  refine (HF.out _ hR).mono ?_
  rintro e w1 ⟨rfl, hb1⟩
  obtain ⟨x, rfl⟩ : ∃ x : Aft W, w1 = x.w1 := ⟨⟨w1, hb1⟩, rfl⟩
  clear HF e1 hb1
  obtain ⟨b, o, hi⟩ := hR
  obtain ⟨rfl, hc⟩ := hi J (by omega)
  obtain ⟨_, hc2⟩ := hi (J + 1) hlt
  have p0 : W.cell? ⟨b, o + J * 2, none⟩ = some (.int .i64 (X J)) := by simpa [vPoint, Nat.add_assoc] using hc 0 (by omega)
  have p1 : W.cell? ⟨b, o + J * 2 + 1, none⟩ = some (.int .i64 (Y J)) := by simpa [vPoint, Nat.add_assoc] using hc 1 (by omega)
  have p2 : W.cell? ⟨b, o + (J + 1) * 2, none⟩ = some (.int .i64 (X (J + 1))) := by simpa [vPoint, Nat.add_assoc] using hc2 0 (by omega)
  have p3 : W.cell? ⟨b, o + (J + 1) * 2 + 1, none⟩ = some (.int .i64 (Y (J + 1))) := by simpa [vPoint, Nat.add_assoc] using hc2 1 (by omega)
  have m0 : ∀ y : Aft W, y.w1.cell? ⟨b, o + J * 2, none⟩ = some (.int .i64 (X J)) := fun y => y.cell (cell_lt p0) p0
  have m1 : ∀ y : Aft W, y.w1.cell? ⟨b, o + J * 2 + 1, none⟩ = some (.int .i64 (Y J)) := fun y => y.cell (cell_lt p1) p1
  have m2 : ∀ y : Aft W, y.w1.cell? ⟨b, o + (J + 1) * 2, none⟩ = some (.int .i64 (X (J + 1))) := fun y => y.cell (cell_lt p2) p2
  have m3 : ∀ y : Aft W, y.w1.cell? ⟨b, o + (J + 1) * 2 + 1, none⟩ = some (.int .i64 (Y (J + 1))) := fun y => y.cell (cell_lt p3) p3
  clear hc hc2 p0 p1 p2 p3
  have s1 := past1 (k1 x)
  have s2 := past1 (m2 x)
  have s3 := past1 (m3 x)
  go_wp2_with fail
  clear s1 s2 s3
  generalize hW1 : (x.w1.alloc (.cells #[.int .i64 (X J), .int .i64 (Y J)] 27)).alloc (.cells #[.int .i64 (X (J + 1)), .int .i64 (Y (J + 1))] 27) = W1
  have hbX : Below x.w1.heap.size x.w1 W1 := hW1 ▸ (by repeat (first | exact Below.refl _ _ | refine Below.alloc ?_ (by simp; try omega) _ | refine Below.drew ?_))
  have hU : Blk W1 x.w1.heap.size 27 #[.int .i64 (X J), .int .i64 (Y J)] := by subst hW1; exact (Blk.new _ _ _).below (by repeat (first | exact Below.refl _ _ | refine Below.alloc ?_ (by simp; try omega) _ | refine Below.drew ?_))
  have hV : Blk W1 (x.w1.heap.size + 1) 27 #[.int .i64 (X (J + 1)), .int .i64 (Y (J + 1))] := by subst hW1; have := Blk.new (x.w1.alloc (.cells #[.int .i64 (X J), .int .i64 (Y J)] 27)) 27 #[.int .i64 (X (J + 1)), .int .i64 (Y (J + 1))]; rwa [World.size_alloc] at this
  have hb1 : Below W.heap.size W W1 := held_next x.below hbX
  clear hW1
  have u0 : ∀ y : Aft W1, y.w1.cell? ⟨x.w1.heap.size, 0, none⟩ = some (.int .i64 (X J)) := fun y => (hU.below y.below).cell 0
  have u1 : ∀ y : Aft W1, y.w1.cell? ⟨x.w1.heap.size, 1, none⟩ = some (.int .i64 (Y J)) := fun y => (hU.below y.below).cell 1
  have v0 : ∀ y : Aft W1, y.w1.cell? ⟨x.w1.heap.size + 1, 0, none⟩ = some (.int .i64 (X (J + 1))) := fun y => (hV.below y.below).cell 0
  have v1 : ∀ y : Aft W1, y.w1.cell? ⟨x.w1.heap.size + 1, 1, none⟩ = some (.int .i64 (Y (J + 1))) := fun y => (hV.below y.below).cell 1
  replace k1 : ∀ y : Aft W1, y.w1.cell? ⟨g, 1, none⟩ = some (.slice (some ⟨b, o, none⟩) n cap) := fun y => k1 ⟨y.w1, held_next hb1 y.below⟩
  replace k2 : ∀ y : Aft W1, y.w1.cell? ⟨g, 2, none⟩ = some (.int .i64 wd) := fun y => k2 ⟨y.w1, held_next hb1 y.below⟩
  replace hB := hB.below hb1
  replace hbW := held_next hbW hb1
  have hR1 : Rec 2 W1 (some ⟨b, o, none⟩) n (vPoint X Y) := (show Rec 2 W (some ⟨b, o, none⟩) n (vPoint X Y) from ⟨b, o, fun i hi' => ⟨rfl, (hi i hi').2⟩⟩).below hb1
  clear m0 m1 m2 m3 hU hV hb1 hbX hi
  generalize x.w1.heap.size = gu at *
  refine (HA.out _).mono ?_
  rintro e w2 ⟨rfl, hb2⟩
  obtain ⟨x2, rfl⟩ : ∃ x : Aft W1, w2 = x.w1 := ⟨⟨w2, hb2⟩, rfl⟩
  clear hb2 HA
  go_wp2_with fail
  refine (HP.out _ (hR1.below x2.below)).mono ?_
  rintro e w3 ⟨rfl, hb3⟩
  obtain ⟨x3, rfl⟩ : ∃ x : Aft W1, w3 = x.w1 := ⟨⟨w3, held_next x2.below hb3⟩, rfl⟩
  clear hb3 HP
  have t0 := past1 (u0 x3)
  have t1 := past1 (u1 x3)
  have t2 := past1 (v0 x3)
  have t3 := past1 (v1 x3)
  have t4 := past1 (k2 x3)
  go_wp2_with fail
  clear t0 t1 t2 t3 t4
  generalize hW2 : x3.w1.alloc (.cells #[.int .i64 px, .int .i64 py] 27) = W2
  have hbX : Below x3.w1.heap.size x3.w1 W2 := hW2 ▸ (by repeat (first | exact Below.refl _ _ | refine Below.alloc ?_ (by simp; try omega) _ | refine Below.drew ?_))
  have hPb : Blk W2 x3.w1.heap.size 27 #[.int .i64 px, .int .i64 py] := by subst hW2; exact Blk.new _ _ _
  have hb1 : Below W1.heap.size W1 W2 := held_next x3.below hbX
  clear hW2
  have p0 : ∀ y : Aft W2, y.w1.cell? ⟨x3.w1.heap.size, 0, none⟩ = some (.int .i64 px) := fun y => (hPb.below y.below).cell 0
  have p1 : ∀ y : Aft W2, y.w1.cell? ⟨x3.w1.heap.size, 1, none⟩ = some (.int .i64 py) := fun y => (hPb.below y.below).cell 1
  replace u0 : ∀ y : Aft W2, y.w1.cell? ⟨gu, 0, none⟩ = some (.int .i64 (X J)) := fun y => u0 ⟨y.w1, held_next hb1 y.below⟩
  replace u1 : ∀ y : Aft W2, y.w1.cell? ⟨gu, 1, none⟩ = some (.int .i64 (Y J)) := fun y => u1 ⟨y.w1, held_next hb1 y.below⟩
  replace v0 : ∀ y : Aft W2, y.w1.cell? ⟨gu + 1, 0, none⟩ = some (.int .i64 (X (J + 1))) := fun y => v0 ⟨y.w1, held_next hb1 y.below⟩
  replace v1 : ∀ y : Aft W2, y.w1.cell? ⟨gu + 1, 1, none⟩ = some (.int .i64 (Y (J + 1))) := fun y => v1 ⟨y.w1, held_next hb1 y.below⟩
  replace k2 : ∀ y : Aft W2, y.w1.cell? ⟨g, 2, none⟩ = some (.int .i64 wd) := fun y => k2 ⟨y.w1, held_next hb1 y.below⟩
  replace hB := hB.below hb1
  replace hbW := held_next hbW hb1
  clear hPb hb1 hbX k1 hR1
  generalize x3.w1.heap.size = gp at *
  refine wp_region_aft (by kernel_rfl) (by kernel_rfl) ?_
  iterate 12 (go_big_quiet_step (fail))
  go_big_quiet_step ((go_at_call 105; exact Aft.same (HDx.out _)))
  iterate 1 (go_big_quiet_step (fail))
  refine wpQuiet_nil ?_
  intro w4 hb4
  obtain ⟨x4, rfl⟩ : ∃ x : Aft W2, w4 = x.w1 := ⟨⟨w4, hb4⟩, rfl⟩
  go_wp2_with fail
  refine wp_region_aftx x4 (by kernel_rfl) (by kernel_rfl) ?_
  iterate 12 (go_big_quiet_step (fail))
  go_big_quiet_step ((go_at_call 105; exact Aft.same (HDy.out _)))
  iterate 1 (go_big_quiet_step (fail))
  refine wpQuiet_nil ?_
  intro x5
  have cZ := (hB.below x5.below).cell
  have fZ := (hB.below x5.below).frozen
  have hb5 := held_next hbW x5.below
  have e0 := p0 x5
  have e1 := p1 x5
  clear hB u0 u1 v0 v1 k2 HDx HDy p0 p1
  go_wp2
  refine bodyPost_ret (v := .agg #[.int .i64 d, .int .i64 (px - fx), .int .i64 (py + fy), .int .i64 (px + fx), .int .i64 (py - fy)]) (by simp [results, Try.results89, go_sem, cZ]) rfl ⟨rfl, ?_⟩
  exact ((((hb5.setCell (by simp) _).setCell (by simp) _).setCell (by simp) _).setCell (by simp) _).setCell (by simp) _
set_option maxRecDepth 100000 in
set_option maxHeartbeats 8000000 in
theorem gate_c (nm : ByteArray) (wd : Int) (A : Option Addr) (n cap : Nat) (X Y : Nat → Int) (d : Int) (J : Nat) (w : World) (hn2 : n ≤ 12) (hw0 : 10 ≤ wd) (hw1 : wd ≤ 5000) (hS : Segs X Y n) (hF : FirstSeg X Y n d J) (d0 : 0 ≤ d) (d1 : d ≤ 18000000) (hR : Rec 2 w A n (vPoint X Y)) :
    Calls Try.prog 59 #[.agg #[.string nm, .slice A n cap, .int .i64 wd], .int .i64 d] w fun e w' => e = .returned (.agg #[.int .i64 d, .int .i64 (plX X Y J d - offX X Y wd J), .int .i64 (plY X Y J d + offY X Y wd J), .int .i64 (plX X Y J d + offX X Y wd J), .int .i64 (plY X Y J d - offY X Y wd J)]) ∧ Below w.heap.size w w' := by
  have hlt : J + 1 < n := hF.1
  have o1 := hS.1 J (by omega)
  have o2 := hS.1 (J + 1) hlt
  have HA := Lib.hid (fun W => distance_c _ _ _ _ o1 o2 W)
  have HP := Lib.hid (fun W h => along_c nm wd A n cap X Y d J W hn2 hS hF d0 d1 h)
  obtain ⟨s0, s1⟩ := hF.rest d0
  have q1 := hS.2 J hlt
  have q2 := (rootP_bd o1 o2).2
  obtain ⟨⟨px0, px1⟩, py0, py1⟩ : (-400000000000 ≤ plX X Y J d ∧ plX X Y J d ≤ 400000000000) ∧ -400000000000 ≤ plY X Y J d ∧ plY X Y J d ≤ 400000000000 := btw_bd o1 o2 s0 s1 q1 q2
  obtain ⟨⟨⟨oy0, oy1⟩, ox0, ox1⟩, ⟨fx0, fx1⟩, fy0, fy1⟩ := off_bd o1 o2 q1 hw0 hw1
  have HDx : Hid (∀ W, Calls Try.prog 90 #[.int .i64 ((Y (J + 1) - Y J) * (wd / 2)), .int .i64 (rootI (sqd (X J) (Y J) (X (J + 1)) (Y (J + 1))))] W fun e w' => e = .returned (.int .i64 (offX X Y wd J)) ∧ W = w') := Lib.hid (fun W => divRound_c _ _ q1 (by omega) (by omega) (by omega) W)
  have HDy : Hid (∀ W, Calls Try.prog 90 #[.int .i64 ((X (J + 1) - X J) * (wd / 2)), .int .i64 (rootI (sqd (X J) (Y J) (X (J + 1)) (Y (J + 1))))] W fun e w' => e = .returned (.int .i64 (offY X Y wd J)) ∧ W = w') := Lib.hid (fun W => divRound_c _ _ q1 (by omega) (by omega) (by omega) W)
  obtain ⟨⟨ax0, ax1⟩, ay0, ay1⟩ := okP_yes o1
  obtain ⟨⟨bx0, bx1⟩, by0, by1⟩ := okP_yes o2
  clear hS hF s0 s1 o1 o2
  generalize plX X Y J d = px at *
  generalize plY X Y J d = py at *
  generalize offX X Y wd J = fx at *
  generalize offY X Y wd J = fy at *
  generalize rootI (sqd (X J) (Y J) (X (J + 1)) (Y (J + 1))) = q at *
  generalize X J = xa at *
  generalize Y J = ya at *
  generalize X (J + 1) = xb at *
  generalize Y (J + 1) = yb at *
  generalize hW : (w.alloc (.cells #[.string nm, .slice A n cap, .int .i64 wd] 32)).alloc (.cells #[.int .i64 0, .int .i64 0, .int .i64 0, .int .i64 0, .int .i64 0] 84) = W
  have hbW : Below w.heap.size w W := hW ▸ (by repeat (first | exact Below.refl _ _ | refine Below.alloc ?_ (by simp; try omega) _ | refine Below.drew ?_))
  have hC : Blk W w.heap.size 32 #[.string nm, .slice A n cap, .int .i64 wd] := by subst hW; exact (Blk.new _ _ _).below (by repeat (first | exact Below.refl _ _ | refine Below.alloc ?_ (by simp; try omega) _ | refine Below.drew ?_))
  have hB : Blk W (w.heap.size + 1) 84 #[.int .i64 0, .int .i64 0, .int .i64 0, .int .i64 0, .int .i64 0] := by subst hW; have := Blk.new (w.alloc (.cells #[.string nm, .slice A n cap, .int .i64 wd] 32)) 84 #[.int .i64 0, .int .i64 0, .int .i64 0, .int .i64 0, .int .i64 0]; rwa [World.size_alloc] at this
  replace hR := hR.below hbW
  have cC := hC.cell
  go_enter Try.func59, Try.ntmps59
  go_wp2_with fail
  refine (HP.out _ hR).mono ?_
  rintro e w1 ⟨rfl, hb1⟩
  replace hB := hB.below hb1
  replace hC := hC.below hb1
  replace hbW := held_next hbW hb1
  clear HP hR hb1 hW cC
  go_wp2_with fail
  generalize hW1 : ((w1.alloc (.cells #[.int .i64 px, .int .i64 py] 27)).alloc (.cells #[.int .i64 xa, .int .i64 ya] 27)).alloc (.cells #[.int .i64 xb, .int .i64 yb] 27) = W1
  have hbX : Below w1.heap.size w1 W1 := hW1 ▸ (by repeat (first | exact Below.refl _ _ | refine Below.alloc ?_ (by simp; try omega) _ | refine Below.drew ?_))
  have hP1 : Blk W1 w1.heap.size 27 #[.int .i64 px, .int .i64 py] := by subst hW1; exact ((Blk.new _ _ _).below (w' := (w1.alloc (.cells #[.int .i64 px, .int .i64 py] 27)).alloc (.cells #[.int .i64 xa, .int .i64 ya] 27)) (by repeat (first | exact Below.refl _ _ | refine Below.alloc ?_ (by simp; try omega) _ | refine Below.drew ?_))).below (by repeat (first | exact Below.refl _ _ | refine Below.alloc ?_ (by simp; try omega) _ | refine Below.drew ?_))
  have hU : Blk W1 (w1.heap.size + 1) 27 #[.int .i64 xa, .int .i64 ya] := by subst hW1; have := Blk.new (w1.alloc (.cells #[.int .i64 px, .int .i64 py] 27)) 27 #[.int .i64 xa, .int .i64 ya]; rw [World.size_alloc] at this; exact this.below (by repeat (first | exact Below.refl _ _ | refine Below.alloc ?_ (by simp; try omega) _ | refine Below.drew ?_))
  have hV : Blk W1 (w1.heap.size + 1 + 1) 27 #[.int .i64 xb, .int .i64 yb] := by subst hW1; exact Blk.new2 _ _ _ _ _
  replace hB := hB.below hbX
  replace hC := hC.below hbX
  replace hbW := held_next hbW hbX
  clear hW1 hbX
  generalize w1.heap.size = gp at *
  have p0 : ∀ y : Aft W1, y.w1.cell? ⟨gp, 0, none⟩ = some (.int .i64 px) := fun y => (hP1.below y.below).cell 0
  have p1 : ∀ y : Aft W1, y.w1.cell? ⟨gp, 1, none⟩ = some (.int .i64 py) := fun y => (hP1.below y.below).cell 1
  have u0 : ∀ y : Aft W1, y.w1.cell? ⟨gp + 1, 0, none⟩ = some (.int .i64 xa) := fun y => (hU.below y.below).cell 0
  have u1 : ∀ y : Aft W1, y.w1.cell? ⟨gp + 1, 1, none⟩ = some (.int .i64 ya) := fun y => (hU.below y.below).cell 1
  have v0 : ∀ y : Aft W1, y.w1.cell? ⟨gp + 1 + 1, 0, none⟩ = some (.int .i64 xb) := fun y => (hV.below y.below).cell 0
  have v1 : ∀ y : Aft W1, y.w1.cell? ⟨gp + 1 + 1, 1, none⟩ = some (.int .i64 yb) := fun y => (hV.below y.below).cell 1
  have k2 : ∀ y : Aft W1, y.w1.cell? ⟨w.heap.size, 2, none⟩ = some (.int .i64 wd) := fun y => (hC.below y.below).cell 2
  clear hP1 hU hV hC
  refine wp_region_aft (by kernel_rfl) (by kernel_rfl) ?_
  repeat (go_big_quiet_step (first
    | (go_at_call 83; exact Aft.call (HA.out _))
    | (go_at_call 90; exact Aft.same (HDx.out _))))
  refine wpQuiet_nil ?_
  intro w4 hb4
  obtain ⟨x4, rfl⟩ : ∃ x : Aft W1, w4 = x.w1 := ⟨⟨w4, hb4⟩, rfl⟩
  go_wp2_with fail
  refine wp_region_aftx x4 (by kernel_rfl) (by kernel_rfl) ?_
  repeat (go_big_quiet_step (first
    | (go_at_call 83; exact Aft.call (HA.out _))
    | (go_at_call 90; exact Aft.same (HDy.out _))))
  refine wpQuiet_nil ?_
  intro x5
  have cZ := (hB.below x5.below).cell
  have fZ := (hB.below x5.below).frozen
  have hb5 := held_next hbW x5.below
  have e0 := p0 x5
  have e1 := p1 x5
  clear hB u0 u1 v0 v1 k2 HDx HDy p0 p1 HA
  go_wp2
  refine bodyPost_ret (v := .agg #[.int .i64 d, .int .i64 (px - fx), .int .i64 (py + fy), .int .i64 (px + fx), .int .i64 (py - fy)]) (by simp [results, Try.results59, go_sem, cZ]) rfl ⟨rfl, ?_⟩
  exact ((((hb5.setCell (by simp) _).setCell (by simp) _).setCell (by simp) _).setCell (by simp) _).setCell (by simp) _
end Go.Proofs.Ytimfpnmcdicldaa
