/- The text of a channel, on both sides. -/
import Derived.Test.YtimfpnmcdicldaaDoorSecT
import Derived.Test.YtimfpnmcdicldaaDoorChan
namespace Go.Proofs.YtimfpnmcdicldaaDoor
open Go Go.RowKit Go.Shelf
/-- The text of a point. -/
def pntT (x y : Int) : ByteArray := dec x ++ (⟨#[44]⟩ : ByteArray) ++ dec y
theorem pntT_size {x y : Int} (h : okP x y = true) : (pntT x y).size ≤ 50 := by
  obtain ⟨⟨a0, a1⟩, b0, b1⟩ := okP_yes h
  have s1 := dec_small (n := x) (by omega) (by omega)
  have s2 := dec_small (n := y) (by omega) (by omega)
  have : ((⟨#[44]⟩ : ByteArray)).size = 1 := rfl
  unfold pntT
  simp only [ByteArray.size_append]
  omega
/-- The texts of the first k points, each behind a blank. -/
def pntsT (X Y : Nat → Int) : Nat → ByteArray
  | 0 => ⟨#[]⟩
  | k + 1 => pntsT X Y k ++ ((⟨#[32]⟩ : ByteArray) ++ pntT (X k) (Y k))
def chTxt (nm : ByteArray) (wd : Int) (X Y : Nat → Int) (n : Nat) : ByteArray := nm ++ (⟨#[32]⟩ : ByteArray) ++ dec wd ++ pntsT X Y n
theorem chTxt_step (nm : ByteArray) (wd : Int) (X Y : Nat → Int) (k : Nat) : chTxt nm wd X Y (k + 1) = chTxt nm wd X Y k ++ ((⟨#[32]⟩ : ByteArray) ++ pntT (X k) (Y k)) := by
  unfold chTxt
  rw [pntsT]
  simp only [ByteArray.append_assoc]
theorem chTxt_zero (nm : ByteArray) (wd : Int) (X Y : Nat → Int) : chTxt nm wd X Y 0 = nm ++ (⟨#[32]⟩ : ByteArray) ++ dec wd := by
  unfold chTxt
  rw [pntsT]
  exact ByteArray.append_empty
theorem pntsT_size {X Y : Nat → Int} : ∀ k, (∀ i, i < k → okP (X i) (Y i) = true) → (pntsT X Y k).size ≤ 60 * k
  | 0, _ => Nat.zero_le _
  | k + 1, h => by
    have h1 := pntsT_size k (fun i hi => h i (by omega))
    have h2 := pntT_size (h k (by omega))
    have : ((⟨#[32]⟩ : ByteArray)).size = 1 := rfl
    rw [pntsT]
    simp only [ByteArray.size_append]
    omega
theorem chTxt_size {nm : ByteArray} {wd : Int} {X Y : Nat → Int} {k : Nat} (hs : nm.size ≤ 10) (hw : 10 ≤ wd ∧ wd ≤ 5000) (h : ∀ i, i < k → okP (X i) (Y i) = true) : (chTxt nm wd X Y k).size ≤ 100 + 60 * k := by
  have h1 := pntsT_size k h
  have s1 := dec_small (n := wd) (by omega) (by omega)
  have : ((⟨#[32]⟩ : ByteArray)).size = 1 := rfl
  unfold chTxt
  simp only [ByteArray.size_append]
  omega
set_option maxHeartbeats 1000000 in
theorem l02Text_c (x y : Int) (h : okP x y = true) (w : World) :
    Calls Tryd.prog 66 #[.agg #[.int .i64 x, .int .i64 y]] w fun e w' => e = .returned (.string (pntT x y)) ∧ Below w.heap.size w w' := by
  obtain ⟨⟨a0, a1⟩, b0, b1⟩ := okP_yes h
  have s1 := dec_small (n := x) (by omega) (by omega)
  have s2 := dec_small (n := y) (by omega) (by omega)
  have H1 := Lib.hid (fun W => l01Dec_nn x (by omega) (by omega) W)
  have H2 := Lib.hid (fun W => l01Dec_nn y (by omega) (by omega) W)
  have hX := Lib.hid (show pntT x y = dec x ++ (⟨#[44]⟩ : ByteArray) ++ dec y from rfl)
  generalize pntT x y = X at *
  generalize dec x = a at *
  generalize dec y = b at *
  generalize hW : w.alloc (.cells #[.int .i64 x, .int .i64 y] 61) = W
  have hbW : Below w.heap.size w W := hW ▸ (by repeat (first | exact Below.refl _ _ | refine Below.alloc ?_ (by simp; try omega) _ | refine Below.drew ?_))
  have k0 : ∀ z : Aft W, z.w1.cell? ⟨w.heap.size, 0, none⟩ = some (.int .i64 x) := by subst hW; exact fun z => z.new rfl
  have k1 : ∀ z : Aft W, z.w1.cell? ⟨w.heap.size, 1, none⟩ = some (.int .i64 y) := by subst hW; exact fun z => z.new rfl
  go_enter Tryd.func66, Tryd.ntmps66
  go_wp2_with fail
  refine wp_region_aft (by kernel_rfl) (by kernel_rfl) ?_
  go_big_quiet_step (fail)
  go_big_quiet_step (fail)
  go_big_quiet_step ((go_at_call 56; exact Aft.call (H1.out _)))
  repeat (go_big_quiet_step ((go_at_call 56; exact Aft.call (H2.out _))))
  refine wpQuiet_nil ?_
  intro w7 hb7
  go_wp2
  go_ret
  exact ⟨by rw [hX.out]; rfl, held_next hbW hb7⟩
set_option maxHeartbeats 2000000 in
theorem l13Text_c (g : Nat) (nm : ByteArray) (A : Option Addr) (n cap : Nat) (wd : Int) (X Y : Nat → Int) (w : World) (hs : nm.size ≤ 10) (hn : n ≤ 12) (hw : 10 ≤ wd ∧ wd ≤ 5000) (hP : ∀ i, i < n → okP (X i) (Y i) = true) (hR : Rec 2 w A n (vPoint X Y))
    (c0 : w.cell? ⟨g, 0, none⟩ = some (.string nm)) (c1 : w.cell? ⟨g, 1, none⟩ = some (.slice A n cap)) (c2 : w.cell? ⟨g, 2, none⟩ = some (.int .i64 wd)) :
    Calls Tryd.prog 30 #[.pointer (some ⟨g, 0, none⟩)] w fun e w' => e = .returned (.string (chTxt nm wd X Y n)) ∧ Below w.heap.size w w' := by
  have hg : g < w.heap.size := cell_lt c0
  have k0 : ∀ y : Aft w, y.w1.cell? ⟨g, 0, none⟩ = some (.string nm) := fun y => y.cell hg c0
  have k1 : ∀ y : Aft w, y.w1.cell? ⟨g, 1, none⟩ = some (.slice A n cap) := fun y => y.cell hg c1
  have k2 : ∀ y : Aft w, y.w1.cell? ⟨g, 2, none⟩ = some (.int .i64 wd) := fun y => y.cell hg c2
  have s1 := dec_small (n := wd) (by omega) (by omega)
  have HD := Lib.hid (fun W => l01Dec_nn wd (by omega) (by omega) W)
  have HT := Lib.hid (fun k hk W => l02Text_c (X k) (Y k) (hP k hk) W)
  have HZ := Lib.hid (fun k (hk : k ≤ n) => chTxt_size (nm := nm) (wd := wd) (X := X) (Y := Y) (k := k) hs hw (fun i hi => hP i (by omega)))
  have HS := Lib.hid (fun k hk => pntT_size (hP k hk))
  have HX := Lib.hid (chTxt_step nm wd X Y)
  have H0 := Lib.hid (chTxt_zero nm wd X Y)
  clear hP
  generalize chTxt nm wd X Y = T at *
  generalize dec wd = dw at *
  go_enter Tryd.func30, Tryd.ntmps30
  go_wp2_with fail
  refine wp_region_aft (by kernel_rfl) (by kernel_rfl) ?_
  repeat (go_big_quiet_step ((go_at_call 56; exact Aft.call (HD.out _))))
  refine wpQuiet_nil ?_
  intro w1 hb1
  go_wp2
  go_loopw [3, 4] (fun o i wr => ∃ (k : Nat) (x : Aft w), k ≤ n ∧ o = .string (T k) ∧ i = .int .i64 k ∧ wr = x.w1) (fun _ i _ => n - (intOf i).toNat)
  case atStart => exact ⟨0, ⟨w1, hb1⟩, by omega, by rw [H0.out], rfl, rfl⟩
  case round =>
    obtain ⟨k, x, hk, rfl, rfl, rfl⟩ := hrel
    have q1 := k1 x
    by_cases hlt : k < n
    · obtain ⟨b, o, hi⟩ := hR.aft x
      obtain ⟨rfl, hc⟩ := hi k hlt
      have p0 : x.w1.cell? ⟨b, o + k * 2, none⟩ = some (.int .i64 (X k)) := by simpa [vPoint, Nat.add_assoc] using hc 0 (by omega)
      have p1 : x.w1.cell? ⟨b, o + k * 2 + 1, none⟩ = some (.int .i64 (Y k)) := by simpa [vPoint, Nat.add_assoc] using hc 1 (by omega)
      have z1 := HZ.out k hk
      have z2 := HS.out k hlt
      clear hc hi
      go_wp2_with (go_at_call 66; refine (Aft.call (HT.out k hlt _)).mono ?_; rintro e _ ⟨rfl, y, rfl⟩)
      go_roundw
      case rel => exact ⟨k + 1, y, by omega, by rw [HX.out], by go_num, rfl⟩
      case measure => simp [intOf]; omega
    · obtain rfl : k = n := by omega
      go_wp2
      go_ret
      exact ⟨rfl, x.below⟩
set_option maxHeartbeats 1000000 in
theorem pointText_c (x y : Int) (h : okP x y = true) (w : World) (hT : Pows w) :
    Calls Tryd.prog 34 #[.agg #[.int .i64 x, .int .i64 y]] w fun e w' => e = .returned (.string (pntT x y)) ∧ Below w.heap.size w w' := by
  obtain ⟨⟨a0, a1⟩, b0, b1⟩ := okP_yes h
  have s1 := dec_small (n := x) (by omega) (by omega)
  have s2 := dec_small (n := y) (by omega) (by omega)
  have HV := Lib.hid (fun W => validPoint_c x y true h W)
  have H1 := Lib.hid (fun W h => decimal_c x (by omega) (by omega) W h)
  have H2 := Lib.hid (fun W h => decimal_c y (by omega) (by omega) W h)
  have hX := Lib.hid (show pntT x y = dec x ++ (⟨#[44]⟩ : ByteArray) ++ dec y from rfl)
  generalize pntT x y = X at *
  generalize dec x = a at *
  generalize dec y = b at *
  generalize hW : w.alloc (.cells #[.int .i64 x, .int .i64 y] 61) = W
  have hbW : Below w.heap.size w W := hW ▸ (by repeat (first | exact Below.refl _ _ | refine Below.alloc ?_ (by simp; try omega) _ | refine Below.drew ?_))
  have HT := Lib.hid (hT.below hbW)
  have k0 : ∀ z : Aft W, z.w1.cell? ⟨w.heap.size, 0, none⟩ = some (.int .i64 x) := by subst hW; exact fun z => z.new rfl
  have k1 : ∀ z : Aft W, z.w1.cell? ⟨w.heap.size, 1, none⟩ = some (.int .i64 y) := by subst hW; exact fun z => z.new rfl
  have z0 := k0 ⟨W, Below.refl _ _⟩
  have z1 := k1 ⟨W, Below.refl _ _⟩
  simp only at z0 z1
  clear hT h
  go_enter Tryd.func34, Tryd.ntmps34
  go_wp2_with fail
  refine (Aft.first (w := W) (HV.out W)).mono ?_
  rintro e _ ⟨rfl, x1, rfl⟩
  clear z0 z1
  go_wp2_with fail
  refine wp_region_aftx x1 (by kernel_rfl) (by kernel_rfl) ?_
  go_big_quiet_step (fail)
  go_big_quiet_step (fail)
  go_big_quiet_step ((go_at_call 33; exact Aft.call (H1.out _ (HT.out.below (Aft.below _)))))
  repeat (go_big_quiet_step ((go_at_call 33; exact Aft.call (H2.out _ (HT.out.below (Aft.below _))))))
  refine wpQuiet_nil ?_
  intro z7
  go_wp2
  go_ret
  exact ⟨by rw [hX.out]; rfl, held_next hbW z7.below⟩
end Go.Proofs.YtimfpnmcdicldaaDoor
