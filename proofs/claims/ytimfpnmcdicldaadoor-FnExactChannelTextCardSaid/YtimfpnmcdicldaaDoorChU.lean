/- The text of a channel: ChannelText on both sides. -/
import Derived.Test.YtimfpnmcdicldaaDoorChT
namespace Go.Proofs.YtimfpnmcdicldaaDoor
open Go Go.RowKit Go.Shelf
def chTextS (nm : ByteArray) (n : Nat) (X Y : Nat → Int) (wd : Int) : ByteArray := if okChan nm n X Y wd = true then chTxt nm wd X Y n else ⟨#[]⟩
theorem okChan_yes {nm : ByteArray} {n : Nat} {X Y : Nat → Int} {wd : Int} (h : okChan nm n X Y wd = true) : nm.size ≤ 10 ∧ n ≤ 12 ∧ (10 ≤ wd ∧ wd ≤ 5000) ∧ ∀ i, i < n → okP (X i) (Y i) = true := by
  unfold okChan at h
  simp only [Bool.and_eq_true, decide_eq_true_eq] at h
  obtain ⟨h1, h2, h3, h4, h5⟩ := h
  unfold okName at h2
  simp only [Bool.and_eq_true, decide_eq_true_eq] at h2
  refine ⟨h2.2.1, by omega, inR_iff.1 h5, fun i hi => ?_⟩
  have := allB_at h1 i hi
  unfold okL at this
  rw [Bool.and_eq_true] at this
  exact this.1
set_option maxHeartbeats 2000000 in
theorem specChannelText_c (nm : ByteArray) (A : Option Addr) (n cap : Nat) (wd : Int) (X Y : Nat → Int) (w : World) (hs : nm.size ≤ maxLen) (hn : n ≤ 1048576) (hR : Rec 2 w A n (vPoint X Y)) :
    Calls Tryd.prog 9 #[.agg #[.string nm, .slice A n cap, .int .i64 wd]] w fun e w' => e = .returned (.string (chTextS nm n X Y wd)) ∧ Below w.heap.size w w' := by
  generalize hW : w.alloc (.cells #[.string nm, .slice A n cap, .int .i64 wd] 29) = W
  have hbW : Below w.heap.size w W := hW ▸ (by repeat (first | exact Below.refl _ _ | refine Below.alloc ?_ (by simp; try omega) _ | refine Below.drew ?_))
  have k0 : ∀ y : Aft W, y.w1.cell? ⟨w.heap.size, 0, none⟩ = some (.string nm) := by subst hW; exact fun y => y.new rfl
  have k1 : ∀ y : Aft W, y.w1.cell? ⟨w.heap.size, 1, none⟩ = some (.slice A n cap) := by subst hW; exact fun y => y.new rfl
  have k2 : ∀ y : Aft W, y.w1.cell? ⟨w.heap.size, 2, none⟩ = some (.int .i64 wd) := by subst hW; exact fun y => y.new rfl
  have hRW := hR.below hbW
  have HOk := Lib.hid (fun x : Aft W => l13Ok_c w.heap.size nm A n cap wd X Y x.w1 hs hn (hRW.aft x) (k0 x) (k1 x) (k2 x))
  cases hv : okChan nm n X Y wd
  · rw [hv] at HOk
    have hX : chTextS nm n X Y wd = ⟨#[]⟩ := if_neg (by rw [hv]; simp)
    rw [hX]
    clear hX hv
    go_enter Tryd.func9, Tryd.ntmps9
    go_wp2_with fail
    refine (Aft.first (w := W) (HOk.out ⟨W, Below.refl _ _⟩)).mono ?_
    rintro e _ ⟨rfl, x1, rfl⟩
    go_wp2
    go_ret
    exact ⟨rfl, held_next hbW x1.below⟩
  · rw [hv] at HOk
    obtain ⟨h1, h2, h3, h4⟩ := okChan_yes hv
    have HT := Lib.hid (fun x : Aft W => l13Text_c w.heap.size nm A n cap wd X Y x.w1 h1 h2 h3 h4 (hRW.aft x) (k0 x) (k1 x) (k2 x))
    have hX : chTextS nm n X Y wd = chTxt nm wd X Y n := if_pos hv
    rw [hX]
    generalize chTxt nm wd X Y n = T at *
    clear hX hv
    go_enter Tryd.func9, Tryd.ntmps9
    go_wp2_with fail
    refine (Aft.first (w := W) (HOk.out ⟨W, Below.refl _ _⟩)).mono ?_
    rintro e _ ⟨rfl, x1, rfl⟩
    go_wp2_with fail
    refine (Aft.call (HT.out x1)).mono ?_
    rintro e _ ⟨rfl, x2, rfl⟩
    go_wp2
    go_ret
    exact ⟨rfl, held_next hbW x2.below⟩
set_option maxHeartbeats 4000000 in
theorem implChannelText_c (nm : ByteArray) (A : Option Addr) (n cap : Nat) (wd : Int) (X Y : Nat → Int) (w : World) (hs : nm.size ≤ maxLen) (hn : n ≤ 1048576) (hR : Rec 2 w A n (vPoint X Y)) (hT : Pows w) :
    Calls Tryd.prog 11 #[.agg #[.string nm, .slice A n cap, .int .i64 wd]] w fun e w' => e = .returned (.string (chTextS nm n X Y wd)) ∧ Below w.heap.size w w' := by
  generalize hW : w.alloc (.cells #[.string nm, .slice A n cap, .int .i64 wd] 29) = W
  have hbW : Below w.heap.size w W := hW ▸ (by repeat (first | exact Below.refl _ _ | refine Below.alloc ?_ (by simp; try omega) _ | refine Below.drew ?_))
  have k0 : ∀ y : Aft W, y.w1.cell? ⟨w.heap.size, 0, none⟩ = some (.string nm) := by subst hW; exact fun y => y.new rfl
  have k1 : ∀ y : Aft W, y.w1.cell? ⟨w.heap.size, 1, none⟩ = some (.slice A n cap) := by subst hW; exact fun y => y.new rfl
  have k2 : ∀ y : Aft W, y.w1.cell? ⟨w.heap.size, 2, none⟩ = some (.int .i64 wd) := by subst hW; exact fun y => y.new rfl
  have z0 := k0 ⟨W, Below.refl _ _⟩
  have z1 := k1 ⟨W, Below.refl _ _⟩
  have z2 := k2 ⟨W, Below.refl _ _⟩
  simp only at z0 z1 z2
  have hRW := hR.below hbW
  have HTW := Lib.hid (hT.below hbW)
  have HOk := Lib.hid (validChannel_c nm A n cap wd X Y W hs hn hRW)
  clear hR hT
  cases hv : okChan nm n X Y wd
  · rw [hv] at HOk
    have hX : chTextS nm n X Y wd = ⟨#[]⟩ := if_neg (by rw [hv]; simp)
    rw [hX]
    clear hX hv
    go_enter Tryd.func11, Tryd.ntmps11
    go_wp2_with fail
    refine (Aft.first (w := W) HOk.out).mono ?_
    rintro e _ ⟨rfl, x1, rfl⟩
    go_wp2
    go_ret
    exact ⟨rfl, held_next hbW x1.below⟩
  · rw [hv] at HOk
    obtain ⟨h1, h2, h3, h4⟩ := okChan_yes hv
    have s1 := dec_small (n := wd) (by omega) (by omega)
    have HD := Lib.hid (fun W h => decimal_c wd (by omega) (by omega) W h)
    have HP := Lib.hid (fun k hk W h => pointText_c (X k) (Y k) (h4 k hk) W h)
    have HZ := Lib.hid (fun k (hk : k ≤ n) => chTxt_size (nm := nm) (wd := wd) (X := X) (Y := Y) (k := k) h1 h3 (fun i hi => h4 i (by omega)))
    have HS := Lib.hid (fun k hk => pntT_size (h4 k hk))
    have HX := Lib.hid (chTxt_step nm wd X Y)
    have H0 := Lib.hid (chTxt_zero nm wd X Y)
    have hX : chTextS nm n X Y wd = chTxt nm wd X Y n := if_pos hv
    rw [hX]
    clear hX hv h4
    generalize chTxt nm wd X Y = T at *
    generalize dec wd = dw at *
    go_enter Tryd.func11, Tryd.ntmps11
    go_wp2_with fail
    refine (Aft.first (w := W) HOk.out).mono ?_
    rintro e _ ⟨rfl, x1, rfl⟩
    clear z0 z1 z2
    go_wp2_with fail
    refine wp_region_aftx x1 (by kernel_rfl) (by kernel_rfl) ?_
    repeat (go_big_quiet_step ((go_at_call 33; exact Aft.call (HD.out _ (HTW.out.below (Aft.below _))))))
    refine wpQuiet_nil ?_
    intro x2
    have q1 := k1 x2
    go_wp2
    go_loopw [3, 19] (fun o i wr => ∃ (k : Nat) (x : Aft W), k ≤ n ∧ o = .string (T k) ∧ i = .int .i64 k ∧ wr = x.w1) (fun _ i _ => n - (intOf i).toNat)
    case atStart => exact ⟨0, x2, by omega, by rw [H0.out], rfl, rfl⟩
    case round =>
      obtain ⟨k, x, hk, rfl, rfl, rfl⟩ := hrel
      clear q1
      by_cases hlt : k < n
      · obtain ⟨b, o, hi⟩ := hRW.aft x
        obtain ⟨rfl, hc⟩ := hi k hlt
        have p0 : x.w1.cell? ⟨b, o + k * 2, none⟩ = some (.int .i64 (X k)) := by simpa [vPoint, Nat.add_assoc] using hc 0 (by omega)
        have p1 : x.w1.cell? ⟨b, o + k * 2 + 1, none⟩ = some (.int .i64 (Y k)) := by simpa [vPoint, Nat.add_assoc] using hc 1 (by omega)
        have z1 := HZ.out k hk
        have z2 := HS.out k hlt
        clear hc hi
        go_wp2_with (go_at_call 34; refine (HP.out k hlt _ (HTW.out.below (held_next x.below (by repeat (first | exact Below.refl _ _ | refine Below.alloc ?_ (by simp; try omega) _ | refine Below.drew ?_))))).mono ?_; rintro e w5 ⟨rfl, hb5⟩)
        go_roundw
        case rel => exact ⟨k + 1, ⟨w5, held_next x.below (below_box hb5)⟩, by omega, by rw [HX.out], by go_num, rfl⟩
        case measure => simp [intOf]; omega
      · obtain rfl : k = n := by omega
        go_wp2
        go_ret
        exact ⟨rfl, held_next hbW x.below⟩
end Go.Proofs.YtimfpnmcdicldaaDoor
