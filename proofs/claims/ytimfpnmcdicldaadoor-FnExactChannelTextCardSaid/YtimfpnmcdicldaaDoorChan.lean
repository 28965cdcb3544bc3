/- Channels: contracts of the laws' helpers, and of the program's and the reference's tests. -/
import Derived.Test.YtimfpnmcdicldaaDoorNames
import Derived.Test.YtimfpnmcdicldaaDoorStPoint
import Derived.Test.YtimfpnmcdicldaaDoorDist
namespace Go.Proofs.YtimfpnmcdicldaaDoor
open Go Go.RowKit
theorem own_far {w : World} {base : Nat} {e : TypeId} {m n g cap : Nat} {xs : List Value} (h : w.ownsRow base e m (.slice (some ⟨g, 0, none⟩) n cap) n xs) {p : Addr} (hp : p.block ≠ g) (u : Value) :
    (w.setCell p u).ownsRow base e m (.slice (some ⟨g, 0, none⟩) n cap) n xs := by
  refine ⟨h.1, ?_⟩
  rcases h.2 with ⟨h0, _⟩ | ⟨g', cap', cur, h1, h2, h3, h4⟩
  · cases h0
  · injection h1 with h1 _ h1c
    injection h1 with h1
    injection h1 with h1 _ _
    subst h1
    exact .inr ⟨_, cap', cur, by rw [h1c], h2, (Below.heap_setCell w p u _ (Ne.symm hp)).trans h3, h4⟩
theorem Filling.far {e m : Nat} {w wr : World} {g n k : Nat} {f : Nat → Nat → Value} (h : Filling e m w wr g n k f) {p : Addr} (hp : p.block ≠ g) (hb : w.heap.size ≤ p.block) (u : Value) : Filling e m w (wr.setCell p u) g n k f := by
  obtain ⟨xs, hown, hxs, hbel⟩ := h
  exact ⟨xs, own_far hown hp u, hxs, hbel.setCell hb u⟩
theorem Filling.up {e m : Nat} {w w0 wr : World} {g n k : Nat} {f : Nat → Nat → Value} (h : Filling e m w0 wr g n k f) (hb : Below w.heap.size w w0) : Filling e m w wr g n k f := by
  obtain ⟨xs, hown, hxs, hbel⟩ := h
  refine ⟨xs, ⟨hown.1, ?_⟩, hxs, held_next hb hbel⟩
  rcases hown.2 with h0 | ⟨g', cap', cur, h1, h2, h3⟩
  · exact .inl h0
  · exact .inr ⟨g', cap', cur, h1, Nat.le_trans hb.size h2, h3⟩
theorem Filling.ge {e m : Nat} {w wr : World} {g n k : Nat} {f : Nat → Nat → Value} (h : Filling e m w wr g n k f) : w.heap.size ≤ g ∧ g < wr.heap.size := by
  obtain ⟨xs, hown, _, _⟩ := h
  exact hown.lt g rfl
set_option maxHeartbeats 2000000 in
theorem toChannel_c (nm : ByteArray) (A : Option Addr) (n cap : Nat) (wd : Int) (X Y : Nat → Int) (w : World) (hn : n ≤ 1048576) (h : Rec 2 w A n (vPoint X Y)) :
    Calls Tryd.prog 10 #[.agg #[.string nm, .slice A n cap, .int .i64 wd]] w fun e w' => ∃ g, e = .returned (.agg #[.string nm, .slice (some ⟨g, 0, none⟩) n n, .int .i64 wd]) ∧ Filling 61 2 w w' g n n (vPoint X Y) := by
  go_enter Tryd.func10, Tryd.ntmps10
  go_wp2_with fail
  refine (toPointS_c A n cap X Y _ hn (h.below ?_)).mono ?_
  · repeat (first | exact Below.refl _ _ | refine Below.setCell ?_ (by simp; try omega) _ | refine Below.alloc ?_ (by simp; try omega) _)
  rintro e w1 ⟨g, rfl, F⟩
  have hb1 := F.bel
  have hg := F.ge.1
  have HF := Lib.hid F
  clear F
  obtain ⟨hc, hf⟩ := bcell hb1
  have hz := hb1.size
  simp at hz hg
  go_wp2
  refine bodyPost_ret (v := .agg #[.string nm, .slice (some ⟨g, 0, none⟩) n n, .int .i64 wd]) (by simp [results, Tryd.results10, go_sem, hc]) rfl ⟨g, rfl, ?_⟩
  repeat refine Filling.far ?_ (by simp; omega) (by simp; try omega) _
  exact HF.out.up (by repeat (first | exact Below.refl _ _ | refine Below.alloc ?_ (by simp; try omega) _ | refine Below.drew ?_))
set_option maxHeartbeats 1000000 in
theorem szChannel_c (nm : ByteArray) (A : Option Addr) (n cap : Nat) (wd left : Int) (hs : nm.size ≤ maxLen) (hn : n ≤ maxLen) (l0 : 0 ≤ left) (l1 : left ≤ 1048576) (w : World) :
    Calls Tryd.prog 8 #[.agg #[.string nm, .slice A n cap, .int .i64 wd], .int .i64 left] w (SzPost n left w) := by
  unfold maxLen at hs
  by_cases hl : (nm.size : Int) ≤ left
  · have HP := Lib.hid (fun W => szPointS_c A n cap (left - nm.size) hn (by omega) (by omega) W)
    have h0 : 0 ≤ left - (nm.size : Int) := by omega
    go_enter Tryd.func8, Tryd.ntmps8
    go_wp2_with fail
    refine (HP.out _).mono ?_
    rintro e w1 ⟨rfl | ⟨r, r0, r1, rfl⟩, hb1⟩
    · go_wp2
      go_ret
      exact ⟨.inl rfl, below_box hb1⟩
    · go_wp2
      go_ret
      exact ⟨.inr ⟨r, r0, by omega, rfl⟩, below_box hb1⟩
  · have h0 : left - (nm.size : Int) < 0 := by omega
    go_enter Tryd.func8, Tryd.ntmps8
    go_wp2
    go_ret
    exact ⟨.inl rfl, (by repeat (first | exact Below.refl _ _ | refine Below.alloc ?_ (by simp; try omega) _ | refine Below.drew ?_))⟩
set_option maxHeartbeats 1000000 in
theorem eqChannel_same (nm : ByteArray) (A B : Option Addr) (n ca cb : Nat) (wd : Int) (X Y : Nat → Int) (w : World) (hn : n ≤ 1048576) (hA : Rec 2 w A n (vPoint X Y)) (hB : Rec 2 w B n (vPoint X Y)) :
    Calls Tryd.prog 12 #[.agg #[.string nm, .slice A n ca, .int .i64 wd], .agg #[.string nm, .slice B n cb, .int .i64 wd]] w fun e w' => e = .returned (.bool true) ∧ Below w.heap.size w w' := by
  go_enter Tryd.func12, Tryd.ntmps12
  go_wp2_with fail
  refine (eqPointS_same A B n ca cb X Y _ hn (hA.below (by repeat (first | exact Below.refl _ _ | refine Below.alloc ?_ (by simp; try omega) _ | refine Below.drew ?_))) (hB.below (by repeat (first | exact Below.refl _ _ | refine Below.alloc ?_ (by simp; try omega) _ | refine Below.drew ?_)))).mono ?_
  rintro e w1 ⟨rfl, hb1⟩
  obtain ⟨hc, hf⟩ := bcell hb1
  have hz := hb1.size
  simp at hz
  clear hf
  go_wp2
  go_ret
  exact ⟨rfl, below_box (below_box hb1)⟩
/-- A channel is valid: what is asked of its i-th point. -/
def okL (X Y : Nat → Int) (i : Nat) : Bool := okP (X i) (Y i) && !(decide (0 < i) && dPoint (X i) (Y i) (X (i - 1)) (Y (i - 1)))
def okChan (nm : ByteArray) (n : Nat) (X Y : Nat → Int) (wd : Int) : Bool := allB n (okL X Y) && (okName nm && (decide ((2 : Int) ≤ n) && (decide ((n : Int) ≤ 12) && inR wd 10 5000)))
theorem dPoint_comm (a b c d : Int) : dPoint a b c d = dPoint c d a b := by
  unfold dPoint
  rw [Bool.eq_iff_iff]
  simp only [Bool.and_eq_true, beq_iff_eq]
  constructor <;> (rintro ⟨rfl, rfl⟩; exact ⟨rfl, rfl⟩)
theorem dPoint_sym {a b c d : Int} {v : Bool} (h : dPoint a b c d = v) : dPoint c d a b = v := h ▸ dPoint_comm c d a b
theorem allB_more {k : Nat} {p : Nat → Bool} (h : ∀ i, i < k → p i = true) (hk : p k = true) : ∀ i, i < k + 1 → p i = true := fun i hi => by
  by_cases e : i = k
  · rw [e]; exact hk
  · exact h i (by omega)
set_option maxHeartbeats 4000000 in
theorem l13Ok_c (g : Nat) (nm : ByteArray) (A : Option Addr) (n cap : Nat) (wd : Int) (X Y : Nat → Int) (w : World) (hs : nm.size ≤ maxLen) (hn : n ≤ 1048576) (hR : Rec 2 w A n (vPoint X Y))
    (c0 : w.cell? ⟨g, 0, none⟩ = some (.string nm)) (c1 : w.cell? ⟨g, 1, none⟩ = some (.slice A n cap)) (c2 : w.cell? ⟨g, 2, none⟩ = some (.int .i64 wd)) :
    Calls Tryd.prog 29 #[.pointer (some ⟨g, 0, none⟩)] w fun e w' => e = .returned (.bool (okChan nm n X Y wd)) ∧ Below w.heap.size w w' := by
  have hg : g < w.heap.size := cell_lt c0
  have k0 : ∀ y : Aft w, y.w1.cell? ⟨g, 0, none⟩ = some (.string nm) := fun y => y.cell hg c0
  have k1 : ∀ y : Aft w, y.w1.cell? ⟨g, 1, none⟩ = some (.slice A n cap) := fun y => y.cell hg c1
  have k2 : ∀ y : Aft w, y.w1.cell? ⟨g, 2, none⟩ = some (.int .i64 wd) := fun y => y.cell hg c2
  have heql := @eqlPoint_run
  clear c2
  go_enter Tryd.func29, Tryd.ntmps29
  go_wp2
  go_loopw [3] (fun i wr => ∃ (k : Nat) (x : Aft w), k ≤ n ∧ i = .int .i64 k ∧ wr = x.w1 ∧ Hid (∀ i, i < k → okL X Y i = true)) (fun i _ => n - (intOf i).toNat)
  case atStart => exact ⟨0, ⟨w, Below.refl _ _⟩, by omega, rfl, rfl, Lib.hid (fun i hi => by omega)⟩
  case round =>
    obtain ⟨k, x, hk, rfl, rfl, hall⟩ := hrel
    by_cases hlt : k < n
    · obtain ⟨b, o, hi⟩ := hR
      have hprev : ∀ j, k = j + 1 → A = some ⟨b, o, none⟩ ∧ w.cell? ⟨b, o + j * 2, none⟩ = some (.int .i64 (X j)) ∧ w.cell? ⟨b, o + j * 2 + 1, none⟩ = some (.int .i64 (Y j)) := by
        rintro j rfl
        obtain ⟨ha, hc⟩ := hi j (by omega)
        exact ⟨ha, by simpa [vPoint, Nat.add_assoc] using hc 0 (by omega), by simpa [vPoint, Nat.add_assoc] using hc 1 (by omega)⟩
      obtain ⟨rfl, hc⟩ := hi k hlt
      have p0 : w.cell? ⟨b, o + k * 2, none⟩ = some (.int .i64 (X k)) := by simpa [vPoint, Nat.add_assoc] using hc 0 (by omega)
      have p1 : w.cell? ⟨b, o + k * 2 + 1, none⟩ = some (.int .i64 (Y k)) := by simpa [vPoint, Nat.add_assoc] using hc 1 (by omega)
      have m0 : ∀ y : Aft w, y.w1.cell? ⟨b, o + k * 2, none⟩ = some (.int .i64 (X k)) := fun y => y.cell (cell_lt p0) p0
      have m1 : ∀ y : Aft w, y.w1.cell? ⟨b, o + k * 2 + 1, none⟩ = some (.int .i64 (Y k)) := fun y => y.cell (cell_lt p1) p1
      clear hc hi p0 p1
      cases v1 : okP (X k) (Y k)
      · have HV1 := Lib.hid v1
        have HN := Lib.hid (show okL X Y k = false by unfold okL; rw [v1]; rfl)
        clear v1 hprev
        go_wp2
        refine wp_region_aftx x (by kernel_rfl) (by kernel_rfl) ?_
        repeat (go_big_quiet_step ((go_at_call 63; exact Aft.call (l02Ok_c _ _ _ HV1.out _))))
        refine wpQuiet_nil ?_
        intro z
        go_wp2
        go_ret
        exact ⟨ret_bool (by unfold okChan; rw [allB_no hlt HN.out]; rfl), Aft.below _⟩
      · have HV1 := Lib.hid v1
        rcases Nat.eq_zero_or_pos k with h0 | h0
        · subst h0
          have HN := Lib.hid (show okL X Y 0 = true by unfold okL; rw [v1]; rfl)
          have m0 : ∀ y : Aft w, y.w1.cell? ⟨b, o, none⟩ = some (.int .i64 (X 0)) := by simpa using m0
          have m1 : ∀ y : Aft w, y.w1.cell? ⟨b, o + 1, none⟩ = some (.int .i64 (Y 0)) := by simpa using m1
          clear v1 hprev
          go_wp2
          refine wp_region_aftx x (by kernel_rfl) (by kernel_rfl) ?_
          repeat (go_big_quiet_step ((go_at_call 63; exact Aft.call (l02Ok_c _ _ _ HV1.out _))))
          refine wpQuiet_nil ?_
          intro z
          go_wp2
          go_roundw
          case rel => exact ⟨1, z, by omega, by go_num, rfl, Lib.hid (allB_more hall.out HN.out)⟩
          case measure => simp [intOf]; omega
        · obtain ⟨j, rfl⟩ : ∃ j, k = j + 1 := ⟨k - 1, by omega⟩
          obtain ⟨_, p2, p3⟩ := hprev j rfl
          have m2 : ∀ y : Aft w, y.w1.cell? ⟨b, o + j * 2, none⟩ = some (.int .i64 (X j)) := fun y => y.cell (cell_lt p2) p2
          have m3 : ∀ y : Aft w, y.w1.cell? ⟨b, o + j * 2 + 1, none⟩ = some (.int .i64 (Y j)) := fun y => y.cell (cell_lt p3) p3
          cases v2 : dPoint (X (j + 1)) (Y (j + 1)) (X j) (Y j)
          all_goals
            have hl : okL X Y (j + 1) = !(dPoint (X (j + 1)) (Y (j + 1)) (X j) (Y j)) := by unfold okL; rw [v1]; simp
            rw [v2] at hl
            have HN := Lib.hid hl
            clear hl
            clear v1 hprev p2 p3
            go_wp2
            refine wp_region_aftx x (by kernel_rfl) (by kernel_rfl) ?_
            repeat (go_big_quiet_step ((go_at_call 63; exact Aft.call (l02Ok_c _ _ _ HV1.out _))))
            refine wpQuiet_nil ?_
            intro z
            go_wp2
            first
              | (go_ret
                 exact ⟨ret_bool (by unfold okChan; rw [allB_no hlt HN.out]; rfl), Aft.below _⟩)
              | (go_roundw
                 case rel => exact ⟨j + 1 + 1, z, by omega, by go_num, rfl, Lib.hid (allB_more hall.out HN.out)⟩
                 case measure => simp [intOf]; omega)
    · obtain rfl : k = n := by omega
      have HA := Lib.hid (allB_yes hall.out)
      clear hall
      cases v1 : okName nm <;> cases v2 : decide ((2 : Int) ≤ k) <;> cases v3 : decide ((k : Int) ≤ 12) <;> cases v4 : inR wd 10 5000
      all_goals
        have ho : okChan nm k X Y wd = (true && (okName nm && (decide ((2 : Int) ≤ k) && (decide ((k : Int) ≤ 12) && inR wd 10 5000)))) := by unfold okChan; rw [HA.out]
        rw [v1, v2, v3, v4] at ho
        have HO := Lib.hid ho
        clear ho
        have HV1 := Lib.hid v1
        have HV4 := Lib.hid v4
        clear v1 v4
        go_wp2_with (first
          | (go_at_call 64; refine (l01Name_c nm hs _).mono ?_; rintro e _ ⟨rfl, rfl⟩; rw [HV1.out])
          | (go_at_call 65; refine (l00In_v HV4.out _).mono ?_; rintro e _ ⟨rfl, rfl⟩))
        go_ret
        exact ⟨ret_bool (by rw [HO.out]; rfl), Aft.below _⟩
theorem withinB_v {n lo hi : Int} {v : Bool} (h : (decide (lo ≤ n) && decide (n ≤ hi)) = v) (w : World) :
    Calls Tryd.prog 70 #[.int .i64 n, .int .i64 lo, .int .i64 hi] w fun e w' => e = .returned (.bool v) ∧ w = w' := within_v h w
set_option maxHeartbeats 4000000 in
theorem validChannel_c (nm : ByteArray) (A : Option Addr) (n cap : Nat) (wd : Int) (X Y : Nat → Int) (w : World) (hs : nm.size ≤ maxLen) (hn : n ≤ 1048576) (hR : Rec 2 w A n (vPoint X Y)) :
    Calls Tryd.prog 32 #[.agg #[.string nm, .slice A n cap, .int .i64 wd]] w fun e w' => e = .returned (.bool (okChan nm n X Y wd)) ∧ Below w.heap.size w w' := by
  have k0 : ∀ y : Aft (w.alloc (.cells #[.string nm, .slice A n cap, .int .i64 wd] 29)), y.w1.cell? ⟨w.heap.size, 0, none⟩ = some (.string nm) := fun y => y.new rfl
  have k1 : ∀ y : Aft (w.alloc (.cells #[.string nm, .slice A n cap, .int .i64 wd] 29)), y.w1.cell? ⟨w.heap.size, 1, none⟩ = some (.slice A n cap) := fun y => y.new rfl
  have k2 : ∀ y : Aft (w.alloc (.cells #[.string nm, .slice A n cap, .int .i64 wd] 29)), y.w1.cell? ⟨w.heap.size, 2, none⟩ = some (.int .i64 wd) := fun y => y.new rfl
  have hR2 := hR.below (w' := w.alloc (.cells #[.string nm, .slice A n cap, .int .i64 wd] 29)) (by repeat (first | exact Below.refl _ _ | refine Below.alloc ?_ (by simp; try omega) _ | refine Below.drew ?_))
  have heql := @eqlPoint_run
  clear hR
  go_enter Tryd.func32, Tryd.ntmps32
  go_wp2
  generalize hW : w.alloc (.cells #[.string nm, .slice A n cap, .int .i64 wd] 29) = W at *
  have hbW : Below w.heap.size w W := hW ▸ (by repeat (first | exact Below.refl _ _ | refine Below.alloc ?_ (by simp; try omega) _ | refine Below.drew ?_))
  clear hW
  go_loopw [8] (fun i wr => ∃ (k : Nat) (x : Aft W), k ≤ n ∧ i = .int .i64 k ∧ wr = x.w1 ∧ Hid (∀ i, i < k → okL X Y i = true)) (fun i _ => n - (intOf i).toNat)
  case atStart => exact ⟨0, ⟨_, Below.refl _ _⟩, by omega, rfl, rfl, Lib.hid (fun i hi => by omega)⟩
  case round =>
    obtain ⟨k, x, hk, rfl, rfl, hall⟩ := hrel
    by_cases hlt : k < n
    · obtain ⟨b, o, hi⟩ := hR2.aft x
      have hprev : ∀ j, k = j + 1 → x.w1.cell? ⟨b, o + j * 2, none⟩ = some (.int .i64 (X j)) ∧ x.w1.cell? ⟨b, o + j * 2 + 1, none⟩ = some (.int .i64 (Y j)) := by
        rintro j rfl
        obtain ⟨ha, hc⟩ := hi j (by omega)
        exact ⟨by simpa [vPoint, Nat.add_assoc] using hc 0 (by omega), by simpa [vPoint, Nat.add_assoc] using hc 1 (by omega)⟩
      obtain ⟨rfl, hc⟩ := hi k hlt
      have p0 : x.w1.cell? ⟨b, o + k * 2, none⟩ = some (.int .i64 (X k)) := by simpa [vPoint, Nat.add_assoc] using hc 0 (by omega)
      have p1 : x.w1.cell? ⟨b, o + k * 2 + 1, none⟩ = some (.int .i64 (Y k)) := by simpa [vPoint, Nat.add_assoc] using hc 1 (by omega)
      have n0 : ∀ y : Aft (x.w1.alloc (.cells #[.int .i64 (X k), .int .i64 (Y k)] 61)), y.w1.cell? ⟨x.w1.heap.size, 0, none⟩ = some (.int .i64 (X k)) := fun y => y.new rfl
      have n1 : ∀ y : Aft (x.w1.alloc (.cells #[.int .i64 (X k), .int .i64 (Y k)] 61)), y.w1.cell? ⟨x.w1.heap.size, 1, none⟩ = some (.int .i64 (Y k)) := fun y => y.new rfl
      have n2 : ∀ y : Aft (x.w1.alloc (.cells #[.int .i64 (X k), .int .i64 (Y k)] 61)), y.w1.cell? ⟨w.heap.size, 1, none⟩ = some (.slice (some ⟨b, o, none⟩) n cap) := fun y => k1 ⟨y.w1, held_next x.below (below_box y.below)⟩
      clear hc hi
      cases v1 : okP (X k) (Y k)
      · have HV1 := Lib.hid v1
        have HN := Lib.hid (show okL X Y k = false by unfold okL; rw [v1]; rfl)
        clear v1 hprev
        go_wp2
        refine wp_region_aft (by kernel_rfl) (by kernel_rfl) ?_
        repeat (go_big_quiet_step ((go_at_call 68; exact Aft.call (validPoint_c _ _ _ HV1.out _))))
        refine wpQuiet_nil ?_
        intro z hz
        go_wp2
        go_ret
        exact ⟨ret_bool (by unfold okChan; rw [allB_no hlt HN.out]; rfl), held_next hbW (held_next x.below (below_box hz))⟩
      · have HV1 := Lib.hid v1
        rcases Nat.eq_zero_or_pos k with h0 | h0
        · subst h0
          have HN := Lib.hid (show okL X Y 0 = true by unfold okL; rw [v1]; rfl)
          have p0 : x.w1.cell? ⟨b, o, none⟩ = some (.int .i64 (X 0)) := by simpa using p0
          have p1 : x.w1.cell? ⟨b, o + 1, none⟩ = some (.int .i64 (Y 0)) := by simpa using p1
          clear v1 hprev
          go_wp2
          refine wp_region_aft (by kernel_rfl) (by kernel_rfl) ?_
          repeat (go_big_quiet_step ((go_at_call 68; exact Aft.call (validPoint_c _ _ _ HV1.out _))))
          refine wpQuiet_nil ?_
          intro z hz
          go_wp2
          go_roundw
          case rel => exact ⟨1, ⟨z, held_next x.below (below_box hz)⟩, by omega, by go_num, rfl, Lib.hid (allB_more hall.out HN.out)⟩
          case measure => simp [intOf]; omega
        · obtain ⟨j, rfl⟩ : ∃ j, k = j + 1 := ⟨k - 1, by omega⟩
          obtain ⟨p2, p3⟩ := hprev j rfl
          have m2 : ∀ y : Aft (x.w1.alloc (.cells #[.int .i64 (X (j + 1)), .int .i64 (Y (j + 1))] 61)), y.w1.cell? ⟨b, o + j * 2, none⟩ = some (.int .i64 (X j)) := fun y => (⟨y.w1, below_box y.below⟩ : Aft x.w1).cell (cell_lt p2) p2
          have m3 : ∀ y : Aft (x.w1.alloc (.cells #[.int .i64 (X (j + 1)), .int .i64 (Y (j + 1))] 61)), y.w1.cell? ⟨b, o + j * 2 + 1, none⟩ = some (.int .i64 (Y j)) := fun y => (⟨y.w1, below_box y.below⟩ : Aft x.w1).cell (cell_lt p3) p3
          cases v2 : dPoint (X j) (Y j) (X (j + 1)) (Y (j + 1))
          all_goals
            have hl : okL X Y (j + 1) = !(dPoint (X (j + 1)) (Y (j + 1)) (X j) (Y j)) := by unfold okL; rw [v1]; simp
            rw [dPoint_sym v2] at hl
            have HN := Lib.hid hl
            clear hl v1 hprev p2 p3
            go_wp2
            refine wp_region_aft (by kernel_rfl) (by kernel_rfl) ?_
            repeat (go_big_quiet_step ((go_at_call 68; exact Aft.call (validPoint_c _ _ _ HV1.out _))))
            refine wpQuiet_nil ?_
            intro z hz
            go_wp2
            first
              | (go_ret
                 exact ⟨ret_bool (by unfold okChan; rw [allB_no hlt HN.out]; rfl), held_next hbW (held_next x.below (below_box hz))⟩)
              | (go_roundw
                 case rel => exact ⟨j + 1 + 1, ⟨z, held_next x.below (below_box hz)⟩, by omega, by go_num, rfl, Lib.hid (allB_more hall.out HN.out)⟩
                 case measure => simp [intOf]; omega)
    · obtain rfl : k = n := by omega
      have HA := Lib.hid (allB_yes hall.out)
      clear hall
      cases v1 : okName nm <;> cases v2 : (decide ((2 : Int) ≤ k) && decide ((k : Int) ≤ 12)) <;> cases v4 : inR wd 10 5000
      all_goals
        have ho : okChan nm k X Y wd = (true && (okName nm && ((decide ((2 : Int) ≤ k) && decide ((k : Int) ≤ 12)) && inR wd 10 5000))) := by unfold okChan; rw [HA.out, Bool.and_assoc]
        rw [v1, v2, v4] at ho
        have HO := Lib.hid ho
        have HV1 := Lib.hid v1
        have HV2 := Lib.hid v2
        have HV4 := Lib.hid v4
        clear ho v1 v2 v4
        go_wp2_with (first
          | (go_at_call 69; refine (isName_c nm hs _).mono ?_; rintro e _ ⟨rfl, rfl⟩; rw [HV1.out])
          | (go_at_call 70; first
              | with_reducible refine (within_v HV4.out _).mono ?_
              | refine (withinB_v HV2.out _).mono ?_
             rintro e _ ⟨rfl, rfl⟩))
        go_ret
        exact ⟨ret_bool (by rw [HO.out]; rfl), held_next hbW (Aft.below _)⟩
end Go.Proofs.YtimfpnmcdicldaaDoor
