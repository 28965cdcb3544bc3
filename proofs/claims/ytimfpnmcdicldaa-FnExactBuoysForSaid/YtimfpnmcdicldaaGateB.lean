/- The buoys of a channel's gates. -/
import Derived.Test.YtimfpnmcdicldaaGateL
import Derived.Test.YtimfpnmcdicldaaStBuoy
namespace Go.Proofs.Ytimfpnmcdicldaa
open Go Go.RowKit
/-- The columns of the buoys. -/
noncomputable def alt (f g : Nat → Int) (i : Nat) : Int := if i % 2 = 0 then f (i / 2) else g (i / 2)
def bcells (f1 f2 f3 f4 : Nat → Int) (k : Nat) : List Value := (List.range k).flatMap fun i => [.int .i64 (f1 i), .int .i64 (f2 i), .int .i64 1, .int .i64 (f3 i), .int .i64 (f4 i), .int .i64 2]
theorem bcells_succ (f1 f2 f3 f4 : Nat → Int) (k : Nat) : bcells f1 f2 f3 f4 (k + 1) = bcells f1 f2 f3 f4 k ++ [.int .i64 (f1 k), .int .i64 (f2 k), .int .i64 1, .int .i64 (f3 k), .int .i64 (f4 k), .int .i64 2] := by
  unfold bcells
  rw [List.range_succ, List.flatMap_append]
  simp
theorem bcells_len (f1 f2 f3 f4 : Nat → Int) : ∀ k, (bcells f1 f2 f3 f4 k).length = k * 6
  | 0 => rfl
  | k + 1 => by rw [bcells_succ, List.length_append, bcells_len f1 f2 f3 f4 k]; simp; omega
noncomputable def vBuoys (f1 f2 f3 f4 : Nat → Int) : Nat → Nat → Value := vBuoy (alt f1 f3) (alt f2 f4) (alt (fun _ => 1) (fun _ => 2))
theorem bcells_at (f1 f2 f3 f4 : Nat → Int) : ∀ k i j, i < 2 * k → j < 3 → (bcells f1 f2 f3 f4 k)[i * 3 + j]? = some (vBuoys f1 f2 f3 f4 i j)
  | 0, i, j, hi, _ => by omega
  | k + 1, i, j, hi, hj => by
    rw [bcells_succ]
    by_cases h : i < 2 * k
    · rw [List.getElem?_append_left (by rw [bcells_len]; omega), bcells_at f1 f2 f3 f4 k i j h hj]
    · rw [List.getElem?_append_right (by rw [bcells_len]; omega), bcells_len]
      have hj3 : j = 0 ∨ j = 1 ∨ j = 2 := by omega
      have : i = 2 * k ∨ i = 2 * k + 1 := by omega
      rcases this with rfl | rfl
      · have e : 2 * k * 3 + j - k * 6 = j := by omega
        have e2 : 2 * k % 2 = 0 := by omega
        have e3 : 2 * k / 2 = k := by omega
        rw [e]
        rcases hj3 with rfl | rfl | rfl <;> simp [vBuoys, vBuoy, alt, e2, e3]
      · have e : (2 * k + 1) * 3 + j - k * 6 = 3 + j := by omega
        have e2 : (2 * k + 1) % 2 = 1 := by omega
        have e3 : (2 * k + 1) / 2 = k := by omega
        rw [e]
        rcases hj3 with rfl | rfl | rfl <;> simp [vBuoys, vBuoy, alt, e2, e3]
def BPost (f1 f2 f3 f4 : Nat → Int) (m : Nat) (code : Int) (w : World) (e : Ending) (w' : World) : Prop :=
  ∃ A cap, e = .returned (.tuple #[.slice A (2 * m) cap, .int .i64 code]) ∧ SO w' w.heap.size 93 3 (.slice A (2 * m) cap) (2 * m) (vBuoys f1 f2 f3 f4) ∧ Below w.heap.size w w'
set_option maxRecDepth 100000 in
set_option maxHeartbeats 8000000 in
theorem l13Buoys_c (p : Option Addr) (sp : Int) (m : Nat) (code : Int) (f0 f1 f2 f3 f4 : Nat → Int) (w : World) (hm : m ≤ 1000) (hc0 : code ≠ 0 → m = 0)
    (HG : Hid (Calls Try.prog 58 #[.pointer p, .int .i64 sp] w (GPost f0 f1 f2 f3 f4 m code w))) :
    Calls Try.prog 65 #[.pointer p, .int .i64 sp] w (BPost f1 f2 f3 f4 m code w) := by
  obtain ⟨ib, hib, hib0, hib1, hib2⟩ := info_parts (show (Try.prog.info? 93).map (fun i => (i.zero, i.size, i.bytes)) = some (some (.agg #[.int .i64 0, .int .i64 0, .int .i64 0]), 3, 24) by kernel_rfl)
  go_enter Try.func65, Try.ntmps65
  go_wp2_with fail
  refine HG.out.mono ?_
  rintro e w1 ⟨A, cap, rfl, hS, hbl⟩
  have HS := Lib.hid hS
  have HBL := Lib.hid hbl
  clear hS hbl HG
  by_cases hc : code = 0
  · subst hc
    have hown0 : (w1.alloc (.cells #[] 93)).ownsRow w1.heap.size 93 3 (.slice (some ⟨w1.heap.size, 0, none⟩) 0 0) 0 [] := World.ownsRow_lit (base := w1.heap.size) (e := 93) (size := 3) w1 #[] 0 (Nat.le_refl _) (small_row (by omega)) (by simp)
    go_wp2
    go_loopw [8, 9] (fun v i wr => ∃ (k : Nat) (x : Aft w1), k ≤ m ∧ i = .int .i64 k ∧ wr = x.w1 ∧ wr.ownsRow w1.heap.size 93 3 v (2 * k) (bcells f1 f2 f3 f4 k)) (fun _ i _ => m - (intOf i).toNat)
    case atStart => exact ⟨0, ⟨_, (Below.refl _ _).alloc (Nat.le_refl _) _⟩, by omega, rfl, rfl, hown0⟩
    case round =>
      obtain ⟨k, x, hk, rfl, rfl, hown⟩ := hrel
      have HO := Lib.hid hown
      clear hown hown0
      by_cases hlt : k < m
      · obtain ⟨b, o, hi⟩ := HS.out.rec
        obtain ⟨rfl, hc⟩ := hi k hlt
        have p0 : w1.cell? ⟨b, o + k * 5, none⟩ = some (.int .i64 (f0 k)) := by simpa [vGate, Nat.add_assoc] using hc 0 (by omega)
        have p1 : w1.cell? ⟨b, o + k * 5 + 1, none⟩ = some (.int .i64 (f1 k)) := by simpa [vGate, Nat.add_assoc] using hc 1 (by omega)
        have p2 : w1.cell? ⟨b, o + k * 5 + 2, none⟩ = some (.int .i64 (f2 k)) := by simpa [vGate, Nat.add_assoc] using hc 2 (by omega)
        have p3 : w1.cell? ⟨b, o + k * 5 + 3, none⟩ = some (.int .i64 (f3 k)) := by simpa [vGate, Nat.add_assoc] using hc 3 (by omega)
        have p4 : w1.cell? ⟨b, o + k * 5 + 4, none⟩ = some (.int .i64 (f4 k)) := by simpa [vGate, Nat.add_assoc] using hc 4 (by omega)
        have q0 := x.cell (cell_lt p0) p0
        have q1 := x.cell (cell_lt p1) p1
        have q2 := x.cell (cell_lt p2) p2
        have q3 := x.cell (cell_lt p3) p3
        have q4 := x.cell (cell_lt p4) p4
        have r1 : ∀ y : Aft x.w1, y.w1.cell? ⟨b, o + k * 5 + 1, none⟩ = some (.int .i64 (f1 k)) := fun y => y.cell (cell_lt q1) q1
        have r2 : ∀ y : Aft x.w1, y.w1.cell? ⟨b, o + k * 5 + 2, none⟩ = some (.int .i64 (f2 k)) := fun y => y.cell (cell_lt q2) q2
        have r3 : ∀ y : Aft x.w1, y.w1.cell? ⟨b, o + k * 5 + 3, none⟩ = some (.int .i64 (f3 k)) := fun y => y.cell (cell_lt q3) q3
        have r4 : ∀ y : Aft x.w1, y.w1.cell? ⟨b, o + k * 5 + 4, none⟩ = some (.int .i64 (f4 k)) := fun y => y.cell (cell_lt q4) q4
        clear q0 q1 q2 q3 q4
        have hk0 : (0 : Int) ≤ (k : Int) := by omega
        have hk1 : (k : Int) < (m : Int) := by omega
        go_wp2_with fail
        refine wp_region_mix (C := fun w' => ∃ y : Aft x.w1, w' = y.w1) [true, true, true, true, true, true, true, true, true, true, true, true, true, false] (by kernel_rfl) (by kernel_rfl) (fun _ _ d _ _ h => by cases d <;> exact h) ⟨⟨_, (Below.refl x.w1.heap.size x.w1).drew⟩, rfl⟩ ?_
        iterate 13 (refine mix_look _ rfl (by rintro _ ⟨x, rfl⟩; go_simp; rfl) ?_; go_simp)
        refine mix_alone rfl ?_
        go_simp
        refine ⟨⟨⟨_, ((Below.refl x.w1.heap.size x.w1).drew).alloc (by simp) _⟩, rfl⟩, ?_⟩
        simp only [wpMix]
        have hOW := (HO.out.alloc (.cells #[.int .i64 (f1 k), .int .i64 (f2 k), .int .i64 1, .int .i64 (f3 k), .int .i64 (f4 k), .int .i64 2] 93)).drew
        have hbase : w1.heap.size ≤ ((x.w1.alloc (.cells #[.int .i64 (f1 k), .int .i64 (f2 k), .int .i64 1, .int .i64 (f3 k), .int .i64 (f4 k), .int .i64 2] 93)).drew).heap.size := by
          have := x.below.size
          simp
          omega
        go_wp2_with (at_builtin; refine wpList_append_own _ rfl _ _ 49 rfl w1.heap.size 93 ib _ 3 24 Try.underlying49 hib hib0 hib1 hib2 rfl (by decide) _ _ _ rfl hOW ⟨x.w1.heap.size, 0, none⟩ 2 2 [.int .i64 (f1 k), .int .i64 (f2 k), .int .i64 1, .int .i64 (f3 k), .int .i64 (f4 k), .int .i64 2] rfl rfl (World.news_of_block (cs := #[.int .i64 (f1 k), .int .i64 (f2 k), .int .i64 1, .int .i64 (f3 k), .int .i64 (f4 k), .int .i64 2]) (t := 93) (fr := (0, 0)) (heap_alloc_new x.w1 _)) (by simp [Value.oneCell']) (by unfold maxLen; omega) (by omega) hbase ?_; intro v' w2 hown2 hgrow2 _)
        have HO2 := Lib.hid hown2
        have HG2 := Lib.hid hgrow2
        clear hown2 hgrow2
        go_roundw
        case rel => exact ⟨k + 1, ⟨w2, grown_below ((x.below.alloc x.below.size _).drew) HG2.out (fun g hg => (HO.out.lt g hg).1)⟩, by omega, by go_num, rfl, by rw [bcells_succ]; exact HO2.out⟩
        case measure => simp [intOf]; omega
      · obtain rfl : k = m := by omega
        have HSO : Hid (SO x.w1 w1.heap.size 93 3 _ _ (vBuoys f1 f2 f3 f4)) := Lib.hid ⟨_, HO.out, fun i hi j hj => bcells_at f1 f2 f3 f4 _ i j hi hj⟩
        obtain ⟨go, co, rfl⟩ := HSO.out.form
        go_wp2
        go_ret2
        exact ⟨_, _, rfl, SO.mono HSO.out HBL.out.size, held_next HBL.out x.below⟩
  · have hm0 := hc0 hc
    subst hm0
    have hne : (code != 0) = true := by simp [hc]
    go_wp2
    go_ret2
    exact ⟨none, 0, rfl, SO.nil, HBL.out⟩
set_option maxRecDepth 100000 in
set_option maxHeartbeats 8000000 in
theorem specBuoysFor_c (nm : ByteArray) (A : Option Addr) (n cap : Nat) (wd sp : Int) (X Y : Nat → Int) (w : World) (hs : nm.size ≤ maxLen) (hn : n ≤ 1048576) (hR : Rec 2 w A n (vPoint X Y)) :
    Calls Try.prog 27 #[.agg #[.string nm, .slice A n cap, .int .i64 wd], .int .i64 sp] w (BPost (gf1 X Y n wd sp) (gf2 X Y n wd sp) (gf3 X Y n wd sp) (gf4 X Y n wd sp) (gaM X Y n wd sp nm) (gaCode X Y n wd sp nm) w) := by
  have HL := Lib.hid (fun W h c0 c1 c2 => l13Buoys_c (some ⟨w.heap.size, 0, none⟩) sp (gaM X Y n wd sp nm) (gaCode X Y n wd sp nm) _ _ _ _ _ W (Nat.le_trans (gaM_le nm n wd sp X Y) (by omega)) (fun h => by unfold gaM; rw [if_neg h]) (Lib.hid (l13Gates_c w.heap.size nm A n cap wd sp X Y W hs hn h c0 c1 c2)))
  generalize gaCode X Y n wd sp nm = code at *
  generalize gaM X Y n wd sp nm = m at *
  generalize gf1 X Y n wd sp = f1 at *
  generalize gf2 X Y n wd sp = f2 at *
  generalize gf3 X Y n wd sp = f3 at *
  generalize gf4 X Y n wd sp = f4 at *
  go_enter Try.func27, Try.ntmps27
  go_wp2_with fail
  refine (HL.out _ (hR.below (by repeat (first | exact Below.refl _ _ | refine Below.alloc ?_ (by simp; try omega) _ | refine Below.drew ?_))) (by simp [go_sem]) (by simp [go_sem]) (by simp [go_sem])).mono ?_
  rintro e w1 ⟨B, c, rfl, hso, hb1⟩
  have HSO := Lib.hid (hso.mono (Nat.le_of_lt (by simp : w.heap.size < (w.alloc (.cells #[.string nm, .slice A n cap, .int .i64 wd] 32)).heap.size)))
  clear hso
  go_wp2
  go_ret2
  exact ⟨B, c, rfl, HSO.out, below_box hb1⟩
set_option maxRecDepth 100000 in
set_option maxHeartbeats 8000000 in
theorem implBuoysFor_in (nm : ByteArray) (A0 : Option Addr) (n cap0 : Nat) (wd sp : Int) (m : Nat) (code : Int) (f0 f1 f2 f3 f4 : Nat → Int) (w : World) (hm : m ≤ 1000) (hc0 : code ≠ 0 → m = 0)
    (HG : Hid (∀ W, Below w.heap.size w W → Calls Try.prog 22 #[.agg #[.string nm, .slice A0 n cap0, .int .i64 wd], .int .i64 sp] W (GPost f0 f1 f2 f3 f4 m code W))) :
    Calls Try.prog 28 #[.agg #[.string nm, .slice A0 n cap0, .int .i64 wd], .int .i64 sp] w (BPost f1 f2 f3 f4 m code w) := by
  obtain ⟨ib, hib, hib0, hib1, hib2⟩ := info_parts (show (Try.prog.info? 93).map (fun i => (i.zero, i.size, i.bytes)) = some (some (.agg #[.int .i64 0, .int .i64 0, .int .i64 0]), 3, 24) by kernel_rfl)
  go_enter Try.func28, Try.ntmps28
  go_wp2_with fail
  refine (HG.out _ (by repeat (first | exact Below.refl _ _ | refine Below.alloc ?_ (by simp; try omega) _ | refine Below.drew ?_))).mono ?_
  rintro e w1 ⟨A, cap, rfl, hS, hbl⟩
  have HS := Lib.hid hS
  have HBL := Lib.hid (below_box hbl)
  clear hS hbl HG
  by_cases hc : code = 0
  · subst hc
    have hown0 : (w1.alloc (.cells #[] 93)).ownsRow w1.heap.size 93 3 (.slice (some ⟨w1.heap.size, 0, none⟩) 0 0) 0 [] := World.ownsRow_lit (base := w1.heap.size) (e := 93) (size := 3) w1 #[] 0 (Nat.le_refl _) (small_row (by omega)) (by simp)
    go_wp2
    go_loopw [8, 23] (fun v i wr => ∃ (k : Nat) (x : Aft w1), k ≤ m ∧ i = .int .i64 k ∧ wr = x.w1 ∧ wr.ownsRow w1.heap.size 93 3 v (2 * k) (bcells f1 f2 f3 f4 k)) (fun _ i _ => m - (intOf i).toNat)
    case atStart => exact ⟨0, ⟨_, (Below.refl _ _).alloc (Nat.le_refl _) _⟩, by omega, rfl, rfl, hown0⟩
    case round =>
      obtain ⟨k, x, hk, rfl, rfl, hown⟩ := hrel
      have HO := Lib.hid hown
      clear hown hown0
      by_cases hlt : k < m
      · obtain ⟨b, o, hi⟩ := HS.out.rec
        obtain ⟨rfl, hc⟩ := hi k hlt
        have p0 : w1.cell? ⟨b, o + k * 5, none⟩ = some (.int .i64 (f0 k)) := by simpa [vGate, Nat.add_assoc] using hc 0 (by omega)
        have p1 : w1.cell? ⟨b, o + k * 5 + 1, none⟩ = some (.int .i64 (f1 k)) := by simpa [vGate, Nat.add_assoc] using hc 1 (by omega)
        have p2 : w1.cell? ⟨b, o + k * 5 + 2, none⟩ = some (.int .i64 (f2 k)) := by simpa [vGate, Nat.add_assoc] using hc 2 (by omega)
        have p3 : w1.cell? ⟨b, o + k * 5 + 3, none⟩ = some (.int .i64 (f3 k)) := by simpa [vGate, Nat.add_assoc] using hc 3 (by omega)
        have p4 : w1.cell? ⟨b, o + k * 5 + 4, none⟩ = some (.int .i64 (f4 k)) := by simpa [vGate, Nat.add_assoc] using hc 4 (by omega)
        have q0 := x.cell (cell_lt p0) p0
        have q1 := x.cell (cell_lt p1) p1
        have q2 := x.cell (cell_lt p2) p2
        have q3 := x.cell (cell_lt p3) p3
        have q4 := x.cell (cell_lt p4) p4
        have r2 : x.w1.cell? ⟨b, o + k * 5 + 1 + 1, none⟩ = some (.int .i64 (f2 k)) := q2
        have r4 : x.w1.cell? ⟨b, o + k * 5 + 3 + 1, none⟩ = some (.int .i64 (f4 k)) := q4
        clear hc hi p0 p1 p2 p3 p4
        have hOW := (HO.out.alloc (.cells #[.int .i64 (f0 k), .int .i64 (f1 k), .int .i64 (f2 k), .int .i64 (f3 k), .int .i64 (f4 k)] 84)).alloc (.cells #[.int .i64 (f1 k), .int .i64 (f2 k), .int .i64 1, .int .i64 (f3 k), .int .i64 (f4 k), .int .i64 2] 93)
        have hbase : w1.heap.size ≤ ((x.w1.alloc (.cells #[.int .i64 (f0 k), .int .i64 (f1 k), .int .i64 (f2 k), .int .i64 (f3 k), .int .i64 (f4 k)] 84)).alloc (.cells #[.int .i64 (f1 k), .int .i64 (f2 k), .int .i64 1, .int .i64 (f3 k), .int .i64 (f4 k), .int .i64 2] 93)).heap.size := by
          have := x.below.size
          simp
          omega
        have hnew : ((x.w1.alloc (.cells #[.int .i64 (f0 k), .int .i64 (f1 k), .int .i64 (f2 k), .int .i64 (f3 k), .int .i64 (f4 k)] 84)).alloc (.cells #[.int .i64 (f1 k), .int .i64 (f2 k), .int .i64 1, .int .i64 (f3 k), .int .i64 (f4 k), .int .i64 2] 93)).heap[x.w1.heap.size + 1]? = some (.cells #[.int .i64 (f1 k), .int .i64 (f2 k), .int .i64 1, .int .i64 (f3 k), .int .i64 (f4 k), .int .i64 2] 93) := by simpa using heap_alloc_new (x.w1.alloc (.cells #[.int .i64 (f0 k), .int .i64 (f1 k), .int .i64 (f2 k), .int .i64 (f3 k), .int .i64 (f4 k)] 84)) (.cells #[.int .i64 (f1 k), .int .i64 (f2 k), .int .i64 1, .int .i64 (f3 k), .int .i64 (f4 k), .int .i64 2] 93)
        have HX := Lib.hid x.below
        go_wp2_with (at_builtin; refine wpList_append_own _ rfl _ _ 49 rfl w1.heap.size 93 ib _ 3 24 Try.underlying49 hib hib0 hib1 hib2 rfl (by decide) _ _ _ rfl hOW ⟨x.w1.heap.size + 1, 0, none⟩ 2 2 [.int .i64 (f1 k), .int .i64 (f2 k), .int .i64 1, .int .i64 (f3 k), .int .i64 (f4 k), .int .i64 2] rfl rfl (World.news_of_block (cs := #[.int .i64 (f1 k), .int .i64 (f2 k), .int .i64 1, .int .i64 (f3 k), .int .i64 (f4 k), .int .i64 2]) (t := 93) (fr := (0, 0)) hnew) (by simp [Value.oneCell']) (by unfold maxLen; omega) (by omega) hbase ?_; intro v' w2 hown2 hgrow2 _)
        have HO2 := Lib.hid hown2
        have HG2 := Lib.hid hgrow2
        clear hown2 hgrow2
        go_roundw
        case rel => exact ⟨k + 1, ⟨w2, grown_below ((HX.out.alloc HX.out.size _).alloc (Nat.le_trans HX.out.size (by simp)) _) HG2.out (fun g hg => (HO.out.lt g hg).1)⟩, by omega, by go_num, rfl, by rw [bcells_succ]; exact HO2.out⟩
        case measure => simp [intOf]; omega
      · obtain rfl : k = m := by omega
        have HSO : Hid (SO x.w1 w1.heap.size 93 3 _ _ (vBuoys f1 f2 f3 f4)) := Lib.hid ⟨_, HO.out, fun i hi j hj => bcells_at f1 f2 f3 f4 _ i j hi hj⟩
        obtain ⟨go, co, rfl⟩ := HSO.out.form
        go_wp2
        go_ret2
        exact ⟨_, _, rfl, SO.mono HSO.out HBL.out.size, held_next HBL.out x.below⟩
  · have hm0 := hc0 hc
    subst hm0
    have hne : (code != 0) = true := by simp [hc]
    go_wp2
    go_ret2
    exact ⟨none, 0, rfl, SO.nil, HBL.out⟩
theorem implBuoysFor_c (nm : ByteArray) (A : Option Addr) (n cap : Nat) (wd sp : Int) (X Y : Nat → Int) (w : World) (hs : nm.size ≤ maxLen) (hn : n ≤ 1048576) (hR : Rec 2 w A n (vPoint X Y)) :
    Calls Try.prog 28 #[.agg #[.string nm, .slice A n cap, .int .i64 wd], .int .i64 sp] w (BPost (gf1 X Y n wd sp) (gf2 X Y n wd sp) (gf3 X Y n wd sp) (gf4 X Y n wd sp) (gaM X Y n wd sp nm) (gaCode X Y n wd sp nm) w) :=
  implBuoysFor_in nm A n cap wd sp _ _ _ _ _ _ _ w (Nat.le_trans (gaM_le nm n wd sp X Y) (by omega)) (fun h => by unfold gaM; rw [if_neg h]) (Lib.hid (fun W h => implGates_c nm A n cap wd sp X Y W hs hn (hR.below h)))
theorem bu_same (nm : ByteArray) (n : Nat) (wd sp : Int) (X Y : Nat → Int) (hs : nm.size ≤ maxLen) (hn : n ≤ 1048576) :
    ∃ (m : Nat) (code : Int) (f1 f2 f3 : Nat → Int), m ≤ 1048576 ∧
      (∀ (A : Option Addr) (cap : Nat) (W : World), Rec 2 W A n (vPoint X Y) → Calls Try.prog 27 #[.agg #[.string nm, .slice A n cap, .int .i64 wd], .int .i64 sp] W fun e w' => ∃ A cap, e = .returned (.tuple #[.slice A m cap, .int .i64 code]) ∧ SO w' W.heap.size 93 3 (.slice A m cap) m (vBuoy f1 f2 f3) ∧ Below W.heap.size W w') ∧
      (∀ (A : Option Addr) (cap : Nat) (W : World), Rec 2 W A n (vPoint X Y) → Calls Try.prog 28 #[.agg #[.string nm, .slice A n cap, .int .i64 wd], .int .i64 sp] W fun e w' => ∃ A cap, e = .returned (.tuple #[.slice A m cap, .int .i64 code]) ∧ SO w' W.heap.size 93 3 (.slice A m cap) m (vBuoy f1 f2 f3) ∧ Below W.heap.size W w') :=
  ⟨2 * gaM X Y n wd sp nm, gaCode X Y n wd sp nm, _, _, _, (by have := gaM_le nm n wd sp X Y; omega), fun A cap W h => specBuoysFor_c nm A n cap wd sp X Y W hs hn h, fun A cap W h => implBuoysFor_c nm A n cap wd sp X Y W hs hn h⟩
theorem heldBuoy_c (A : Option Addr) (n cap : Nat) (k : Int) (w : World) (hn : n ≤ 1048576) (k0 : 0 ≤ k) (k1 : k ≤ 1000000000000) (h : Rec 3 w A n (mkBuoy k)) :
    Calls Try.prog 31 #[.slice A n cap, .int .i64 k] w fun e w' => e = .returned (.int .i64 (k + 3 * n)) ∧ Below w.heap.size w w' :=
  (heldBuoyS_c A n cap k w hn k0 k1 h).mono fun _e _w' ⟨h1, h2⟩ => ⟨h1, h2 ▸ Below.refl _ _⟩
end Go.Proofs.Ytimfpnmcdicldaa
