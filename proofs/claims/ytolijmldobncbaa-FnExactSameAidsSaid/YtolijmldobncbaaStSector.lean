/- Slices of Sector: contracts of the laws' helpers. -/
import Derived.Test.YtolijmldobncbaaOwn
import Derived.Laws.StructEq
namespace Go.Proofs.Ytolijmldobncbaa
open Go Go.RowKit
def vSector (f0 : Nat → Int) (f1 : Nat → Int) (f2 : Nat → ByteArray) (i j : Nat) : Value := if j = 0 then .int .i64 (f0 i) else if j = 1 then .int .i64 (f1 i) else .string (f2 i)
theorem rowsSector {w : World} {A : Option Addr} {n : Nat} (h : Rows0 [0, 0, 1] w A n) : ∃ (f0 : Nat → Int) (f1 : Nat → Int) (f2 : Nat → ByteArray), Rec 3 w A n (vSector f0 f1 f2) ∧ ∀ i, i < n → (Lit.int .i64 (f0 i)).wf = true ∧ (Lit.int .i64 (f1 i)).wf = true ∧ (f2 i).size ≤ maxLen := by
  obtain ⟨f, hf, hl⟩ := h.rec
  refine ⟨fun i => intOf (f i 0), fun i => intOf (f i 1), fun i => strOf (f i 2), hf.congr fun i hi j hj => ?_, fun i hi => ?_⟩
  · have hj : j = 0 ∨ j = 1 ∨ j = 2 := by simp only [List.length_cons, List.length_nil] at hj; omega
    rcases hj with rfl | rfl | rfl
    · exact (hl i hi 0 _ rfl).int.1
    · exact (hl i hi 1 _ rfl).int.1
    · exact (hl i hi 2 _ rfl).str.1
  · exact ⟨(hl i hi 0 _ rfl).int.2, (hl i hi 1 _ rfl).int.2, (hl i hi 2 _ rfl).str.2⟩
set_option maxHeartbeats 1000000 in
theorem toSector_c (x0 : Int) (x1 : Int) (x2 : ByteArray) (w : World) :
    Calls Try.prog 35 #[.agg #[.int .i64 x0, .int .i64 x1, .string x2]] w fun e w' => e = .returned (.agg #[.int .i64 x0, .int .i64 x1, .string x2]) ∧ Below w.heap.size w w' := by
  go_enter Try.func35, Try.ntmps35
  go_wp2
  refine bodyPost_ret (v := .agg #[.int .i64 x0, .int .i64 x1, .string x2]) (by simp [results, Try.results35, go_sem]) rfl ⟨rfl, (by repeat (first | exact Below.refl _ _ | refine Below.alloc ?_ (by simp; try omega) _ | refine Below.drew ?_))⟩
theorem infoSector : (Try.prog.info? 60).map (fun i => (i.zero, i.size, i.bytes)) = some (some (.agg #[.int .i64 0, .int .i64 0, .string ByteArray.empty]), 3, 32) := by kernel_rfl
set_option maxHeartbeats 1000000 in
theorem toSectorS_c (A : Option Addr) (n cap : Nat) (f0 : Nat → Int) (f1 : Nat → Int) (f2 : Nat → ByteArray) (w : World) (hn : n ≤ 1048576) (h : Rec 3 w A n (vSector f0 f1 f2)) :
    Calls Try.prog 22 #[.slice A n cap] w fun e w' => ∃ g, e = .returned (.slice (some ⟨g, 0, none⟩) n n) ∧ Filling 60 3 w w' g n n (vSector f0 f1 f2) := by
  obtain ⟨i0, hi0, hz0, hz1, hz2⟩ := info_parts infoSector
  go_enter Try.func22, Try.ntmps22
  go_wp2_with (at_make; refine wpList_make_full _ rfl _ _ 37 rfl w.heap.size 60 i0 _ 3 Try.underlying37 hi0 hz0 hz1 _ _ _ _ n rfl rfl rfl rfl (by rw [hz2]; omega) (by unfold maxLen; omega) (by simp) ?_)
  intro w1 hown hgrow
  have hb1 : Below w.heap.size w w1 := (Below.refl _ _).grown hgrow (Nat.le_refl _) (by simp)
  go_wp2
  go_loopw [4] (fun i wr => ∃ k : Nat, k ≤ n ∧ i = .int .i64 k ∧ Filling 60 3 w wr w.heap.size n k (vSector f0 f1 f2)) (fun i _ => n - (intOf i).toNat)
  case atStart => exact ⟨0, by omega, rfl, _, hown, fun i hi => by omega, hb1⟩
  case round =>
    obtain ⟨k, hk, rfl, xs, hown2, hxs, hbw⟩ := hrel
    by_cases hlt : k < n
    · obtain ⟨b, o, hi⟩ := h.below hbw
      obtain ⟨rfl, hc⟩ := hi k hlt
      have c0 : wr.cell? ⟨b, o + k * 3, none⟩ = some (.int .i64 (f0 k)) := by simpa [vSector, Nat.add_assoc] using hc 0 (by omega)
      have c1 : wr.cell? ⟨b, o + k * 3 + 1, none⟩ = some (.int .i64 (f1 k)) := by simpa [vSector, Nat.add_assoc] using hc 1 (by omega)
      have c2 : wr.cell? ⟨b, o + k * 3 + 2, none⟩ = some (.string (f2 k)) := by simpa [vSector, Nat.add_assoc] using hc 2 (by omega)
      have HW := Lib.hid hown2
      have HX := Lib.hid hxs
      clear hc hi hown hown2 hgrow hxs
      go_wp2_with fail
      refine (toSector_c _ _ _ _).mono ?_
      rintro e w2 ⟨rfl, hb2⟩
      have hown3 := own_below HW.out hb2
      have hlen : xs.length = n * 3 := hown3.1
      obtain ⟨u0, d0⟩ : ∃ u, w2.cell? ⟨w.heap.size, k * 3, none⟩ = some u := ⟨_, (hown3.cellAt (k * 3) (by omega)).trans (List.getElem?_eq_getElem (by omega))⟩
      have g0 := hown3.frozenAt (k * 3)
      obtain ⟨u1, d1⟩ : ∃ u, w2.cell? ⟨w.heap.size, k * 3 + 1, none⟩ = some u := ⟨_, (hown3.cellAt (k * 3 + 1) (by omega)).trans (List.getElem?_eq_getElem (by omega))⟩
      have g1 := hown3.frozenAt (k * 3 + 1)
      obtain ⟨u2, d2⟩ : ∃ u, w2.cell? ⟨w.heap.size, k * 3 + 2, none⟩ = some u := ⟨_, (hown3.cellAt (k * 3 + 2) (by omega)).trans (List.getElem?_eq_getElem (by omega))⟩
      have g2 := hown3.frozenAt (k * 3 + 2)
      have HW3 := Lib.hid hown3
      have HL := Lib.hid hlen
      clear hlen hown3
      go_wp2
      go_roundw
      case rel =>
        have b0 := held_next hbw hb2
        have o0 := HW3.out
        obtain ⟨o1, b1⟩ := own_put o0 b0 (Nat.le_refl _) (k * 3) (.int .i64 (f0 k))
        obtain ⟨o2, b2⟩ := own_put o1 b1 (Nat.le_refl _) (k * 3 + 1) (.int .i64 (f1 k))
        obtain ⟨o3, b3⟩ := own_put o2 b2 (Nat.le_refl _) (k * 3 + 2) (.string (f2 k))
        refine ⟨k + 1, by omega, by go_num, _, o3, fun i hi j hj => ?_, b3⟩
        have hl := HL.out
        have e2 : j = 0 ∨ j = 1 ∨ j = 2 := by omega
        by_cases e : i = k
        · subst e
          rcases e2 with rfl | rfl | rfl
          · exact set_other (set_other (set_here (by first | omega | (simp only [List.length_set]; omega))) (by omega)) (by omega)
          · exact set_other (set_here (by first | omega | (simp only [List.length_set]; omega))) (by omega)
          · exact set_here (by first | omega | (simp only [List.length_set]; omega))
        · exact set_other (set_other (set_other (HX.out i (by omega) j hj) (by omega)) (by omega)) (by omega)
      case measure => simp [intOf]; omega
    · obtain rfl : k = n := by omega
      go_wp2
      go_ret
      exact ⟨_, rfl, xs, hown2, hxs, hbw⟩
set_option maxHeartbeats 1000000 in
theorem szSector_c (x0 : Int) (x1 : Int) (x2 : ByteArray) (left : Int) (h2 : x2.size ≤ maxLen) (l0 : 0 ≤ left) (l1 : left ≤ 1048576) (w : World) :
    Calls Try.prog 31 #[.agg #[.int .i64 x0, .int .i64 x1, .string x2], .int .i64 left] w (SzPost 0 left w) := by
  unfold maxLen at h2
  go_enter Try.func31, Try.ntmps31
  go_wp2
  all_goals
    go_ret
    first
      | exact ⟨.inl rfl, (by repeat (first | exact Below.refl _ _ | refine Below.alloc ?_ (by simp; try omega) _ | refine Below.drew ?_))⟩
      | exact ⟨.inr ⟨_, by omega, by omega, rfl⟩, (by repeat (first | exact Below.refl _ _ | refine Below.alloc ?_ (by simp; try omega) _ | refine Below.drew ?_))⟩
set_option maxHeartbeats 1000000 in
theorem szSectorS_c (A : Option Addr) (n cap : Nat) (f0 : Nat → Int) (f1 : Nat → Int) (f2 : Nat → ByteArray) (left : Int) (hn : n ≤ maxLen) (s2 : ∀ i, i < n → (f2 i).size ≤ maxLen) (l0 : 0 ≤ left) (l1 : left ≤ 1048576) (w : World) (h : Rec 3 w A n (vSector f0 f1 f2)) :
    Calls Try.prog 17 #[.slice A n cap, .int .i64 left] w (SzPost n left w) := by
  unfold maxLen at hn
  by_cases hl : (n : Int) ≤ left
  · go_enter Try.func17, Try.ntmps17
    go_wp2
    go_loopw [1, 5] (fun l i wr => ∃ (k : Nat) (r : Int) (x : Aft w), k ≤ n ∧ i = .int .i64 k ∧ wr = x.w1 ∧ l = .int .i64 r ∧ 0 ≤ r ∧ r + n ≤ left) (fun _ i _ => n - (intOf i).toNat)
    case atStart => exact ⟨0, left - n, ⟨w, Below.refl _ _⟩, by omega, rfl, rfl, rfl, by omega, by omega⟩
    case round =>
      obtain ⟨k, r, x, hk, rfl, rfl, rfl, r0, r1⟩ := hrel
      by_cases hlt : k < n
      · obtain ⟨b, o, hi⟩ := h.aft x
        obtain ⟨rfl, hc⟩ := hi k hlt
        have c0 : x.w1.cell? ⟨b, o + k * 3, none⟩ = some (.int .i64 (f0 k)) := by simpa [vSector, Nat.add_assoc] using hc 0 (by omega)
        have c1 : x.w1.cell? ⟨b, o + k * 3 + 1, none⟩ = some (.int .i64 (f1 k)) := by simpa [vSector, Nat.add_assoc] using hc 1 (by omega)
        have c2 : x.w1.cell? ⟨b, o + k * 3 + 2, none⟩ = some (.string (f2 k)) := by simpa [vSector, Nat.add_assoc] using hc 2 (by omega)
        have HS := Lib.hid (fun W => szSector_c (f0 k) (f1 k) (f2 k) r (s2 k hlt) r0 (by omega) W)
        clear hc hi
        go_wp2_with fail
        refine (HS.out _).mono ?_
        rintro e w2 ⟨rfl | ⟨r2, q0, q1, rfl⟩, hb2⟩
        · go_wp2
          go_ret
          exact ⟨.inl rfl, held_next x.below hb2⟩
        · go_wp2
          go_roundw
          case rel => exact ⟨k + 1, r2, ⟨w2, held_next x.below hb2⟩, by omega, by go_num, rfl, rfl, q0, by omega⟩
          case measure => simp [intOf]; omega
      · obtain rfl : k = n := by omega
        go_wp2
        go_ret
        exact ⟨.inr ⟨r, r0, r1, rfl⟩, x.below⟩
  · go_enter Try.func17, Try.ntmps17
    go_wp2
    go_ret
    exact ⟨.inl rfl, Below.refl _ _⟩
set_option maxHeartbeats 1000000 in
theorem eqSector_same (x0 : Int) (x1 : Int) (x2 : ByteArray) (w : World) :
    Calls Try.prog 38 #[.agg #[.int .i64 x0, .int .i64 x1, .string x2], .agg #[.int .i64 x0, .int .i64 x1, .string x2]] w fun e w' => e = .returned (.bool true) ∧ Below w.heap.size w w' := by
  go_enter Try.func38, Try.ntmps38
  go_wp2
  go_ret
  exact ⟨rfl, (by repeat (first | exact Below.refl _ _ | refine Below.alloc ?_ (by simp; try omega) _ | refine Below.drew ?_))⟩
set_option maxHeartbeats 2000000 in
theorem eqSectorS_same (A B : Option Addr) (n ca cb : Nat) (f0 : Nat → Int) (f1 : Nat → Int) (f2 : Nat → ByteArray) (w : World) (hn : n ≤ 1048576) (hA : Rec 3 w A n (vSector f0 f1 f2)) (hB : Rec 3 w B n (vSector f0 f1 f2)) :
    Calls Try.prog 28 #[.slice A n ca, .slice B n cb] w fun e w' => e = .returned (.bool true) ∧ Below w.heap.size w w' := by
  go_enter Try.func28, Try.ntmps28
  go_wp2
  go_loopw [5] (fun i wr => ∃ (k : Nat) (x : Aft w), k ≤ n ∧ i = .int .i64 k ∧ wr = x.w1) (fun i _ => n - (intOf i).toNat)
  case atStart => exact ⟨0, ⟨w, Below.refl _ _⟩, by omega, rfl, rfl⟩
  case round =>
    obtain ⟨k, x, hk, rfl, rfl⟩ := hrel
    by_cases hlt : k < n
    · obtain ⟨b, o, hi⟩ := hA
      obtain ⟨rfl, hc⟩ := hi k hlt
      obtain ⟨b2, o2, hi2⟩ := hB
      obtain ⟨rfl, hc2⟩ := hi2 k hlt
      have p0 : w.cell? ⟨b, o + k * 3, none⟩ = some (.int .i64 (f0 k)) := by simpa [vSector, Nat.add_assoc] using hc 0 (by omega)
      have q0 : w.cell? ⟨b2, o2 + k * 3, none⟩ = some (.int .i64 (f0 k)) := by simpa [vSector, Nat.add_assoc] using hc2 0 (by omega)
      have c0 : ∀ y : Aft w, y.w1.cell? ⟨b, o + k * 3, none⟩ = some (.int .i64 (f0 k)) := fun y => y.cell (cell_lt p0) p0
      have e0 : ∀ y : Aft w, y.w1.cell? ⟨b2, o2 + k * 3, none⟩ = some (.int .i64 (f0 k)) := fun y => y.cell (cell_lt q0) q0
      have p1 : w.cell? ⟨b, o + k * 3 + 1, none⟩ = some (.int .i64 (f1 k)) := by simpa [vSector, Nat.add_assoc] using hc 1 (by omega)
      have q1 : w.cell? ⟨b2, o2 + k * 3 + 1, none⟩ = some (.int .i64 (f1 k)) := by simpa [vSector, Nat.add_assoc] using hc2 1 (by omega)
      have c1 : ∀ y : Aft w, y.w1.cell? ⟨b, o + k * 3 + 1, none⟩ = some (.int .i64 (f1 k)) := fun y => y.cell (cell_lt p1) p1
      have e1 : ∀ y : Aft w, y.w1.cell? ⟨b2, o2 + k * 3 + 1, none⟩ = some (.int .i64 (f1 k)) := fun y => y.cell (cell_lt q1) q1
      have p2 : w.cell? ⟨b, o + k * 3 + 2, none⟩ = some (.string (f2 k)) := by simpa [vSector, Nat.add_assoc] using hc 2 (by omega)
      have q2 : w.cell? ⟨b2, o2 + k * 3 + 2, none⟩ = some (.string (f2 k)) := by simpa [vSector, Nat.add_assoc] using hc2 2 (by omega)
      have c2 : ∀ y : Aft w, y.w1.cell? ⟨b, o + k * 3 + 2, none⟩ = some (.string (f2 k)) := fun y => y.cell (cell_lt p2) p2
      have e2 : ∀ y : Aft w, y.w1.cell? ⟨b2, o2 + k * 3 + 2, none⟩ = some (.string (f2 k)) := fun y => y.cell (cell_lt q2) q2
      clear hc hi hc2 hi2 p0 q0 p1 q1 p2 q2
      go_wp2
      refine wp_region_aftx x (by kernel_rfl) (by kernel_rfl) ?_
      repeat (go_big_quiet_step ((go_at_call 38; exact Aft.call (eqSector_same _ _ _ _))))
      refine wpQuiet_nil ?_
      intro z
      go_wp2
      go_roundw
      case rel => exact ⟨k + 1, z, by omega, by go_num, rfl⟩
      case measure => simp [intOf]; omega
    · obtain rfl : k = n := by omega
      go_wp2
      go_ret
      exact ⟨rfl, x.below⟩
def dSector (x0 : Int) (x1 : Int) (x2 : ByteArray) (y0 : Int) (y1 : Int) (y2 : ByteArray) : Bool := (x0 == y0) && (x1 == y1) && (x2.toList == y2.toList)
theorem dSector_self (x0 : Int) (x1 : Int) (x2 : ByteArray) : dSector x0 x1 x2 x0 x1 x2 = true := by simp [dSector]
theorem neqSector_run (x0 : Int) (x1 : Int) (x2 : ByteArray) (y0 : Int) (y1 : Int) (y2 : ByteArray) (W : World) :
    (binOp .neq 60 (.agg #[.int .i64 x0, .int .i64 x1, .string x2]) (.agg #[.int .i64 y0, .int .i64 y1, .string y2])).run Try.prog W = .ok (.bool (!dSector x0 x1 x2 y0 y1 y2)) W := by
  rw [run_neq_struct]
  have hp : Try.prog.stoodInHeld 60 = false := by kernel_rfl
  have hf : Try.prog.underlying 60 = some (.struct (Try.prog.fieldsOf 60)) := by unfold Program.fieldsOf; rw [Try.underlying60]
  rw [run_equalIn_struct W 9999 60 _ _ hf hp]
  unfold Program.fieldsOf
  rw [Try.underlying60]
  simp [go_sem, Op.eqFields, dSector]
  by_cases h0 : x0 = y0 <;> by_cases h1 : x1 = y1 <;> by_cases h2 : x2.toList = y2.toList <;> simp [h0, h1, h2]
theorem eqlSector_run (x0 : Int) (x1 : Int) (x2 : ByteArray) (y0 : Int) (y1 : Int) (y2 : ByteArray) (W : World) :
    (binOp .eql 60 (.agg #[.int .i64 x0, .int .i64 x1, .string x2]) (.agg #[.int .i64 y0, .int .i64 y1, .string y2])).run Try.prog W = .ok (.bool (dSector x0 x1 x2 y0 y1 y2)) W := by
  rw [run_eql_struct]
  have hp : Try.prog.stoodInHeld 60 = false := by kernel_rfl
  have hf : Try.prog.underlying 60 = some (.struct (Try.prog.fieldsOf 60)) := by unfold Program.fieldsOf; rw [Try.underlying60]
  rw [run_equalIn_struct W 9999 60 _ _ hf hp]
  unfold Program.fieldsOf
  rw [Try.underlying60]
  simp [go_sem, Op.eqFields, dSector]
  by_cases h0 : x0 = y0 <;> by_cases h1 : x1 = y1 <;> by_cases h2 : x2.toList = y2.toList <;> simp [h0, h1, h2]
def sameSector (n n' : Nat) (f0 : Nat → Int) (f1 : Nat → Int) (f2 : Nat → ByteArray) (f0' : Nat → Int) (f1' : Nat → Int) (f2' : Nat → ByteArray) : Bool := decide (n = n') && allB n (fun i => dSector (f0 i) (f1 i) (f2 i) (f0' i) (f1' i) (f2' i))
set_option maxHeartbeats 2000000 in
theorem implSameSector_c (A B : Option Addr) (n n' ca cb : Nat) (f0 : Nat → Int) (f1 : Nat → Int) (f2 : Nat → ByteArray) (f0' : Nat → Int) (f1' : Nat → Int) (f2' : Nat → ByteArray) (w : World) (hn : n ≤ 1048576) (hn' : n' ≤ 1048576) (hA : Rec 3 w A n (vSector f0 f1 f2)) (hB : Rec 3 w B n' (vSector f0' f1' f2')) :
    Calls Try.prog 24 #[.slice A n ca, .slice B n' cb] w fun e w' => e = .returned (.bool (sameSector n n' f0 f1 f2 f0' f1' f2')) ∧ Below w.heap.size w w' := by
  by_cases hnn : n = n'
  · subst hnn
    have hneq := @neqSector_run
    go_enter Try.func24, Try.ntmps24
    go_wp2
    go_loopw [13] (fun i wr => ∃ (k : Nat) (x : Aft w), k ≤ n ∧ i = .int .i64 k ∧ wr = x.w1 ∧ Hid (∀ i, i < k → dSector (f0 i) (f1 i) (f2 i) (f0' i) (f1' i) (f2' i) = true)) (fun i _ => n - (intOf i).toNat)
    case atStart => exact ⟨0, ⟨w, Below.refl _ _⟩, by omega, rfl, rfl, Lib.hid (fun i hi => by omega)⟩
    case round =>
      obtain ⟨k, x, hk, rfl, rfl, hall⟩ := hrel
      by_cases hlt : k < n
      · obtain ⟨b, o, hi⟩ := hA
        obtain ⟨rfl, hc⟩ := hi k hlt
        obtain ⟨b2, o2, hi2⟩ := hB
        obtain ⟨rfl, hc2⟩ := hi2 k hlt
        have p0 : w.cell? ⟨b, o + k * 3, none⟩ = some (.int .i64 (f0 k)) := by simpa [vSector, Nat.add_assoc] using hc 0 (by omega)
        have q0 : w.cell? ⟨b2, o2 + k * 3, none⟩ = some (.int .i64 (f0' k)) := by simpa [vSector, Nat.add_assoc] using hc2 0 (by omega)
        have c0 : ∀ y : Aft w, y.w1.cell? ⟨b, o + k * 3, none⟩ = some (.int .i64 (f0 k)) := fun y => y.cell (cell_lt p0) p0
        have e0 : ∀ y : Aft w, y.w1.cell? ⟨b2, o2 + k * 3, none⟩ = some (.int .i64 (f0' k)) := fun y => y.cell (cell_lt q0) q0
        have p1 : w.cell? ⟨b, o + k * 3 + 1, none⟩ = some (.int .i64 (f1 k)) := by simpa [vSector, Nat.add_assoc] using hc 1 (by omega)
        have q1 : w.cell? ⟨b2, o2 + k * 3 + 1, none⟩ = some (.int .i64 (f1' k)) := by simpa [vSector, Nat.add_assoc] using hc2 1 (by omega)
        have c1 : ∀ y : Aft w, y.w1.cell? ⟨b, o + k * 3 + 1, none⟩ = some (.int .i64 (f1 k)) := fun y => y.cell (cell_lt p1) p1
        have e1 : ∀ y : Aft w, y.w1.cell? ⟨b2, o2 + k * 3 + 1, none⟩ = some (.int .i64 (f1' k)) := fun y => y.cell (cell_lt q1) q1
        have p2 : w.cell? ⟨b, o + k * 3 + 2, none⟩ = some (.string (f2 k)) := by simpa [vSector, Nat.add_assoc] using hc 2 (by omega)
        have q2 : w.cell? ⟨b2, o2 + k * 3 + 2, none⟩ = some (.string (f2' k)) := by simpa [vSector, Nat.add_assoc] using hc2 2 (by omega)
        have c2 : ∀ y : Aft w, y.w1.cell? ⟨b, o + k * 3 + 2, none⟩ = some (.string (f2 k)) := fun y => y.cell (cell_lt p2) p2
        have e2 : ∀ y : Aft w, y.w1.cell? ⟨b2, o2 + k * 3 + 2, none⟩ = some (.string (f2' k)) := fun y => y.cell (cell_lt q2) q2
        clear hc hi hc2 hi2 p0 q0 p1 q1 p2 q2
        cases hv : dSector (f0 k) (f1 k) (f2 k) (f0' k) (f1' k) (f2' k)
        all_goals
          have HV := Lib.hid hv
          go_wp2
          refine wp_region_aftx x (by kernel_rfl) (by kernel_rfl) ?_
          repeat (go_big_quiet_step (fail))
          refine wpQuiet_nil ?_
          intro z
          go_wp2
          first
            | (go_ret
               exact ⟨ret_bool (by unfold sameSector; rw [allB_no hlt HV.out, Bool.and_false]), Aft.below _⟩)
            | (go_roundw
               case rel => exact ⟨k + 1, z, by omega, by go_num, rfl, Lib.hid (fun i hi => by
                 by_cases e : i = k
                 · rw [e]; exact HV.out
                 · exact hall.out i (by omega))⟩
               case measure => simp [intOf]; omega)
      · obtain rfl : k = n := by omega
        go_wp2
        go_ret
        exact ⟨ret_bool (by unfold sameSector; rw [allB_yes hall.out, decide_eq_true rfl]; rfl), x.below⟩
  · have hne : ((n : Int) == (n' : Int)) = false := by simp; omega
    have hne2 : ((n : Int) != (n' : Int)) = true := by simp; omega
    have HN := Lib.hid hnn
    clear hnn
    go_enter Try.func24, Try.ntmps24
    go_wp2
    go_ret
    exact ⟨ret_bool (by unfold sameSector; rw [decide_eq_false HN.out]; rfl), Below.refl _ _⟩
set_option maxHeartbeats 2000000 in
theorem specSameSector_c (A B : Option Addr) (n n' ca cb : Nat) (f0 : Nat → Int) (f1 : Nat → Int) (f2 : Nat → ByteArray) (f0' : Nat → Int) (f1' : Nat → Int) (f2' : Nat → ByteArray) (w : World) (hn : n ≤ 1048576) (hn' : n' ≤ 1048576) (hA : Rec 3 w A n (vSector f0 f1 f2)) (hB : Rec 3 w B n' (vSector f0' f1' f2')) :
    Calls Try.prog 33 #[.slice A n ca, .slice B n' cb] w fun e w' => e = .returned (.bool (sameSector n n' f0 f1 f2 f0' f1' f2')) ∧ Below w.heap.size w w' := by
  by_cases hnn : n = n'
  · subst hnn
    have hneq := @neqSector_run
    go_enter Try.func33, Try.ntmps33
    go_wp2
    go_loopw [5] (fun i wr => ∃ (k : Nat) (x : Aft w), k ≤ n ∧ i = .int .i64 k ∧ wr = x.w1 ∧ Hid (∀ i, i < k → dSector (f0 i) (f1 i) (f2 i) (f0' i) (f1' i) (f2' i) = true)) (fun i _ => n - (intOf i).toNat)
    case atStart => exact ⟨0, ⟨w, Below.refl _ _⟩, by omega, rfl, rfl, Lib.hid (fun i hi => by omega)⟩
    case round =>
      obtain ⟨k, x, hk, rfl, rfl, hall⟩ := hrel
      by_cases hlt : k < n
      · obtain ⟨b, o, hi⟩ := hA
        obtain ⟨rfl, hc⟩ := hi k hlt
        obtain ⟨b2, o2, hi2⟩ := hB
        obtain ⟨rfl, hc2⟩ := hi2 k hlt
        have p0 : w.cell? ⟨b, o + k * 3, none⟩ = some (.int .i64 (f0 k)) := by simpa [vSector, Nat.add_assoc] using hc 0 (by omega)
        have q0 : w.cell? ⟨b2, o2 + k * 3, none⟩ = some (.int .i64 (f0' k)) := by simpa [vSector, Nat.add_assoc] using hc2 0 (by omega)
        have c0 : ∀ y : Aft w, y.w1.cell? ⟨b, o + k * 3, none⟩ = some (.int .i64 (f0 k)) := fun y => y.cell (cell_lt p0) p0
        have e0 : ∀ y : Aft w, y.w1.cell? ⟨b2, o2 + k * 3, none⟩ = some (.int .i64 (f0' k)) := fun y => y.cell (cell_lt q0) q0
        have p1 : w.cell? ⟨b, o + k * 3 + 1, none⟩ = some (.int .i64 (f1 k)) := by simpa [vSector, Nat.add_assoc] using hc 1 (by omega)
        have q1 : w.cell? ⟨b2, o2 + k * 3 + 1, none⟩ = some (.int .i64 (f1' k)) := by simpa [vSector, Nat.add_assoc] using hc2 1 (by omega)
        have c1 : ∀ y : Aft w, y.w1.cell? ⟨b, o + k * 3 + 1, none⟩ = some (.int .i64 (f1 k)) := fun y => y.cell (cell_lt p1) p1
        have e1 : ∀ y : Aft w, y.w1.cell? ⟨b2, o2 + k * 3 + 1, none⟩ = some (.int .i64 (f1' k)) := fun y => y.cell (cell_lt q1) q1
        have p2 : w.cell? ⟨b, o + k * 3 + 2, none⟩ = some (.string (f2 k)) := by simpa [vSector, Nat.add_assoc] using hc 2 (by omega)
        have q2 : w.cell? ⟨b2, o2 + k * 3 + 2, none⟩ = some (.string (f2' k)) := by simpa [vSector, Nat.add_assoc] using hc2 2 (by omega)
        have c2 : ∀ y : Aft w, y.w1.cell? ⟨b, o + k * 3 + 2, none⟩ = some (.string (f2 k)) := fun y => y.cell (cell_lt p2) p2
        have e2 : ∀ y : Aft w, y.w1.cell? ⟨b2, o2 + k * 3 + 2, none⟩ = some (.string (f2' k)) := fun y => y.cell (cell_lt q2) q2
        clear hc hi hc2 hi2 p0 q0 p1 q1 p2 q2
        cases hv : dSector (f0 k) (f1 k) (f2 k) (f0' k) (f1' k) (f2' k)
        all_goals
          have HV := Lib.hid hv
          go_wp2
          refine wp_region_aftx x (by kernel_rfl) (by kernel_rfl) ?_
          repeat (go_big_quiet_step (fail))
          refine wpQuiet_nil ?_
          intro z
          go_wp2
          first
            | (go_ret
               exact ⟨ret_bool (by unfold sameSector; rw [allB_no hlt HV.out, Bool.and_false]), Aft.below _⟩)
            | (go_roundw
               case rel => exact ⟨k + 1, z, by omega, by go_num, rfl, Lib.hid (fun i hi => by
                 by_cases e : i = k
                 · rw [e]; exact HV.out
                 · exact hall.out i (by omega))⟩
               case measure => simp [intOf]; omega)
      · obtain rfl : k = n := by omega
        go_wp2
        go_ret
        exact ⟨ret_bool (by unfold sameSector; rw [allB_yes hall.out, decide_eq_true rfl]; rfl), x.below⟩
  · have hne : ((n : Int) == (n' : Int)) = false := by simp; omega
    have hne2 : ((n : Int) != (n' : Int)) = true := by simp; omega
    have HN := Lib.hid hnn
    clear hnn
    go_enter Try.func33, Try.ntmps33
    go_wp2
    go_ret
    exact ⟨ret_bool (by unfold sameSector; rw [decide_eq_false HN.out]; rfl), Below.refl _ _⟩
end Go.Proofs.Ytolijmldobncbaa
