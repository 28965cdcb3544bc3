/- Slices of Point: contracts of the laws' helpers. -/
import Derived.Test.YtimfpnmcdicldaaDoorOwn
import Derived.Laws.StructEq
namespace Go.Proofs.YtimfpnmcdicldaaDoor
open Go Go.RowKit
def vPoint (f0 : Nat → Int) (f1 : Nat → Int) (i j : Nat) : Value := if j = 0 then .int .i64 (f0 i) else .int .i64 (f1 i)
theorem rowsPoint {w : World} {A : Option Addr} {n : Nat} (h : Rows0 [0, 0] w A n) : ∃ (f0 : Nat → Int) (f1 : Nat → Int), Rec 2 w A n (vPoint f0 f1) ∧ ∀ i, i < n → (Lit.int .i64 (f0 i)).wf = true ∧ (Lit.int .i64 (f1 i)).wf = true := by
  obtain ⟨f, hf, hl⟩ := h.rec
  refine ⟨fun i => intOf (f i 0), fun i => intOf (f i 1), hf.congr fun i hi j hj => ?_, fun i hi => ?_⟩
  · have hj : j = 0 ∨ j = 1 := by simp only [List.length_cons, List.length_nil] at hj; omega
    rcases hj with rfl | rfl
    · exact (hl i hi 0 _ rfl).int.1
    · exact (hl i hi 1 _ rfl).int.1
  · exact ⟨(hl i hi 0 _ rfl).int.2, (hl i hi 1 _ rfl).int.2⟩
set_option maxHeartbeats 1000000 in
theorem toPoint_c (x0 : Int) (x1 : Int) (w : World) :
    Calls Tryd.prog 67 #[.agg #[.int .i64 x0, .int .i64 x1]] w fun e w' => e = .returned (.agg #[.int .i64 x0, .int .i64 x1]) ∧ Below w.heap.size w w' := by
  go_enter Tryd.func67, Tryd.ntmps67
  go_wp2
  refine bodyPost_ret (v := .agg #[.int .i64 x0, .int .i64 x1]) (by simp [results, Tryd.results67, go_sem]) rfl ⟨rfl, (by repeat (first | exact Below.refl _ _ | refine Below.alloc ?_ (by simp; try omega) _ | refine Below.drew ?_))⟩
theorem infoPoint : (Tryd.prog.info? 61).map (fun i => (i.zero, i.size, i.bytes)) = some (some (.agg #[.int .i64 0, .int .i64 0]), 2, 16) := by kernel_rfl
set_option maxHeartbeats 1000000 in
theorem toPointS_c (A : Option Addr) (n cap : Nat) (f0 : Nat → Int) (f1 : Nat → Int) (w : World) (hn : n ≤ 1048576) (h : Rec 2 w A n (vPoint f0 f1)) :
    Calls Tryd.prog 31 #[.slice A n cap] w fun e w' => ∃ g, e = .returned (.slice (some ⟨g, 0, none⟩) n n) ∧ Filling 61 2 w w' g n n (vPoint f0 f1) := by
  obtain ⟨i0, hi0, hz0, hz1, hz2⟩ := info_parts infoPoint
  go_enter Tryd.func31, Tryd.ntmps31
  go_wp2_with (at_make; refine wpList_make_full _ rfl _ _ 27 rfl w.heap.size 61 i0 _ 2 Tryd.underlying27 hi0 hz0 hz1 _ _ _ _ n rfl rfl rfl rfl (by rw [hz2]; omega) (by unfold maxLen; omega) (by simp) ?_)
  intro w1 hown hgrow
  have hb1 : Below w.heap.size w w1 := (Below.refl _ _).grown hgrow (Nat.le_refl _) (by simp)
  go_wp2
  go_loopw [4] (fun i wr => ∃ k : Nat, k ≤ n ∧ i = .int .i64 k ∧ Filling 61 2 w wr w.heap.size n k (vPoint f0 f1)) (fun i _ => n - (intOf i).toNat)
  case atStart => exact ⟨0, by omega, rfl, _, hown, fun i hi => by omega, hb1⟩
  case round =>
    obtain ⟨k, hk, rfl, xs, hown2, hxs, hbw⟩ := hrel
    by_cases hlt : k < n
    · obtain ⟨b, o, hi⟩ := h.below hbw
      obtain ⟨rfl, hc⟩ := hi k hlt
      have c0 : wr.cell? ⟨b, o + k * 2, none⟩ = some (.int .i64 (f0 k)) := by simpa [vPoint, Nat.add_assoc] using hc 0 (by omega)
      have c1 : wr.cell? ⟨b, o + k * 2 + 1, none⟩ = some (.int .i64 (f1 k)) := by simpa [vPoint, Nat.add_assoc] using hc 1 (by omega)
      have HW := Lib.hid hown2
      have HX := Lib.hid hxs
      clear hc hi hown hown2 hgrow hxs
      go_wp2_with fail
      refine (toPoint_c _ _ _).mono ?_
      rintro e w2 ⟨rfl, hb2⟩
      have hown3 := own_below HW.out hb2
      have hlen : xs.length = n * 2 := hown3.1
      obtain ⟨u0, d0⟩ : ∃ u, w2.cell? ⟨w.heap.size, k * 2, none⟩ = some u := ⟨_, (hown3.cellAt (k * 2) (by omega)).trans (List.getElem?_eq_getElem (by omega))⟩
      have g0 := hown3.frozenAt (k * 2)
      obtain ⟨u1, d1⟩ : ∃ u, w2.cell? ⟨w.heap.size, k * 2 + 1, none⟩ = some u := ⟨_, (hown3.cellAt (k * 2 + 1) (by omega)).trans (List.getElem?_eq_getElem (by omega))⟩
      have g1 := hown3.frozenAt (k * 2 + 1)
      have HW3 := Lib.hid hown3
      have HL := Lib.hid hlen
      clear hlen hown3
      go_wp2
      go_roundw
      case rel =>
        have b0 := held_next hbw hb2
        have o0 := HW3.out
        obtain ⟨o1, b1⟩ := own_put o0 b0 (Nat.le_refl _) (k * 2) (.int .i64 (f0 k))
        obtain ⟨o2, b2⟩ := own_put o1 b1 (Nat.le_refl _) (k * 2 + 1) (.int .i64 (f1 k))
        refine ⟨k + 1, by omega, by go_num, _, o2, fun i hi j hj => ?_, b2⟩
        have hl := HL.out
        have e2 : j = 0 ∨ j = 1 := by omega
        by_cases e : i = k
        · subst e
          rcases e2 with rfl | rfl
          · exact set_other (set_here (by first | omega | (simp only [List.length_set]; omega))) (by omega)
          · exact set_here (by first | omega | (simp only [List.length_set]; omega))
        · exact set_other (set_other (HX.out i (by omega) j hj) (by omega)) (by omega)
      case measure => simp [intOf]; omega
    · obtain rfl : k = n := by omega
      go_wp2
      go_ret
      exact ⟨_, rfl, xs, hown2, hxs, hbw⟩
set_option maxHeartbeats 1000000 in
theorem szPointS_c (A : Option Addr) (n cap : Nat) (left : Int) (hn : n ≤ maxLen) (l0 : 0 ≤ left) (l1 : left ≤ 1048576) (w : World) :
    Calls Tryd.prog 28 #[.slice A n cap, .int .i64 left] w (SzPost n left w) := by
  unfold maxLen at hn
  go_enter Tryd.func28, Tryd.ntmps28
  go_wp2
  all_goals
    go_ret
    first
      | exact ⟨.inl rfl, Below.refl _ _⟩
      | exact ⟨.inr ⟨_, by omega, by omega, rfl⟩, Below.refl _ _⟩
set_option maxHeartbeats 1000000 in
theorem eqPoint_same (x0 : Int) (x1 : Int) (w : World) :
    Calls Tryd.prog 72 #[.agg #[.int .i64 x0, .int .i64 x1], .agg #[.int .i64 x0, .int .i64 x1]] w fun e w' => e = .returned (.bool true) ∧ Below w.heap.size w w' := by
  go_enter Tryd.func72, Tryd.ntmps72
  go_wp2
  go_ret
  exact ⟨rfl, (by repeat (first | exact Below.refl _ _ | refine Below.alloc ?_ (by simp; try omega) _ | refine Below.drew ?_))⟩
set_option maxHeartbeats 2000000 in
theorem eqPointS_same (A B : Option Addr) (n ca cb : Nat) (f0 : Nat → Int) (f1 : Nat → Int) (w : World) (hn : n ≤ 1048576) (hA : Rec 2 w A n (vPoint f0 f1)) (hB : Rec 2 w B n (vPoint f0 f1)) :
    Calls Tryd.prog 35 #[.slice A n ca, .slice B n cb] w fun e w' => e = .returned (.bool true) ∧ Below w.heap.size w w' := by
  go_enter Tryd.func35, Tryd.ntmps35
  go_wp2
  go_loopw [5] (fun i wr => ∃ (k : Nat) (x : Aft w), k ≤ n ∧ i = .int .i64 k ∧ wr = x.w1) (fun i _ => n - (intOf i).toNat)
  case atStart => exact ⟨0, ⟨w, Below.refl _ _⟩, by omega, rfl, rfl⟩
  case round =>
    obtain ⟨k, x, hk, rfl, rfl⟩ := hrel
    by_cases hlt : k < n
    · obtain ⟨b, o, hi⟩ := hA
      obtain ⟨rfl, hc⟩ := hi k hlt
      obtain ⟨b2, o2, hi2⟩ := hB
      obtain ⟨rfl, hc2⟩ := hi2 k hlt
      have p0 : w.cell? ⟨b, o + k * 2, none⟩ = some (.int .i64 (f0 k)) := by simpa [vPoint, Nat.add_assoc] using hc 0 (by omega)
      have q0 : w.cell? ⟨b2, o2 + k * 2, none⟩ = some (.int .i64 (f0 k)) := by simpa [vPoint, Nat.add_assoc] using hc2 0 (by omega)
      have c0 : ∀ y : Aft w, y.w1.cell? ⟨b, o + k * 2, none⟩ = some (.int .i64 (f0 k)) := fun y => y.cell (cell_lt p0) p0
      have e0 : ∀ y : Aft w, y.w1.cell? ⟨b2, o2 + k * 2, none⟩ = some (.int .i64 (f0 k)) := fun y => y.cell (cell_lt q0) q0
      have p1 : w.cell? ⟨b, o + k * 2 + 1, none⟩ = some (.int .i64 (f1 k)) := by simpa [vPoint, Nat.add_assoc] using hc 1 (by omega)
      have q1 : w.cell? ⟨b2, o2 + k * 2 + 1, none⟩ = some (.int .i64 (f1 k)) := by simpa [vPoint, Nat.add_assoc] using hc2 1 (by omega)
      have c1 : ∀ y : Aft w, y.w1.cell? ⟨b, o + k * 2 + 1, none⟩ = some (.int .i64 (f1 k)) := fun y => y.cell (cell_lt p1) p1
      have e1 : ∀ y : Aft w, y.w1.cell? ⟨b2, o2 + k * 2 + 1, none⟩ = some (.int .i64 (f1 k)) := fun y => y.cell (cell_lt q1) q1
      clear hc hi hc2 hi2 p0 q0 p1 q1
      go_wp2
      refine wp_region_aftx x (by kernel_rfl) (by kernel_rfl) ?_
      repeat (go_big_quiet_step ((go_at_call 72; exact Aft.call (eqPoint_same _ _ _))))
      refine wpQuiet_nil ?_
      intro z
      go_wp2
      go_roundw
      case rel => exact ⟨k + 1, z, by omega, by go_num, rfl⟩
      case measure => simp [intOf]; omega
    · obtain rfl : k = n := by omega
      go_wp2
      go_ret
      exact ⟨rfl, x.below⟩
def dPoint (x0 : Int) (x1 : Int) (y0 : Int) (y1 : Int) : Bool := (x0 == y0) && (x1 == y1)
theorem dPoint_self (x0 : Int) (x1 : Int) : dPoint x0 x1 x0 x1 = true := by simp [dPoint]
theorem neqPoint_run (x0 : Int) (x1 : Int) (y0 : Int) (y1 : Int) (W : World) :
    (binOp .neq 61 (.agg #[.int .i64 x0, .int .i64 x1]) (.agg #[.int .i64 y0, .int .i64 y1])).run Tryd.prog W = .ok (.bool (!dPoint x0 x1 y0 y1)) W := by
  rw [run_neq_struct]
  have hp : Tryd.prog.stoodInHeld 61 = false := by kernel_rfl
  have hf : Tryd.prog.underlying 61 = some (.struct (Tryd.prog.fieldsOf 61)) := by unfold Program.fieldsOf; rw [Tryd.underlying61]
  rw [run_equalIn_struct W 9999 61 _ _ hf hp]
  unfold Program.fieldsOf
  rw [Tryd.underlying61]
  simp [go_sem, Op.eqFields, dPoint]
  by_cases h0 : x0 = y0 <;> by_cases h1 : x1 = y1 <;> simp [h0, h1]
theorem eqlPoint_run (x0 : Int) (x1 : Int) (y0 : Int) (y1 : Int) (W : World) :
    (binOp .eql 61 (.agg #[.int .i64 x0, .int .i64 x1]) (.agg #[.int .i64 y0, .int .i64 y1])).run Tryd.prog W = .ok (.bool (dPoint x0 x1 y0 y1)) W := by
  rw [run_eql_struct]
  have hp : Tryd.prog.stoodInHeld 61 = false := by kernel_rfl
  have hf : Tryd.prog.underlying 61 = some (.struct (Tryd.prog.fieldsOf 61)) := by unfold Program.fieldsOf; rw [Tryd.underlying61]
  rw [run_equalIn_struct W 9999 61 _ _ hf hp]
  unfold Program.fieldsOf
  rw [Tryd.underlying61]
  simp [go_sem, Op.eqFields, dPoint]
  by_cases h0 : x0 = y0 <;> by_cases h1 : x1 = y1 <;> simp [h0, h1]
def samePoint (n n' : Nat) (f0 : Nat → Int) (f1 : Nat → Int) (f0' : Nat → Int) (f1' : Nat → Int) : Bool := decide (n = n') && allB n (fun i => dPoint (f0 i) (f1 i) (f0' i) (f1' i))
end Go.Proofs.YtimfpnmcdicldaaDoor
