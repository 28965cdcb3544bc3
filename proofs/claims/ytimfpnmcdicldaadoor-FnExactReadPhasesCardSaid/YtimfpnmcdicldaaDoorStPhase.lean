/- Slices of Phase: contracts of the laws' helpers. -/
import Derived.Test.YtimfpnmcdicldaaDoorOwn
import Derived.Laws.StructEq
namespace Go.Proofs.YtimfpnmcdicldaaDoor
open Go Go.RowKit
def vPhase (f0 : Nat → ByteArray) (f1 : Nat → Int) (i j : Nat) : Value := if j = 0 then .string (f0 i) else .int .i64 (f1 i)
theorem rowsPhase {w : World} {A : Option Addr} {n : Nat} (h : Rows0 [1, 0] w A n) : ∃ (f0 : Nat → ByteArray) (f1 : Nat → Int), Rec 2 w A n (vPhase f0 f1) ∧ ∀ i, i < n → (f0 i).size ≤ maxLen ∧ (Lit.int .i64 (f1 i)).wf = true := by
  obtain ⟨f, hf, hl⟩ := h.rec
  refine ⟨fun i => strOf (f i 0), fun i => intOf (f i 1), hf.congr fun i hi j hj => ?_, fun i hi => ?_⟩
  · have hj : j = 0 ∨ j = 1 := by simp only [List.length_cons, List.length_nil] at hj; omega
    rcases hj with rfl | rfl
    · exact (hl i hi 0 _ rfl).str.1
    · exact (hl i hi 1 _ rfl).int.1
  · exact ⟨(hl i hi 0 _ rfl).str.2, (hl i hi 1 _ rfl).int.2⟩
set_option maxHeartbeats 1000000 in
theorem toPhase_c (x0 : ByteArray) (x1 : Int) (w : World) :
    Calls Tryd.prog 44 #[.agg #[.string x0, .int .i64 x1]] w fun e w' => e = .returned (.agg #[.string x0, .int .i64 x1]) ∧ Below w.heap.size w w' := by
  go_enter Tryd.func44, Tryd.ntmps44
  go_wp2
  refine bodyPost_ret (v := .agg #[.string x0, .int .i64 x1]) (by simp [results, Tryd.results44, go_sem]) rfl ⟨rfl, (by repeat (first | exact Below.refl _ _ | refine Below.alloc ?_ (by simp; try omega) _ | refine Below.drew ?_))⟩
theorem infoPhase : (Tryd.prog.info? 72).map (fun i => (i.zero, i.size, i.bytes)) = some (some (.agg #[.string ByteArray.empty, .int .i64 0]), 2, 24) := by kernel_rfl
set_option maxHeartbeats 1000000 in
theorem toPhaseS_c (A : Option Addr) (n cap : Nat) (f0 : Nat → ByteArray) (f1 : Nat → Int) (w : World) (hn : n ≤ 1048576) (h : Rec 2 w A n (vPhase f0 f1)) :
    Calls Tryd.prog 18 #[.slice A n cap] w fun e w' => ∃ g, e = .returned (.slice (some ⟨g, 0, none⟩) n n) ∧ Filling 72 2 w w' g n n (vPhase f0 f1) := by
  obtain ⟨i0, hi0, hz0, hz1, hz2⟩ := info_parts infoPhase
  go_enter Tryd.func18, Tryd.ntmps18
  go_wp2_with (at_make; refine wpList_make_full _ rfl _ _ 42 rfl w.heap.size 72 i0 _ 2 Tryd.underlying42 hi0 hz0 hz1 _ _ _ _ n rfl rfl rfl rfl (by rw [hz2]; omega) (by unfold maxLen; omega) (by simp) ?_)
  intro w1 hown hgrow
  have hb1 : Below w.heap.size w w1 := (Below.refl _ _).grown hgrow (Nat.le_refl _) (by simp)
  go_wp2
  go_loopw [4] (fun i wr => ∃ k : Nat, k ≤ n ∧ i = .int .i64 k ∧ Filling 72 2 w wr w.heap.size n k (vPhase f0 f1)) (fun i _ => n - (intOf i).toNat)
  case atStart => exact ⟨0, by omega, rfl, _, hown, fun i hi => by omega, hb1⟩
  case round =>
    obtain ⟨k, hk, rfl, xs, hown2, hxs, hbw⟩ := hrel
    by_cases hlt : k < n
    · obtain ⟨b, o, hi⟩ := h.below hbw
      obtain ⟨rfl, hc⟩ := hi k hlt
      have c0 : wr.cell? ⟨b, o + k * 2, none⟩ = some (.string (f0 k)) := by simpa [vPhase, Nat.add_assoc] using hc 0 (by omega)
      have c1 : wr.cell? ⟨b, o + k * 2 + 1, none⟩ = some (.int .i64 (f1 k)) := by simpa [vPhase, Nat.add_assoc] using hc 1 (by omega)
      have HW := Lib.hid hown2
      have HX := Lib.hid hxs
      clear hc hi hown hown2 hgrow hxs
      go_wp2_with fail
      refine (toPhase_c _ _ _).mono ?_
      rintro e w2 ⟨rfl, hb2⟩
      have hown3 := own_below HW.out hb2
      have hlen : xs.length = n * 2 := hown3.1
      obtain ⟨u0, d0⟩ : ∃ u, w2.cell? ⟨w.heap.size, k * 2, none⟩ = some u := ⟨_, (hown3.cellAt (k * 2) (by omega)).trans (List.getElem?_eq_getElem (by omega))⟩
      have g0 := hown3.frozenAt (k * 2)
      obtain ⟨u1, d1⟩ : ∃ u, w2.cell? ⟨w.heap.size, k * 2 + 1, none⟩ = some u := ⟨_, (hown3.cellAt (k * 2 + 1) (by omega)).trans (List.getElem?_eq_getElem (by omega))⟩
      have g1 := hown3.frozenAt (k * 2 + 1)
      have HW3 := Lib.hid hown3
      have HL := Lib.hid hlen
      clear hlen hown3
      go_wp2
      go_roundw
      case rel =>
        have b0 := held_next hbw hb2
        have o0 := HW3.out
        obtain ⟨o1, b1⟩ := own_put o0 b0 (Nat.le_refl _) (k * 2) (.string (f0 k))
        obtain ⟨o2, b2⟩ := own_put o1 b1 (Nat.le_refl _) (k * 2 + 1) (.int .i64 (f1 k))
        refine ⟨k + 1, by omega, by go_num, _, o2, fun i hi j hj => ?_, b2⟩
        have hl := HL.out
        have e2 : j = 0 ∨ j = 1 := by omega
        by_cases e : i = k
        · subst e
          rcases e2 with rfl | rfl
          · exact set_other (set_here (by first | omega | (simp only [List.length_set]; omega))) (by omega)
          · exact set_here (by first | omega | (simp only [List.length_set]; omega))
        · exact set_other (set_other (HX.out i (by omega) j hj) (by omega)) (by omega)
      case measure => simp [intOf]; omega
    · obtain rfl : k = n := by omega
      go_wp2
      go_ret
      exact ⟨_, rfl, xs, hown2, hxs, hbw⟩
set_option maxHeartbeats 1000000 in
theorem szPhase_c (x0 : ByteArray) (x1 : Int) (left : Int) (h0 : x0.size ≤ maxLen) (l0 : 0 ≤ left) (l1 : left ≤ 1048576) (w : World) :
    Calls Tryd.prog 41 #[.agg #[.string x0, .int .i64 x1], .int .i64 left] w (SzPost 0 left w) := by
  unfold maxLen at h0
  go_enter Tryd.func41, Tryd.ntmps41
  go_wp2
  all_goals
    go_ret
    first
      | exact ⟨.inl rfl, (by repeat (first | exact Below.refl _ _ | refine Below.alloc ?_ (by simp; try omega) _ | refine Below.drew ?_))⟩
      | exact ⟨.inr ⟨_, by omega, by omega, rfl⟩, (by repeat (first | exact Below.refl _ _ | refine Below.alloc ?_ (by simp; try omega) _ | refine Below.drew ?_))⟩
set_option maxHeartbeats 1000000 in
theorem szPhaseS_c (A : Option Addr) (n cap : Nat) (f0 : Nat → ByteArray) (f1 : Nat → Int) (left : Int) (hn : n ≤ maxLen) (s0 : ∀ i, i < n → (f0 i).size ≤ maxLen) (l0 : 0 ≤ left) (l1 : left ≤ 1048576) (w : World) (h : Rec 2 w A n (vPhase f0 f1)) :
    Calls Tryd.prog 16 #[.slice A n cap, .int .i64 left] w (SzPost n left w) := by
  unfold maxLen at hn
  by_cases hl : (n : Int) ≤ left
  · go_enter Tryd.func16, Tryd.ntmps16
    go_wp2
    go_loopw [1, 5] (fun l i wr => ∃ (k : Nat) (r : Int) (x : Aft w), k ≤ n ∧ i = .int .i64 k ∧ wr = x.w1 ∧ l = .int .i64 r ∧ 0 ≤ r ∧ r + n ≤ left) (fun _ i _ => n - (intOf i).toNat)
    case atStart => exact ⟨0, left - n, ⟨w, Below.refl _ _⟩, by omega, rfl, rfl, rfl, by omega, by omega⟩
    case round =>
      obtain ⟨k, r, x, hk, rfl, rfl, rfl, r0, r1⟩ := hrel
      by_cases hlt : k < n
      · obtain ⟨b, o, hi⟩ := h.aft x
        obtain ⟨rfl, hc⟩ := hi k hlt
        have c0 : x.w1.cell? ⟨b, o + k * 2, none⟩ = some (.string (f0 k)) := by simpa [vPhase, Nat.add_assoc] using hc 0 (by omega)
        have c1 : x.w1.cell? ⟨b, o + k * 2 + 1, none⟩ = some (.int .i64 (f1 k)) := by simpa [vPhase, Nat.add_assoc] using hc 1 (by omega)
        have HS := Lib.hid (fun W => szPhase_c (f0 k) (f1 k) r (s0 k hlt) r0 (by omega) W)
        clear hc hi
        go_wp2_with fail
        refine (HS.out _).mono ?_
        rintro e w2 ⟨rfl | ⟨r2, q0, q1, rfl⟩, hb2⟩
        · go_wp2
          go_ret
          exact ⟨.inl rfl, held_next x.below hb2⟩
        · go_wp2
          go_roundw
          case rel => exact ⟨k + 1, r2, ⟨w2, held_next x.below hb2⟩, by omega, by go_num, rfl, rfl, q0, by omega⟩
          case measure => simp [intOf]; omega
      · obtain rfl : k = n := by omega
        go_wp2
        go_ret
        exact ⟨.inr ⟨r, r0, r1, rfl⟩, x.below⟩
  · go_enter Tryd.func16, Tryd.ntmps16
    go_wp2
    go_ret
    exact ⟨.inl rfl, Below.refl _ _⟩
set_option maxHeartbeats 1000000 in
theorem eqPhase_same (x0 : ByteArray) (x1 : Int) (w : World) :
    Calls Tryd.prog 47 #[.agg #[.string x0, .int .i64 x1], .agg #[.string x0, .int .i64 x1]] w fun e w' => e = .returned (.bool true) ∧ Below w.heap.size w w' := by
  go_enter Tryd.func47, Tryd.ntmps47
  go_wp2
  go_ret
  exact ⟨rfl, (by repeat (first | exact Below.refl _ _ | refine Below.alloc ?_ (by simp; try omega) _ | refine Below.drew ?_))⟩
set_option maxHeartbeats 2000000 in
theorem eqPhaseS_same (A B : Option Addr) (n ca cb : Nat) (f0 : Nat → ByteArray) (f1 : Nat → Int) (w : World) (hn : n ≤ 1048576) (hA : Rec 2 w A n (vPhase f0 f1)) (hB : Rec 2 w B n (vPhase f0 f1)) :
    Calls Tryd.prog 20 #[.slice A n ca, .slice B n cb] w fun e w' => e = .returned (.bool true) ∧ Below w.heap.size w w' := by
  go_enter Tryd.func20, Tryd.ntmps20
  go_wp2
  go_loopw [5] (fun i wr => ∃ (k : Nat) (x : Aft w), k ≤ n ∧ i = .int .i64 k ∧ wr = x.w1) (fun i _ => n - (intOf i).toNat)
  case atStart => exact ⟨0, ⟨w, Below.refl _ _⟩, by omega, rfl, rfl⟩
  case round =>
    obtain ⟨k, x, hk, rfl, rfl⟩ := hrel
    by_cases hlt : k < n
    · obtain ⟨b, o, hi⟩ := hA
      obtain ⟨rfl, hc⟩ := hi k hlt
      obtain ⟨b2, o2, hi2⟩ := hB
      obtain ⟨rfl, hc2⟩ := hi2 k hlt
      have p0 : w.cell? ⟨b, o + k * 2, none⟩ = some (.string (f0 k)) := by simpa [vPhase, Nat.add_assoc] using hc 0 (by omega)
      have q0 : w.cell? ⟨b2, o2 + k * 2, none⟩ = some (.string (f0 k)) := by simpa [vPhase, Nat.add_assoc] using hc2 0 (by omega)
      have c0 : ∀ y : Aft w, y.w1.cell? ⟨b, o + k * 2, none⟩ = some (.string (f0 k)) := fun y => y.cell (cell_lt p0) p0
      have e0 : ∀ y : Aft w, y.w1.cell? ⟨b2, o2 + k * 2, none⟩ = some (.string (f0 k)) := fun y => y.cell (cell_lt q0) q0
      have p1 : w.cell? ⟨b, o + k * 2 + 1, none⟩ = some (.int .i64 (f1 k)) := by simpa [vPhase, Nat.add_assoc] using hc 1 (by omega)
      have q1 : w.cell? ⟨b2, o2 + k * 2 + 1, none⟩ = some (.int .i64 (f1 k)) := by simpa [vPhase, Nat.add_assoc] using hc2 1 (by omega)
      have c1 : ∀ y : Aft w, y.w1.cell? ⟨b, o + k * 2 + 1, none⟩ = some (.int .i64 (f1 k)) := fun y => y.cell (cell_lt p1) p1
      have e1 : ∀ y : Aft w, y.w1.cell? ⟨b2, o2 + k * 2 + 1, none⟩ = some (.int .i64 (f1 k)) := fun y => y.cell (cell_lt q1) q1
      clear hc hi hc2 hi2 p0 q0 p1 q1
      go_wp2
      refine wp_region_aftx x (by kernel_rfl) (by kernel_rfl) ?_
      repeat (go_big_quiet_step ((go_at_call 47; exact Aft.call (eqPhase_same _ _ _))))
      refine wpQuiet_nil ?_
      intro z
      go_wp2
      go_roundw
      case rel => exact ⟨k + 1, z, by omega, by go_num, rfl⟩
      case measure => simp [intOf]; omega
    · obtain rfl : k = n := by omega
      go_wp2
      go_ret
      exact ⟨rfl, x.below⟩
def dPhase (x0 : ByteArray) (x1 : Int) (y0 : ByteArray) (y1 : Int) : Bool := (x0.toList == y0.toList) && (x1 == y1)
theorem dPhase_self (x0 : ByteArray) (x1 : Int) : dPhase x0 x1 x0 x1 = true := by simp [dPhase]
theorem neqPhase_run (x0 : ByteArray) (x1 : Int) (y0 : ByteArray) (y1 : Int) (W : World) :
    (binOp .neq 72 (.agg #[.string x0, .int .i64 x1]) (.agg #[.string y0, .int .i64 y1])).run Tryd.prog W = .ok (.bool (!dPhase x0 x1 y0 y1)) W := by
  rw [run_neq_struct]
  have hp : Tryd.prog.stoodInHeld 72 = false := by kernel_rfl
  have hf : Tryd.prog.underlying 72 = some (.struct (Tryd.prog.fieldsOf 72)) := by unfold Program.fieldsOf; rw [Tryd.underlying72]
  rw [run_equalIn_struct W 9999 72 _ _ hf hp]
  unfold Program.fieldsOf
  rw [Tryd.underlying72]
  simp [go_sem, Op.eqFields, dPhase]
  by_cases h0 : x0.toList = y0.toList <;> by_cases h1 : x1 = y1 <;> simp [h0, h1]
theorem eqlPhase_run (x0 : ByteArray) (x1 : Int) (y0 : ByteArray) (y1 : Int) (W : World) :
    (binOp .eql 72 (.agg #[.string x0, .int .i64 x1]) (.agg #[.string y0, .int .i64 y1])).run Tryd.prog W = .ok (.bool (dPhase x0 x1 y0 y1)) W := by
  rw [run_eql_struct]
  have hp : Tryd.prog.stoodInHeld 72 = false := by kernel_rfl
  have hf : Tryd.prog.underlying 72 = some (.struct (Tryd.prog.fieldsOf 72)) := by unfold Program.fieldsOf; rw [Tryd.underlying72]
  rw [run_equalIn_struct W 9999 72 _ _ hf hp]
  unfold Program.fieldsOf
  rw [Tryd.underlying72]
  simp [go_sem, Op.eqFields, dPhase]
  by_cases h0 : x0.toList = y0.toList <;> by_cases h1 : x1 = y1 <;> simp [h0, h1]
def samePhase (n n' : Nat) (f0 : Nat → ByteArray) (f1 : Nat → Int) (f0' : Nat → ByteArray) (f1' : Nat → Int) : Bool := decide (n = n') && allB n (fun i => dPhase (f0 i) (f1 i) (f0' i) (f1' i))
end Go.Proofs.YtimfpnmcdicldaaDoor
