/- Slices of Buoy: contracts of the laws' helpers. -/
import Derived.Test.YtimfpnmcdicldaaOwn
import Derived.Laws.StructEq
import Derived.Test.YtimfpnmcdicldaaStPoint
namespace Go.Proofs.Ytimfpnmcdicldaa
open Go Go.RowKit
def vBuoy (f0 : Nat → Int) (f1 : Nat → Int) (f2 : Nat → Int) (i j : Nat) : Value := if j = 0 then .int .i64 (f0 i) else if j = 1 then .int .i64 (f1 i) else .int .i64 (f2 i)
theorem rowsBuoy {w : World} {A : Option Addr} {n : Nat} (h : Rows0 [0, 0, 0] w A n) : ∃ (f0 : Nat → Int) (f1 : Nat → Int) (f2 : Nat → Int), Rec 3 w A n (vBuoy f0 f1 f2) ∧ ∀ i, i < n → (Lit.int .i64 (f0 i)).wf = true ∧ (Lit.int .i64 (f1 i)).wf = true ∧ (Lit.int .i64 (f2 i)).wf = true := by
  obtain ⟨f, hf, hl⟩ := h.rec
  refine ⟨fun i => intOf (f i 0), fun i => intOf (f i 1), fun i => intOf (f i 2), hf.congr fun i hi j hj => ?_, fun i hi => ?_⟩
  · have hj : j = 0 ∨ j = 1 ∨ j = 2 := by simp only [List.length_cons, List.length_nil] at hj; omega
    rcases hj with rfl | rfl | rfl
    · exact (hl i hi 0 _ rfl).int.1
    · exact (hl i hi 1 _ rfl).int.1
    · exact (hl i hi 2 _ rfl).int.1
  · exact ⟨(hl i hi 0 _ rfl).int.2, (hl i hi 1 _ rfl).int.2, (hl i hi 2 _ rfl).int.2⟩
set_option maxHeartbeats 1000000 in
theorem eqBuoy_same (x0 : Int) (x1 : Int) (x2 : Int) (w : World) :
    Calls Try.prog 66 #[.agg #[.int .i64 x0, .int .i64 x1, .int .i64 x2], .agg #[.int .i64 x0, .int .i64 x1, .int .i64 x2]] w fun e w' => e = .returned (.bool true) ∧ Below w.heap.size w w' := by
  go_enter Try.func66, Try.ntmps66
  go_wp2_with fail
  refine (eqPoint_same _ _ _).mono ?_
  rintro e w1 ⟨rfl, hb1⟩
  obtain ⟨hc, hf⟩ := bcell hb1
  have hz := hb1.size
  simp at hz
  clear hf
  go_wp2
  go_ret
  exact ⟨rfl, below_box (below_box hb1)⟩
set_option maxHeartbeats 2000000 in
theorem eqBuoyS_same (A B : Option Addr) (n ca cb : Nat) (f0 : Nat → Int) (f1 : Nat → Int) (f2 : Nat → Int) (w : World) (hn : n ≤ 1048576) (hA : Rec 3 w A n (vBuoy f0 f1 f2)) (hB : Rec 3 w B n (vBuoy f0 f1 f2)) :
    Calls Try.prog 29 #[.slice A n ca, .slice B n cb] w fun e w' => e = .returned (.bool true) ∧ Below w.heap.size w w' := by
  go_enter Try.func29, Try.ntmps29
  go_wp2
  go_loopw [5] (fun i wr => ∃ (k : Nat) (x : Aft w), k ≤ n ∧ i = .int .i64 k ∧ wr = x.w1) (fun i _ => n - (intOf i).toNat)
  case atStart => exact ⟨0, ⟨w, Below.refl _ _⟩, by omega, rfl, rfl⟩
  case round =>
    obtain ⟨k, x, hk, rfl, rfl⟩ := hrel
    by_cases hlt : k < n
    · obtain ⟨b, o, hi⟩ := hA
      obtain ⟨rfl, hc⟩ := hi k hlt
      obtain ⟨b2, o2, hi2⟩ := hB
      obtain ⟨rfl, hc2⟩ := hi2 k hlt
      have p0 : w.cell? ⟨b, o + k * 3, none⟩ = some (.int .i64 (f0 k)) := by simpa [vBuoy, Nat.add_assoc] using hc 0 (by omega)
      have q0 : w.cell? ⟨b2, o2 + k * 3, none⟩ = some (.int .i64 (f0 k)) := by simpa [vBuoy, Nat.add_assoc] using hc2 0 (by omega)
      have c0 : ∀ y : Aft w, y.w1.cell? ⟨b, o + k * 3, none⟩ = some (.int .i64 (f0 k)) := fun y => y.cell (cell_lt p0) p0
      have e0 : ∀ y : Aft w, y.w1.cell? ⟨b2, o2 + k * 3, none⟩ = some (.int .i64 (f0 k)) := fun y => y.cell (cell_lt q0) q0
      have p1 : w.cell? ⟨b, o + k * 3 + 1, none⟩ = some (.int .i64 (f1 k)) := by simpa [vBuoy, Nat.add_assoc] using hc 1 (by omega)
      have q1 : w.cell? ⟨b2, o2 + k * 3 + 1, none⟩ = some (.int .i64 (f1 k)) := by simpa [vBuoy, Nat.add_assoc] using hc2 1 (by omega)
      have c1 : ∀ y : Aft w, y.w1.cell? ⟨b, o + k * 3 + 1, none⟩ = some (.int .i64 (f1 k)) := fun y => y.cell (cell_lt p1) p1
      have e1 : ∀ y : Aft w, y.w1.cell? ⟨b2, o2 + k * 3 + 1, none⟩ = some (.int .i64 (f1 k)) := fun y => y.cell (cell_lt q1) q1
      have p2 : w.cell? ⟨b, o + k * 3 + 2, none⟩ = some (.int .i64 (f2 k)) := by simpa [vBuoy, Nat.add_assoc] using hc 2 (by omega)
      have q2 : w.cell? ⟨b2, o2 + k * 3 + 2, none⟩ = some (.int .i64 (f2 k)) := by simpa [vBuoy, Nat.add_assoc] using hc2 2 (by omega)
      have c2 : ∀ y : Aft w, y.w1.cell? ⟨b, o + k * 3 + 2, none⟩ = some (.int .i64 (f2 k)) := fun y => y.cell (cell_lt p2) p2
      have e2 : ∀ y : Aft w, y.w1.cell? ⟨b2, o2 + k * 3 + 2, none⟩ = some (.int .i64 (f2 k)) := fun y => y.cell (cell_lt q2) q2
      clear hc hi hc2 hi2 p0 q0 p1 q1 p2 q2
      go_wp2
      refine wp_region_aftx x (by kernel_rfl) (by kernel_rfl) ?_
      repeat (go_big_quiet_step ((go_at_call 66; exact Aft.call (eqBuoy_same _ _ _ _))))
      refine wpQuiet_nil ?_
      intro z
      go_wp2
      go_roundw
      case rel => exact ⟨k + 1, z, by omega, by go_num, rfl⟩
      case measure => simp [intOf]; omega
    · obtain rfl : k = n := by omega
      go_wp2
      go_ret
      exact ⟨rfl, x.below⟩
def mkBuoy (k : Int) (i j : Nat) : Value := .int .i64 (k + 3 * (i : Int) + j)
set_option maxHeartbeats 2000000 in
theorem markBuoyS_c (A : Option Addr) (n cap : Nat) (k : Int) (base : Nat) (f : Nat → Nat → Value) (w : World) (hn : n ≤ 1048576) (k0 : 0 ≤ k) (k1 : k ≤ 1000000000000) (h : SO w base 93 3 (.slice A n cap) n f) :
    Calls Try.prog 30 #[.slice A n cap, .int .i64 k] w fun e w' => e = .returned (.int .i64 (k + 3 * n)) ∧ w.grownBy w' (Value.slice A n cap).ownBlock ∧ SO w' base 93 3 (.slice A n cap) n (mkBuoy k) := by
  go_enter Try.func30, Try.ntmps30
  go_wp2
  go_loopw [1, 5] (fun c i wr => ∃ (q : Nat) (xs : List Value), q ≤ n ∧ i = .int .i64 q ∧ c = .int .i64 (k + 3 * q) ∧ wr.ownsRow base 93 3 (.slice A n cap) n xs ∧ Hid (∀ i, i < q → ∀ j, j < 3 → xs[i * 3 + j]? = some (mkBuoy k i j)) ∧ w.grownBy wr (Value.slice A n cap).ownBlock) (fun _ i _ => n - (intOf i).toNat)
  case atStart =>
    obtain ⟨xs, h1, h2⟩ := h
    exact ⟨0, xs, by omega, rfl, by simp, h1, Lib.hid (fun i hi => by omega), World.grownBy.refl w _⟩
  case round =>
    obtain ⟨q, xs, hq, rfl, rfl, hown, hxs, hgr⟩ := hrel
    by_cases hlt : q < n
    · obtain ⟨g, cap', hv⟩ : ∃ g cap', Value.slice A n cap = .slice (some ⟨g, 0, none⟩) n cap' := by
        rcases hown.2 with ⟨_, h0⟩ | ⟨g, cap', cur, h0, _⟩
        · omega
        · exact ⟨g, cap', h0⟩
      injection hv with hA _ hcap
      subst hA hcap
      have hlen : xs.length = n * 3 := hown.1
      obtain ⟨u0, d0⟩ : ∃ u, wr.cell? ⟨g, q * 3, none⟩ = some u := ⟨_, (hown.cellAt (q * 3) (by omega)).trans (List.getElem?_eq_getElem (by omega))⟩
      have g0 := hown.frozenAt (q * 3)
      obtain ⟨u1, d1⟩ : ∃ u, wr.cell? ⟨g, q * 3 + 1, none⟩ = some u := ⟨_, (hown.cellAt (q * 3 + 1) (by omega)).trans (List.getElem?_eq_getElem (by omega))⟩
      have g1 := hown.frozenAt (q * 3 + 1)
      obtain ⟨u2, d2⟩ : ∃ u, wr.cell? ⟨g, q * 3 + 2, none⟩ = some u := ⟨_, (hown.cellAt (q * 3 + 2) (by omega)).trans (List.getElem?_eq_getElem (by omega))⟩
      have g2 := hown.frozenAt (q * 3 + 2)
      have HW := Lib.hid hown
      have HL := Lib.hid hlen
      have HG := Lib.hid hgr
      clear hlen hown hgr h
      go_wp2
      go_roundw
      case rel =>
        have o0 := HW.out
        have r0 := HG.out
        obtain ⟨o1, t1⟩ := o0.stored (q * 3) (.int .i64 (k + 3 * (q : Int)))
        have r1 := grown_trans r0 t1
        obtain ⟨o2, t2⟩ := o1.stored (q * 3 + 1) (.int .i64 (k + 3 * (q : Int) + 1))
        have r2 := grown_trans r1 t2
        obtain ⟨o3, t3⟩ := o2.stored (q * 3 + 2) (.int .i64 (k + 3 * (q : Int) + 1 + 1))
        have r3 := grown_trans r2 t3
        refine ⟨q + 1, _, by omega, by go_num, by congr 1; omega, o3, Lib.hid (fun i hi j hj => ?_), r3⟩
        have hl := HL.out
        have e2 : j = 0 ∨ j = 1 ∨ j = 2 := by omega
        by_cases e : i = q
        · subst e
          rcases e2 with rfl | rfl | rfl
          · refine (set_other (set_other (set_here (by first | omega | (simp only [List.length_set]; omega))) (by omega)) (by omega) : _ = some (Value.int .i64 (k + 3 * (i : Int)))).trans ?_
            simp [mkBuoy]
          · refine (set_other (set_here (by first | omega | (simp only [List.length_set]; omega))) (by omega) : _ = some (Value.int .i64 (k + 3 * (i : Int) + 1))).trans ?_
            simp [mkBuoy]
          · refine (set_here (by first | omega | (simp only [List.length_set]; omega)) : _ = some (Value.int .i64 (k + 3 * (i : Int) + 1 + 1))).trans ?_
            simp only [mkBuoy]
            congr 2
            omega
        · exact set_other (set_other (set_other (hxs.out i (by omega) j hj) (by omega)) (by omega)) (by omega)
      case measure => simp [intOf]; omega
    · obtain rfl : q = n := by omega
      go_wp2
      go_ret
      exact ⟨rfl, hgr, xs, hown, hxs.out⟩
set_option maxHeartbeats 2000000 in
theorem heldBuoyS_c (A : Option Addr) (n cap : Nat) (k : Int) (w : World) (hn : n ≤ 1048576) (k0 : 0 ≤ k) (k1 : k ≤ 1000000000000) (h : Rec 3 w A n (mkBuoy k)) :
    Calls Try.prog 31 #[.slice A n cap, .int .i64 k] w fun e w' => e = .returned (.int .i64 (k + 3 * n)) ∧ w = w' := by
  go_enter Try.func31, Try.ntmps31
  go_wp2
  go_loop [1, 5] (fun c i => ∃ (q : Nat), q ≤ n ∧ i = .int .i64 q ∧ c = .int .i64 (k + 3 * q)) (fun _ i => n - (intOf i).toNat)
  case atStart => exact ⟨0, by omega, rfl, by simp⟩
  case round =>
    obtain ⟨q, hq, rfl, rfl⟩ := hrel
    by_cases hlt : q < n
    · obtain ⟨b, o, hi⟩ := h
      obtain ⟨rfl, hc⟩ := hi q hlt
      have c0 : w.cell? ⟨b, o + q * 3, none⟩ = some (.int .i64 (k + 3 * (q : Int))) := by simpa [mkBuoy, Nat.add_assoc] using hc 0 (by omega)
      have c1 : w.cell? ⟨b, o + q * 3 + 1, none⟩ = some (.int .i64 (k + 3 * (q : Int) + 1)) := by simpa [mkBuoy, Nat.add_assoc] using hc 1 (by omega)
      have c2 : w.cell? ⟨b, o + q * 3 + 2, none⟩ = some (.int .i64 (k + 3 * (q : Int) + 1 + 1)) := by rw [Nat.add_assoc]; refine (hc 2 (by omega)).trans ?_; simp only [mkBuoy]; congr 2; omega
      clear hc hi
      go_wp2
      go_round
      case rel => exact ⟨q + 1, by omega, by go_num, by congr 1; omega⟩
      case measure => simp [intOf]; omega
    · obtain rfl : q = n := by omega
      go_wp2
      go_ret
      exact ⟨rfl, rfl⟩
def dBuoy (x0 : Int) (x1 : Int) (x2 : Int) (y0 : Int) (y1 : Int) (y2 : Int) : Bool := (x0 == y0) && (x1 == y1) && (x2 == y2)
theorem dBuoy_self (x0 : Int) (x1 : Int) (x2 : Int) : dBuoy x0 x1 x2 x0 x1 x2 = true := by simp [dBuoy]
end Go.Proofs.Ytimfpnmcdicldaa
