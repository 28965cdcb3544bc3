/- Lists of pairs of numbers ([][]int64): blasts of a fog signal, on both sides; the laws' helpers. -/
import Derived.Test.YtolijmldobncbaaDoorOwn
import Derived.Test.YtolijmldobncbaaDoorFog
namespace Go.Proofs.YtolijmldobncbaaDoor
open Go Go.RowKit
/-- A row of numbers by index. -/
def nuF (X : Nat → Int) (i _j : Nat) : Value := .int .i64 (X i)
set_option maxHeartbeats 2000000 in
theorem eqInt64S_same (A B : Option Addr) (n ca cb : Nat) (X : Nat → Int) (w : World) (hn : n ≤ 1048576) (hA : Rec 1 w A n (nuF X)) (hB : Rec 1 w B n (nuF X)) :
    Calls Tryd.prog 21 #[.slice A n ca, .slice B n cb] w fun e w' => e = .returned (.bool true) ∧ Below w.heap.size w w' := by
  go_enter Tryd.func21, Tryd.ntmps21
  go_wp2
  go_loopw [5] (fun i wr => ∃ (k : Nat) (x : Aft w), k ≤ n ∧ i = .int .i64 k ∧ wr = x.w1) (fun i _ => n - (intOf i).toNat)
  case atStart => exact ⟨0, ⟨w, Below.refl _ _⟩, by omega, rfl, rfl⟩
  case round =>
    obtain ⟨k, x, hk, rfl, rfl⟩ := hrel
    by_cases hlt : k < n
    · obtain ⟨b, o, hi⟩ := hA
      obtain ⟨rfl, hc⟩ := hi k hlt
      obtain ⟨b2, o2, hi2⟩ := hB
      obtain ⟨rfl, hc2⟩ := hi2 k hlt
      have p0 : w.cell? ⟨b, o + k, none⟩ = some (.int .i64 (X k)) := by simpa [nuF] using hc 0 (by omega)
      have q0 : w.cell? ⟨b2, o2 + k, none⟩ = some (.int .i64 (X k)) := by simpa [nuF] using hc2 0 (by omega)
      have c0 : ∀ y : Aft w, y.w1.cell? ⟨b, o + k, none⟩ = some (.int .i64 (X k)) := fun y => y.cell (cell_lt p0) p0
      have e0 : ∀ y : Aft w, y.w1.cell? ⟨b2, o2 + k, none⟩ = some (.int .i64 (X k)) := fun y => y.cell (cell_lt q0) q0
      clear hc hi hc2 hi2 p0 q0
      go_wp2
      refine wp_region_aftx x (by kernel_rfl) (by kernel_rfl) ?_
      repeat (go_big_quiet_step (fail))
      refine wpQuiet_nil ?_
      intro z
      go_wp2
      go_roundw
      case rel => exact ⟨k + 1, z, by omega, by go_num, rfl⟩
      case measure => simp [intOf]; omega
    · obtain rfl : k = n := by omega
      go_wp2
      go_ret
      exact ⟨rfl, x.below⟩
set_option maxHeartbeats 2000000 in
theorem markInt64S_c (A : Option Addr) (n cap : Nat) (k : Int) (base : Nat) (f : Nat → Nat → Value) (w : World) (hn : n ≤ 1048576) (k0 : 0 ≤ k) (k1 : k ≤ 1000000000000) (h : SO w base 2 1 (.slice A n cap) n f) :
    Calls Tryd.prog 22 #[.slice A n cap, .int .i64 k] w fun e w' => e = .returned (.int .i64 (k + n)) ∧ w.grownBy w' (Value.slice A n cap).ownBlock ∧ SO w' base 2 1 (.slice A n cap) n (nuF (fun i => k + i)) := by
  go_enter Tryd.func22, Tryd.ntmps22
  go_wp2
  go_loopw [1, 5] (fun c i wr => ∃ (q : Nat) (xs : List Value), q ≤ n ∧ i = .int .i64 q ∧ c = .int .i64 (k + q) ∧ wr.ownsRow base 2 1 (.slice A n cap) n xs ∧ Hid (∀ i, i < q → ∀ j, j < 1 → xs[i * 1 + j]? = some (nuF (fun i => k + i) i j)) ∧ w.grownBy wr (Value.slice A n cap).ownBlock) (fun _ i _ => n - (intOf i).toNat)
  case atStart =>
    obtain ⟨xs, h1, h2⟩ := h
    exact ⟨0, xs, by omega, rfl, by simp, h1, Lib.hid (fun i hi => by omega), World.grownBy.refl w _⟩
  case round =>
    obtain ⟨q, xs, hq, rfl, rfl, hown, hxs, hgr⟩ := hrel
    by_cases hlt : q < n
    · obtain ⟨g, cap', hv⟩ : ∃ g cap', Value.slice A n cap = .slice (some ⟨g, 0, none⟩) n cap' := by
        rcases hown.2 with ⟨_, h0⟩ | ⟨g, cap', cur, h0, _⟩
        · omega
        · exact ⟨g, cap', h0⟩
      injection hv with hA _ hcap
      subst hA hcap
      have hlen : xs.length = n * 1 := hown.1
      obtain ⟨u0, d0⟩ : ∃ u, wr.cell? ⟨g, q, none⟩ = some u := ⟨_, (hown.cellAt q (by omega)).trans (List.getElem?_eq_getElem (by omega))⟩
      have g0 := hown.frozenAt q
      have HW := Lib.hid hown
      have HL := Lib.hid hlen
      have HG := Lib.hid hgr
      clear hlen hown hgr h
      go_wp2
      go_roundw
      case rel =>
        obtain ⟨o1, t1⟩ := HW.out.stored q (.int .i64 (k + (q : Int)))
        refine ⟨q + 1, _, by omega, by go_num, by congr 1; omega, o1, Lib.hid (fun i hi j hj => ?_), grown_trans HG.out t1⟩
        have hl := HL.out
        obtain rfl : j = 0 := by omega
        by_cases e : i = q
        · subst e
          refine (set_here (by omega) : (xs.set (i * 1 + 0) (Value.int .i64 (k + (i : Int))))[i * 1 + 0]? = _).symm ▸ ?_
          simp [nuF]
        · exact set_other (hxs.out i (by omega) 0 (by omega)) (by omega)
      case measure => simp [intOf]; omega
    · obtain rfl : q = n := by omega
      go_wp2
      go_ret
      exact ⟨rfl, hgr, xs, hown, hxs.out⟩
set_option maxHeartbeats 2000000 in
theorem heldInt64S_c (A : Option Addr) (n cap : Nat) (k : Int) (w : World) (hn : n ≤ 1048576) (k0 : 0 ≤ k) (k1 : k ≤ 1000000000000) (h : Rec 1 w A n (nuF (fun i => k + i))) :
    Calls Tryd.prog 23 #[.slice A n cap, .int .i64 k] w fun e w' => e = .returned (.int .i64 (k + n)) ∧ w = w' := by
  go_enter Tryd.func23, Tryd.ntmps23
  go_wp2
  go_loop [1, 5] (fun c i => ∃ (q : Nat), q ≤ n ∧ i = .int .i64 q ∧ c = .int .i64 (k + q)) (fun _ i => n - (intOf i).toNat)
  case atStart => exact ⟨0, by omega, rfl, by simp⟩
  case round =>
    obtain ⟨q, hq, rfl, rfl⟩ := hrel
    by_cases hlt : q < n
    · obtain ⟨b, o, hi⟩ := h
      obtain ⟨rfl, hc⟩ := hi q hlt
      have c0 : w.cell? ⟨b, o + q, none⟩ = some (.int .i64 (k + (q : Int))) := by simpa [nuF] using hc 0 (by omega)
      clear hc hi
      go_wp2
      go_round
      case rel => exact ⟨q + 1, by omega, by go_num, by congr 1; omega⟩
      case measure => simp [intOf]; omega
    · obtain rfl : q = n := by omega
      go_wp2
      go_ret
      exact ⟨rfl, rfl⟩
/-- Two numbers by index. -/
def two (a b : Int) (i : Nat) : Int := if i = 0 then a else b
/-- A list of n pairs of the call's own. -/
def Pairs (w : World) (base es et : Nat) (v : Value) (n : Nat) (P Q : Nat → Int) : Prop :=
  ∃ (h : Nat → Nat) (xs : List Value), w.ownsRow base es 1 v n xs ∧ (∀ i, i < n → xs[i]? = some (.slice (some ⟨h i, 0, none⟩) 2 2)) ∧
    (∀ i, i < n → SO w base et 1 (.slice (some ⟨h i, 0, none⟩) 2 2) 2 (nuF (two (P i) (Q i)))) ∧ ∀ i j, i < n → j < n → i ≠ j → h i ≠ h j
theorem Pairs.below {w w' : World} {base es et n : Nat} {v : Value} {P Q : Nat → Int} (h : Pairs w base es et v n P Q) (hb : Below w.heap.size w w') : Pairs w' base es et v n P Q := by
  obtain ⟨f, xs, h1, h2, h3, h4⟩ := h
  exact ⟨f, xs, own_below h1 hb, h2, fun i hi => (h3 i hi).below hb, h4⟩
theorem Pairs.form {w : World} {base es et n : Nat} {v : Value} {P Q : Nat → Int} (h : Pairs w base es et v n P Q) : ∃ A cap, v = .slice A n cap := by
  obtain ⟨f, xs, h1, _⟩ := h
  rcases h1.2 with ⟨rfl, rfl⟩ | ⟨g, cap, cur, rfl, _⟩
  · exact ⟨none, 0, rfl⟩
  · exact ⟨_, _, rfl⟩
theorem Pairs.nil {w : World} {base es et : Nat} {P Q : Nat → Int} : Pairs w base es et (.slice none 0 0) 0 P Q :=
  ⟨fun _ => 0, [], ⟨by simp, .inl ⟨rfl, rfl⟩⟩, fun i hi => by omega, fun i hi => by omega, fun i j hi => by omega⟩
/-- What is read of a list of pairs at an index. -/
theorem Pairs.at_ {w : World} {base es et n i cap : Nat} {A : Option Addr} {P Q : Nat → Int} (h : Pairs w base es et (.slice A n cap) n P Q) (hi : i < n) :
    ∃ g k, A = some ⟨g, 0, none⟩ ∧ w.cell? ⟨g, i, none⟩ = some (.slice (some ⟨k, 0, none⟩) 2 2) ∧ w.cell? ⟨k, 0, none⟩ = some (.int .i64 (P i)) ∧ w.cell? ⟨k, 1, none⟩ = some (.int .i64 (Q i)) ∧ Rec 1 w (some ⟨k, 0, none⟩) 2 (nuF (two (P i) (Q i))) := by
  obtain ⟨f, xs, h1, h2, h3, h4⟩ := h
  rcases h1.2 with ⟨h0, hn⟩ | ⟨g, cap', cur, h0, _⟩
  · omega
  · have hA : A = some ⟨g, 0, none⟩ := by injection h0
    subst hA
    have hr := (h3 i hi).rec
    obtain ⟨b, o, hc⟩ := hr
    obtain ⟨e1, hc0⟩ := hc 0 (by omega)
    obtain ⟨_, hc1⟩ := hc 1 (by omega)
    injection e1 with e1
    injection e1 with e1 e2
    subst e1 e2
    refine ⟨g, f i, rfl, (h1.cellAt i (by omega)).trans (h2 i hi), by simpa [nuF, two] using hc0 0 (by omega), by simpa [nuF, two] using hc1 0 (by omega), (h3 i hi).rec⟩
end Go.Proofs.YtolijmldobncbaaDoor
