/- Slices of numbers: contracts of the laws' helpers, and of the tests for equality. -/
import Derived.Test.YtolijmldobncbaaOwn
namespace Go.Proofs.Ytolijmldobncbaa
open Go Go.RowKit
def vNum (f : Nat → Int) (i _j : Nat) : Value := .int .i64 (f i)
theorem rowsNum {w : World} {A : Option Addr} {n : Nat} (h : Rows0 [0] w A n) : ∃ (f : Nat → Int), Rec 1 w A n (vNum f) := by
  obtain ⟨f, hf, hl⟩ := h.rec
  refine ⟨fun i => intOf (f i 0), hf.congr fun i hi j hj => ?_⟩
  have hj : j = 0 := by simp only [List.length_cons, List.length_nil] at hj; omega
  subst hj
  exact (hl i hi 0 _ rfl).int.1
theorem Rec.num {w : World} {A : Option Addr} {n : Nat} {f : Nat → Int} (h : Rec 1 w A n (vNum f)) : ∃ b o, ∀ i, i < n → A = some ⟨b, o, none⟩ ∧ w.cell? ⟨b, o + i, none⟩ = some (.int .i64 (f i)) := by
  obtain ⟨b, o, hi⟩ := h
  refine ⟨b, o, fun i hin => ⟨(hi i hin).1, ?_⟩⟩
  simpa [vNum] using (hi i hin).2 0 (by omega)
theorem infoNum : (Try.prog.info? 2).map (fun i => (i.zero, i.size, i.bytes)) = some (some (.int .i64 0), 1, 8) := by kernel_rfl
set_option maxHeartbeats 1000000 in
theorem toInt64S_c (A : Option Addr) (n cap : Nat) (f : Nat → Int) (w : World) (hn : n ≤ 1048576) (h : Rec 1 w A n (vNum f)) :
    Calls Try.prog 34 #[.slice A n cap] w fun e w' => ∃ g, e = .returned (.slice (some ⟨g, 0, none⟩) n n) ∧ Filling 2 1 w w' g n n (vNum f) := by
  obtain ⟨i0, hi0, hz0, hz1, hz2⟩ := info_parts infoNum
  go_enter Try.func34, Try.ntmps34
  go_wp2_with (at_make; refine wpList_make_full _ rfl _ _ 26 rfl w.heap.size 2 i0 _ 1 Try.underlying26 hi0 hz0 hz1 _ _ _ _ n rfl rfl rfl rfl (by rw [hz2]; omega) (by unfold maxLen; omega) (by simp) ?_)
  intro w1 hown hgrow
  have hb1 : Below w.heap.size w w1 := (Below.refl _ _).grown hgrow (Nat.le_refl _) (by simp)
  go_wp2
  go_loopw [4] (fun i wr => ∃ k : Nat, k ≤ n ∧ i = .int .i64 k ∧ Filling 2 1 w wr w.heap.size n k (vNum f)) (fun i _ => n - (intOf i).toNat)
  case atStart => exact ⟨0, by omega, rfl, _, hown, fun i hi => by omega, hb1⟩
  case round =>
    obtain ⟨k, hk, rfl, xs, hown2, hxs, hbw⟩ := hrel
    by_cases hlt : k < n
    · obtain ⟨b, o, hi⟩ := (h.below hbw).num
      obtain ⟨rfl, c0⟩ := hi k hlt
      have hlen : xs.length = n * 1 := hown2.1
      obtain ⟨u0, d0⟩ : ∃ u, wr.cell? ⟨w.heap.size, k, none⟩ = some u := ⟨_, (hown2.cellAt k (by omega)).trans (List.getElem?_eq_getElem (by omega))⟩
      have g0 := hown2.frozenAt k
      have HW := Lib.hid hown2
      have HX := Lib.hid hxs
      have HL := Lib.hid hlen
      clear hi hown hown2 hgrow hxs hlen
      go_wp2
      go_roundw
      case rel =>
        obtain ⟨o1, b1⟩ := own_put HW.out hbw (Nat.le_refl _) k (.int .i64 (f k))
        refine ⟨k + 1, by omega, by go_num, _, o1, fun i hi j hj => ?_, b1⟩
        have hl := HL.out
        obtain rfl : j = 0 := by omega
        by_cases e : i = k
        · subst e
          simpa [vNum] using set_here (xs := xs) (j := i) (u := Value.int .i64 (f i)) (by omega)
        · simpa [vNum] using set_other (u := Value.int .i64 (f k)) (HX.out i (by omega) 0 hj) (j := k) (by omega)
      case measure => simp [intOf]; omega
    · obtain rfl : k = n := by omega
      go_wp2
      go_ret
      exact ⟨_, rfl, xs, hown2, hxs, hbw⟩
set_option maxHeartbeats 1000000 in
theorem szInt64S_c (A : Option Addr) (n cap : Nat) (left : Int) (hn : n ≤ maxLen) (l0 : 0 ≤ left) (l1 : left ≤ 1048576) (w : World) :
    Calls Try.prog 30 #[.slice A n cap, .int .i64 left] w (SzPost n left w) := by
  unfold maxLen at hn
  go_enter Try.func30, Try.ntmps30
  go_wp2
  all_goals
    go_ret
    first
      | exact ⟨.inl rfl, Below.refl _ _⟩
      | exact ⟨.inr ⟨_, by omega, by omega, rfl⟩, Below.refl _ _⟩
set_option maxHeartbeats 2000000 in
theorem eqInt64S_same (A B : Option Addr) (n ca cb : Nat) (f : Nat → Int) (w : World) (hn : n ≤ 1048576) (hA : Rec 1 w A n (vNum f)) (hB : Rec 1 w B n (vNum f)) :
    Calls Try.prog 37 #[.slice A n ca, .slice B n cb] w fun e w' => e = .returned (.bool true) ∧ Below w.heap.size w w' := by
  go_enter Try.func37, Try.ntmps37
  go_wp2
  go_loopw [5] (fun i wr => ∃ (k : Nat) (x : Aft w), k ≤ n ∧ i = .int .i64 k ∧ wr = x.w1) (fun i _ => n - (intOf i).toNat)
  case atStart => exact ⟨0, ⟨w, Below.refl _ _⟩, by omega, rfl, rfl⟩
  case round =>
    obtain ⟨k, x, hk, rfl, rfl⟩ := hrel
    by_cases hlt : k < n
    · obtain ⟨b, o, hi⟩ := hA.num
      obtain ⟨rfl, p0⟩ := hi k hlt
      obtain ⟨b2, o2, hi2⟩ := hB.num
      obtain ⟨rfl, q0⟩ := hi2 k hlt
      have c0 : ∀ y : Aft w, y.w1.cell? ⟨b, o + k, none⟩ = some (.int .i64 (f k)) := fun y => y.cell (cell_lt p0) p0
      have e0 : ∀ y : Aft w, y.w1.cell? ⟨b2, o2 + k, none⟩ = some (.int .i64 (f k)) := fun y => y.cell (cell_lt q0) q0
      clear hi hi2 p0 q0
      go_wp2
      refine wp_region_aftx x (by kernel_rfl) (by kernel_rfl) ?_
      repeat (go_big_quiet_step (fail))
      refine wpQuiet_nil ?_
      intro z
      go_wp2
      go_roundw
      case rel => exact ⟨k + 1, z, by omega, by go_num, rfl⟩
      case measure => simp [intOf]; omega
    · obtain rfl : k = n := by omega
      go_wp2
      go_ret
      exact ⟨rfl, x.below⟩
def sameNum (n n' : Nat) (f f' : Nat → Int) : Bool := decide (n = n') && allB n (fun i => f i == f' i)
set_option maxHeartbeats 2000000 in
theorem implSameNum_c (A B : Option Addr) (n n' ca cb : Nat) (f f' : Nat → Int) (w : World) (hn : n ≤ 1048576) (hn' : n' ≤ 1048576) (hA : Rec 1 w A n (vNum f)) (hB : Rec 1 w B n' (vNum f')) :
    Calls Try.prog 36 #[.slice A n ca, .slice B n' cb] w fun e w' => e = .returned (.bool (sameNum n n' f f')) ∧ Below w.heap.size w w' := by
  by_cases hnn : n = n'
  · subst hnn
    go_enter Try.func36, Try.ntmps36
    go_wp2
    go_loopw [13] (fun i wr => ∃ (k : Nat) (x : Aft w), k ≤ n ∧ i = .int .i64 k ∧ wr = x.w1 ∧ Hid (∀ i, i < k → (f i == f' i) = true)) (fun i _ => n - (intOf i).toNat)
    case atStart => exact ⟨0, ⟨w, Below.refl _ _⟩, by omega, rfl, rfl, Lib.hid (fun i hi => by omega)⟩
    case round =>
      obtain ⟨k, x, hk, rfl, rfl, hall⟩ := hrel
      by_cases hlt : k < n
      · obtain ⟨b, o, hi⟩ := hA.num
        obtain ⟨rfl, p0⟩ := hi k hlt
        obtain ⟨b2, o2, hi2⟩ := hB.num
        obtain ⟨rfl, q0⟩ := hi2 k hlt
        have c0 : ∀ y : Aft w, y.w1.cell? ⟨b, o + k, none⟩ = some (.int .i64 (f k)) := fun y => y.cell (cell_lt p0) p0
        have e0 : ∀ y : Aft w, y.w1.cell? ⟨b2, o2 + k, none⟩ = some (.int .i64 (f' k)) := fun y => y.cell (cell_lt q0) q0
        clear hi hi2 p0 q0
        cases hv : f k == f' k
        all_goals
          have HV := Lib.hid hv
          have hnv : (f k != f' k) = !(f k == f' k) := rfl
          rw [hv] at hnv
          go_wp2
          refine wp_region_aftx x (by kernel_rfl) (by kernel_rfl) ?_
          repeat (go_big_quiet_step (fail))
          refine wpQuiet_nil ?_
          intro z
          go_wp2
          first
            | (go_ret
               exact ⟨ret_bool (by unfold sameNum; rw [allB_no hlt HV.out, Bool.and_false]), Aft.below _⟩)
            | (go_roundw
               case rel => exact ⟨k + 1, z, by omega, by go_num, rfl, Lib.hid (fun i hi => by
                 by_cases e : i = k
                 · rw [e]; exact HV.out
                 · exact hall.out i (by omega))⟩
               case measure => simp [intOf]; omega)
      · obtain rfl : k = n := by omega
        go_wp2
        go_ret
        exact ⟨ret_bool (by unfold sameNum; rw [allB_yes hall.out, decide_eq_true rfl]; rfl), x.below⟩
  · have hne : ((n : Int) == (n' : Int)) = false := by simp; omega
    have hne2 : ((n : Int) != (n' : Int)) = true := by simp; omega
    have HN := Lib.hid hnn
    clear hnn
    go_enter Try.func36, Try.ntmps36
    go_wp2
    go_ret
    exact ⟨ret_bool (by unfold sameNum; rw [decide_eq_false HN.out]; rfl), Below.refl _ _⟩
set_option maxHeartbeats 2000000 in
theorem specSameNum_c (A B : Option Addr) (n n' ca cb : Nat) (f f' : Nat → Int) (w : World) (hn : n ≤ 1048576) (hn' : n' ≤ 1048576) (hA : Rec 1 w A n (vNum f)) (hB : Rec 1 w B n' (vNum f')) :
    Calls Try.prog 39 #[.slice A n ca, .slice B n' cb] w fun e w' => e = .returned (.bool (sameNum n n' f f')) ∧ Below w.heap.size w w' := by
  by_cases hnn : n = n'
  · subst hnn
    go_enter Try.func39, Try.ntmps39
    go_wp2
    go_loopw [5] (fun i wr => ∃ (k : Nat) (x : Aft w), k ≤ n ∧ i = .int .i64 k ∧ wr = x.w1 ∧ Hid (∀ i, i < k → (f i == f' i) = true)) (fun i _ => n - (intOf i).toNat)
    case atStart => exact ⟨0, ⟨w, Below.refl _ _⟩, by omega, rfl, rfl, Lib.hid (fun i hi => by omega)⟩
    case round =>
      obtain ⟨k, x, hk, rfl, rfl, hall⟩ := hrel
      by_cases hlt : k < n
      · obtain ⟨b, o, hi⟩ := hA.num
        obtain ⟨rfl, p0⟩ := hi k hlt
        obtain ⟨b2, o2, hi2⟩ := hB.num
        obtain ⟨rfl, q0⟩ := hi2 k hlt
        have c0 : ∀ y : Aft w, y.w1.cell? ⟨b, o + k, none⟩ = some (.int .i64 (f k)) := fun y => y.cell (cell_lt p0) p0
        have e0 : ∀ y : Aft w, y.w1.cell? ⟨b2, o2 + k, none⟩ = some (.int .i64 (f' k)) := fun y => y.cell (cell_lt q0) q0
        clear hi hi2 p0 q0
        cases hv : f k == f' k
        all_goals
          have HV := Lib.hid hv
          have hnv : (f k != f' k) = !(f k == f' k) := rfl
          rw [hv] at hnv
          go_wp2
          refine wp_region_aftx x (by kernel_rfl) (by kernel_rfl) ?_
          repeat (go_big_quiet_step (fail))
          refine wpQuiet_nil ?_
          intro z
          go_wp2
          first
            | (go_ret
               exact ⟨ret_bool (by unfold sameNum; rw [allB_no hlt HV.out, Bool.and_false]), Aft.below _⟩)
            | (go_roundw
               case rel => exact ⟨k + 1, z, by omega, by go_num, rfl, Lib.hid (fun i hi => by
                 by_cases e : i = k
                 · rw [e]; exact HV.out
                 · exact hall.out i (by omega))⟩
               case measure => simp [intOf]; omega)
      · obtain rfl : k = n := by omega
        go_wp2
        go_ret
        exact ⟨ret_bool (by unfold sameNum; rw [allB_yes hall.out, decide_eq_true rfl]; rfl), x.below⟩
  · have hne : ((n : Int) == (n' : Int)) = false := by simp; omega
    have hne2 : ((n : Int) != (n' : Int)) = true := by simp; omega
    have HN := Lib.hid hnn
    clear hnn
    go_enter Try.func39, Try.ntmps39
    go_wp2
    go_ret
    exact ⟨ret_bool (by unfold sameNum; rw [decide_eq_false HN.out]; rfl), Below.refl _ _⟩
end Go.Proofs.Ytolijmldobncbaa
