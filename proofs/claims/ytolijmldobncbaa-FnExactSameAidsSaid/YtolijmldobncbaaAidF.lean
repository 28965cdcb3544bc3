/- Lists of aids, weighed and held against each other. -/
import Derived.Test.YtolijmldobncbaaAidE
namespace Go.Proofs.Ytolijmldobncbaa
open Go Go.RowKit
set_option maxRecDepth 100000 in
set_option maxHeartbeats 4000000 in
theorem szAidS_c (A : Option Addr) (n cap : Nat) (D : Nat → AidD) (C : Nat → Array Value) (left : Int) (hn : n ≤ maxLen) (hok : ∀ i, i < n → (D i).Ok) (l0 : 0 ≤ left) (l1 : left ≤ 1048576) (w : World) (h : RowA w A n D C) :
    Calls Try.prog 10 #[.slice A n cap, .int .i64 left] w fun e w' => (e = .returned (.int .i64 (-1)) ∨ ∃ r : Int, 0 ≤ r ∧ r + n ≤ left ∧ (∀ i, i < n → (D i).Few) ∧ e = .returned (.int .i64 r)) ∧ Below w.heap.size w w' := by
  unfold maxLen at hn
  by_cases hl : (n : Int) ≤ left
  · go_enter Try.func10, Try.ntmps10
    go_wp2
    go_loopw [1, 5] (fun l i wr => ∃ (k : Nat) (r : Int) (x : Aft w), k ≤ n ∧ i = .int .i64 k ∧ wr = x.w1 ∧ l = .int .i64 r ∧ 0 ≤ r ∧ r + n ≤ left ∧ Hid (∀ i, i < k → (D i).Few)) (fun _ i _ => n - (intOf i).toNat)
    case atStart => exact ⟨0, left - n, ⟨w, Below.refl _ _⟩, by omega, rfl, rfl, rfl, by omega, by omega, Lib.hid (fun i hi => by omega)⟩
    case round =>
      obtain ⟨k, r, x, hk, rfl, rfl, rfl, r0, r1, hall⟩ := hrel
      by_cases hlt : k < n
      · obtain ⟨b, o, hi⟩ := h.below x.below
        obtain ⟨rfl, hr, hA⟩ := hi k hlt
        have hokk := hok k hlt
        have ZC := Lib.hid (hA.size)
        generalize hCk : C k = Ck at *
        clear hi hCk
        go_wp2_with (refine wpList_load_arr rfl 31 _ rfl b (o + k * 16) rfl Ck hr Try.underlying31 rfl (sizeL ZC.out) ?_)
        refine (szAidC_c (D k) Ck r hokk r0 (by omega) _ hA).mono ?_
        rintro e w2 ⟨rfl | ⟨r2, q0, q1, hf, rfl⟩, hb2⟩
        · go_wp2
          go_ret
          exact ⟨.inl rfl, held_next x.below hb2⟩
        · go_wp2
          go_roundw
          case rel => exact ⟨k + 1, r2, ⟨w2, held_next x.below hb2⟩, by omega, by go_num, rfl, rfl, q0, by omega, Lib.hid (fun i hi => by
            by_cases e : i = k
            · rw [e]; exact hf
            · exact hall.out i (by omega))⟩
          case measure => simp [intOf]; omega
      · obtain rfl : k = n := by omega
        go_wp2
        go_ret
        exact ⟨.inr ⟨r, r0, r1, hall.out, rfl⟩, x.below⟩
  · go_enter Try.func10, Try.ntmps10
    go_wp2
    go_ret
    exact ⟨.inl rfl, Below.refl _ _⟩
set_option maxRecDepth 100000 in
set_option maxHeartbeats 4000000 in
theorem eqAidS_same (A B : Option Addr) (n ca cb : Nat) (D : Nat → AidD) (C C' : Nat → Array Value) (w : World) (hn : n ≤ 1048576) (hf : ∀ i, i < n → (D i).Few) (hA : RowA w A n D C) (hB : RowA w B n D C') :
    Calls Try.prog 14 #[.slice A n ca, .slice B n cb] w fun e w' => e = .returned (.bool true) ∧ Below w.heap.size w w' := by
  go_enter Try.func14, Try.ntmps14
  go_wp2
  go_loopw [5] (fun i wr => ∃ (k : Nat) (x : Aft w), k ≤ n ∧ i = .int .i64 k ∧ wr = x.w1) (fun i _ => n - (intOf i).toNat)
  case atStart => exact ⟨0, ⟨w, Below.refl _ _⟩, by omega, rfl, rfl⟩
  case round =>
    obtain ⟨k, x, hk, rfl, rfl⟩ := hrel
    by_cases hlt : k < n
    · obtain ⟨b, o, hi⟩ := hA
      obtain ⟨rfl, hr, hI⟩ := hi k hlt
      obtain ⟨b2, o2, hi2⟩ := hB
      obtain ⟨rfl, hr2, hI2⟩ := hi2 k hlt
      have hfk := hf k hlt
      have ZC := Lib.hid (hI.size)
      have ZC2 := Lib.hid (hI2.size)
      have HE := Lib.hid (fun y : Aft w => eqAidC_same (D k) (C k) (C' k) y.w1 hfk (hI.below y.below) (hI2.below y.below))
      have m1 : ∀ w', (∃ y : Aft w, w' = y.w1) → w'.rangeAt b (o + k * 16) (C k).toList := by rintro _ ⟨y, rfl⟩; exact range_below hr y.below
      have m2 : ∀ w', (∃ y : Aft w, w' = y.w1) → w'.rangeAt b2 (o2 + k * 16) (C' k).toList := by rintro _ ⟨y, rfl⟩; exact range_below hr2 y.below
      generalize C k = Ck at *
      generalize C' k = Ck2 at *
      clear hi hi2 hr hr2 hI hI2
      go_wp2
      refine wp_region_aftx x (by kernel_rfl) (by kernel_rfl) ?_
      iterate 3 (go_big_quiet_step (fail))
      refine BigFrame.wpQuiet_want rfl ?_
      intro K hK
      refine quiet_load 39 _ rfl b (o + k * 16) rfl Ck m1 Try.underlying39 rfl (sizeI ZC.out) (hK _ ?_)
      go_simp
      iterate 3 (go_big_quiet_step (fail))
      refine BigFrame.wpQuiet_want rfl ?_
      intro K hK
      refine quiet_load 39 _ rfl b2 (o2 + k * 16) rfl Ck2 m2 Try.underlying39 rfl (sizeI ZC2.out) (hK _ ?_)
      go_simp
      repeat (go_big_quiet_step ((go_at_call 9; exact Aft.call (HE.out _))))
      refine wpQuiet_nil ?_
      intro z
      go_wp2
      go_roundw
      case rel => exact ⟨k + 1, z, by omega, by go_num, rfl⟩
      case measure => simp [intOf]; omega
    · obtain rfl : k = n := by omega
      go_wp2
      go_ret
      exact ⟨rfl, x.below⟩
def sameAids (n n' : Nat) (D D' : Nat → AidD) : Bool := decide (n = n') && allB n (fun i => (D i).same (D' i))
theorem range_at {w : World} {b o : Nat} {C : Array Value} (h : w.rangeAt b o C.toList) (y : Aft w) {j : Nat} {v : Value} (hv : C[j]? = some v) : y.w1.cell? ⟨b, o + j, none⟩ = some v :=
  range_below h y.below j v (by simpa using hv)
theorem l12SameC_c (g o g' o' : Nat) (d d' : AidD) (C C' : Array Value) (w : World) (hf : d.Few) (hf' : d'.Few) (hR : IsA d C w) (hR' : IsA d' C' w) (h : w.rangeAt g o C.toList) (h' : w.rangeAt g' o' C'.toList) :
    Calls Try.prog 18 #[.pointer (some ⟨g, o, none⟩), .pointer (some ⟨g', o', none⟩)] w fun e w' => e = .returned (.bool (d.same d')) ∧ Below w.heap.size w w' := by
  obtain ⟨G, gc, S, sc, rfl, hh⟩ := hR
  obtain ⟨G', gc', S', sc', rfl, hh'⟩ := hR'
  exact l12Same_c g o g' o' d d' G gc S sc G' gc' S' sc' w hf.gn hf.sn hf'.gn hf'.sn hh hh'
    (h 0 _ rfl) (h 1 _ rfl) (h 2 _ rfl) (h 3 _ rfl) (h 4 _ rfl) (h 5 _ rfl) (h 6 _ rfl) (h 7 _ rfl) (h 8 _ rfl) (h 9 _ rfl) (h 10 _ rfl) (h 11 _ rfl) (h 12 _ rfl) (h 13 _ rfl) (h 14 _ rfl) (h 15 _ rfl)
    (h' 0 _ rfl) (h' 1 _ rfl) (h' 2 _ rfl) (h' 3 _ rfl) (h' 4 _ rfl) (h' 5 _ rfl) (h' 6 _ rfl) (h' 7 _ rfl) (h' 8 _ rfl) (h' 9 _ rfl) (h' 10 _ rfl) (h' 11 _ rfl) (h' 12 _ rfl) (h' 13 _ rfl) (h' 14 _ rfl) (h' 15 _ rfl)
set_option maxHeartbeats 4000000 in
theorem specSameAids_c (A B : Option Addr) (n n' ca cb : Nat) (D D' : Nat → AidD) (C C' : Nat → Array Value) (w : World) (hn : n ≤ 1048576) (hn' : n' ≤ 1048576) (hf : ∀ i, i < n → (D i).Few) (hf' : ∀ i, i < n' → (D' i).Few) (hA : RowA w A n D C) (hB : RowA w B n' D' C') :
    Calls Try.prog 11 #[.slice A n ca, .slice B n' cb] w fun e w' => e = .returned (.bool (sameAids n n' D D')) ∧ Below w.heap.size w w' := by
  by_cases hnn : n = n'
  · subst hnn
    go_enter Try.func11, Try.ntmps11
    go_wp2
    go_loopw [5] (fun i wr => ∃ (k : Nat) (x : Aft w), k ≤ n ∧ i = .int .i64 k ∧ wr = x.w1 ∧ Hid (∀ i, i < k → (D i).same (D' i) = true)) (fun i _ => n - (intOf i).toNat)
    case atStart => exact ⟨0, ⟨w, Below.refl _ _⟩, by omega, rfl, rfl, Lib.hid (fun i hi => by omega)⟩
    case round =>
      obtain ⟨k, x, hk, rfl, rfl, hall⟩ := hrel
      by_cases hlt : k < n
      · obtain ⟨b, o, hi⟩ := hA
        obtain ⟨rfl, hr, hI⟩ := hi k hlt
        obtain ⟨b2, o2, hi2⟩ := hB
        obtain ⟨rfl, hr2, hI2⟩ := hi2 k hlt
        have HE := Lib.hid (fun y : Aft w => l12SameC_c b (o + k * 16) b2 (o2 + k * 16) (D k) (D' k) (C k) (C' k) y.w1 (hf k hlt) (hf' k hlt) (hI.below y.below) (hI2.below y.below) (range_below hr y.below) (range_below hr2 y.below))
        clear hi hi2 hr hr2 hI hI2
        cases hv : (D k).same (D' k)
        all_goals
          have HV := Lib.hid hv
          rw [hv] at HE
          go_wp2
          refine wp_region_aftx x (by kernel_rfl) (by kernel_rfl) ?_
          repeat (go_big_quiet_step ((go_at_call 18; exact Aft.call (HE.out _))))
          refine wpQuiet_nil ?_
          intro z
          go_wp2
          first
            | (go_ret
               exact ⟨ret_bool (by unfold sameAids; rw [allB_no hlt HV.out, Bool.and_false]), Aft.below _⟩)
            | (go_roundw
               case rel => exact ⟨k + 1, z, by omega, by go_num, rfl, Lib.hid (fun i hi => by
                 by_cases e : i = k
                 · rw [e]; exact HV.out
                 · exact hall.out i (by omega))⟩
               case measure => simp [intOf]; omega)
      · obtain rfl : k = n := by omega
        go_wp2
        go_ret
        exact ⟨ret_bool (by unfold sameAids; rw [allB_yes hall.out, decide_eq_true rfl]; rfl), x.below⟩
  · have hne : ((n : Int) == (n' : Int)) = false := by simp; omega
    have hne2 : ((n : Int) != (n' : Int)) = true := by simp; omega
    have HN := Lib.hid hnn
    clear hnn
    go_enter Try.func11, Try.ntmps11
    go_wp2
    go_ret
    exact ⟨ret_bool (by unfold sameAids; rw [decide_eq_false HN.out]; rfl), Below.refl _ _⟩
set_option maxRecDepth 100000 in
set_option maxHeartbeats 4000000 in
theorem equalAids_c (A B : Option Addr) (n n' ca cb : Nat) (D D' : Nat → AidD) (C C' : Nat → Array Value) (w : World) (hn : n ≤ 1048576) (hn' : n' ≤ 1048576) (hf : ∀ i, i < n → (D i).Few) (hf' : ∀ i, i < n' → (D' i).Few) (hA : RowA w A n D C) (hB : RowA w B n' D' C') :
    Calls Try.prog 29 #[.slice A n ca, .slice B n' cb, .func (.func 8) #[] #[]] w fun e w' => e = .returned (.bool (sameAids n n' D D')) ∧ Below w.heap.size w w' := by
  by_cases hnn : n = n'
  · subst hnn
    go_enter Try.func29, Try.ntmps29
    go_wp2
    go_loopw [17] (fun i wr => ∃ (k : Nat) (x : Aft w), k ≤ n ∧ i = .int .i64 k ∧ wr = x.w1 ∧ Hid (∀ i, i < k → (D i).same (D' i) = true)) (fun i _ => n - (intOf i).toNat)
    case atStart => exact ⟨0, ⟨w, Below.refl _ _⟩, by omega, rfl, rfl, Lib.hid (fun i hi => by omega)⟩
    case round =>
      obtain ⟨k, x, hk, rfl, rfl, hall⟩ := hrel
      by_cases hlt : k < n
      · obtain ⟨b, o, hi⟩ := hA.below x.below
        obtain ⟨rfl, hr, hI⟩ := hi k hlt
        obtain ⟨b2, o2, hi2⟩ := hB.below x.below
        obtain ⟨rfl, hr2, hI2⟩ := hi2 k hlt
        have hfk := hf k hlt
        have hfk' := hf' k hlt
        have ZC := Lib.hid (hI.size)
        have ZC2 := Lib.hid (hI2.size)
        generalize C k = Ck at *
        generalize C' k = Ck2 at *
        clear hi hi2
        cases hv : (D k).same (D' k)
        all_goals
          have HV := Lib.hid hv
          have hSt1 := aid_store hI
          have hSt2 := aid_store (w := x.w1.alloc (.cells Ck 39)) (hI2.below (by repeat (first | exact Below.refl _ _ | refine Below.alloc ?_ (by simp; try omega) _ | refine Below.drew ?_)))
          have z1 := hI.size
          have z2 := hI2.size
          simp only [World.size_alloc] at hSt2
          have hr3 : ∀ o', (x.w1.alloc o').rangeAt b2 (o2 + k * 16) Ck2.toList := fun o' => range_below hr2 (by repeat (first | exact Below.refl _ _ | refine Below.alloc ?_ (by simp; try omega) _ | refine Below.drew ?_))
          have hr4 : ∀ o' o'', ((x.w1.alloc o').alloc o'').rangeAt b2 (o2 + k * 16) Ck2.toList := fun o' o'' => range_below hr2 (by repeat (first | exact Below.refl _ _ | refine Below.alloc ?_ (by simp; try omega) _ | refine Below.drew ?_))
          have hr5 : ∀ o', (x.w1.alloc o').rangeAt b (o + k * 16) Ck.toList := fun o' => range_below hr (by repeat (first | exact Below.refl _ _ | refine Below.alloc ?_ (by simp; try omega) _ | refine Below.drew ?_))
          have k1 : ((x.w1.alloc (.cells Ck 39)).alloc (.cells Ck2 39)).heap[x.w1.heap.size]? = some (.cells Ck 39 (0, 0)) := (Blk.new x.w1 39 Ck).below (by repeat (first | exact Below.refl _ _ | refine Below.alloc ?_ (by simp; try omega) _ | refine Below.drew ?_))
          have k2 : ((x.w1.alloc (.cells Ck 39)).alloc (.cells Ck2 39)).heap[x.w1.heap.size + 1]? = some (.cells Ck2 39 (0, 0)) := by have := Blk.new (x.w1.alloc (.cells Ck 39)) 39 Ck2; rwa [World.size_alloc] at this
          have hbW : Below x.w1.heap.size x.w1 ((x.w1.alloc (.cells Ck 39)).alloc (.cells Ck2 39)) := (by repeat (first | exact Below.refl _ _ | refine Below.alloc ?_ (by simp; try omega) _ | refine Below.drew ?_))
          go_wp2_with (first
            | (refine wpList_load_arr rfl 39 _ rfl b (o + k * 16) rfl Ck hr Try.underlying39 rfl (sizeI ZC.out) ?_)
            | (refine wpList_load_arr rfl 39 _ rfl b (o + k * 16) rfl Ck (hr5 _) Try.underlying39 rfl (sizeI ZC.out) ?_)
            | (refine wpList_load_arr rfl 39 _ rfl b2 (o2 + k * 16) rfl Ck2 (hr3 _) Try.underlying39 rfl (sizeI ZC2.out) ?_)
            | (refine wpList_load_arr rfl 39 _ rfl b2 (o2 + k * 16) rfl Ck2 (hr4 _ _) Try.underlying39 rfl (sizeI ZC2.out) ?_)
            | (refine wpList_load_row rfl 39 _ rfl x.w1.heap.size rfl 39 Ck (0, 0) _ k1 Try.underlying39 rfl (sizeI ZC.out) ?_)
            | (refine wpList_load_row rfl 39 _ rfl (x.w1.heap.size + 1) rfl 39 Ck2 (0, 0) _ k2 Try.underlying39 rfl (sizeI ZC2.out) ?_))
          refine (implSameAidC_c (D k) (D' k) Ck Ck2 _ hfk hfk' (hI.below hbW) (hI2.below hbW)).mono ?_
          rw [hv]
          rintro e w2 ⟨rfl, hb2⟩
          go_wp2
          first
            | (go_ret
               exact ⟨ret_bool (by unfold sameAids; rw [allB_no hlt HV.out, Bool.and_false]), held_next x.below (held_next hbW hb2)⟩)
            | (go_roundw
               case rel => exact ⟨k + 1, ⟨w2, held_next x.below (held_next hbW hb2)⟩, by omega, by go_num, rfl, Lib.hid (fun i hi => by
                 by_cases e : i = k
                 · rw [e]; exact HV.out
                 · exact hall.out i (by omega))⟩
               case measure => simp [intOf]; omega)
      · obtain rfl : k = n := by omega
        go_wp2
        go_ret
        exact ⟨ret_bool (by unfold sameAids; rw [allB_yes hall.out, decide_eq_true rfl]; rfl), x.below⟩
  · have hne : ((n : Int) == (n' : Int)) = false := by simp; omega
    have hne2 : ((n : Int) != (n' : Int)) = true := by simp; omega
    have HN := Lib.hid hnn
    clear hnn
    go_enter Try.func29, Try.ntmps29
    go_wp2
    go_ret
    exact ⟨ret_bool (by unfold sameAids; rw [decide_eq_false HN.out]; rfl), Below.refl _ _⟩
theorem implSameAids_c (A B : Option Addr) (n n' ca cb : Nat) (D D' : Nat → AidD) (C C' : Nat → Array Value) (w : World) (hn : n ≤ 1048576) (hn' : n' ≤ 1048576) (hf : ∀ i, i < n → (D i).Few) (hf' : ∀ i, i < n' → (D' i).Few) (hA : RowA w A n D C) (hB : RowA w B n' D' C') :
    Calls Try.prog 13 #[.slice A n ca, .slice B n' cb] w fun e w' => e = .returned (.bool (sameAids n n' D D')) ∧ Below w.heap.size w w' := by
  have H := Lib.hid (equalAids_c A B n n' ca cb D D' C C' w hn hn' hf hf' hA hB)
  clear hA hB
  go_enter Try.func13, Try.ntmps13
  go_wp2_with fail
  refine H.out.mono ?_
  rintro e w1 ⟨rfl, hb1⟩
  go_wp2
  go_ret
  exact ⟨rfl, hb1⟩
end Go.Proofs.Ytolijmldobncbaa
