/- The program's ValidBuoys answers as the reference's, for all arguments. -/
import Derived.Test.YtfmljppofkocmaaStBuoy
import Derived.Test.YtfmljppofkocmaaDist
namespace Go.Proofs.Ytfmljppofkocmaa
open Go Go.RowKit
def okB (X Y K : Nat → Int) (i : Nat) : Bool := okP (X i) (Y i) && inR (K i) 1 9
set_option maxHeartbeats 400000 in
theorem l11KindV_c (n : Int) (v : Bool) (hv : inR n 1 9 = v) (w : World) :
    Calls Try.prog 104 #[.int .i64 n] w fun e w' => e = .returned (.bool v) ∧ w = w' := by
  subst hv
  go_enter Try.func104, Try.ntmps104
  go_wp2_with (go_at_call 108; refine (l00In_c _ _ _ _).mono ?_; rintro e w' ⟨rfl, rfl⟩)
  go_ret
  exact ⟨rfl, rfl⟩
set_option maxHeartbeats 400000 in
theorem isMarkKindV_c (n : Int) (v : Bool) (hv : inR n 1 9 = v) (w : World) :
    Calls Try.prog 68 #[.int .i64 n] w fun e w' => e = .returned (.bool v) ∧ w = w' := by
  subst hv
  go_enter Try.func68, Try.ntmps68
  go_wp2_with (go_at_call 85; refine (within_c _ _ _ _).mono ?_; rintro e w' ⟨rfl, rfl⟩)
  go_ret
  exact ⟨rfl, rfl⟩
set_option maxHeartbeats 2000000 in
theorem l13List_c (A : Option Addr) (n cap : Nat) (X Y K : Nat → Int) (w : World) (hn : n ≤ 1048576) (h : Rec 3 w A n (vBuoy X Y K)) :
    Calls Try.prog 65 #[.slice A n cap] w fun e w' => e = .returned (.bool (allB n (okB X Y K) && decide ((n : Int) ≤ 64))) ∧ Below w.heap.size w w' := by
  go_enter Try.func65, Try.ntmps65
  go_wp2
  go_loopw [3] (fun i wr => ∃ (k : Nat) (x : Aft w), k ≤ n ∧ i = .int .i64 k ∧ wr = x.w1 ∧ Hid (∀ i, i < k → okB X Y K i = true)) (fun i _ => n - (intOf i).toNat)
  case atStart => exact ⟨0, ⟨w, Below.refl _ _⟩, by omega, rfl, rfl, Lib.hid (fun i hi => by omega)⟩
  case round =>
    obtain ⟨k, x, hk, rfl, rfl, hall⟩ := hrel
    by_cases hlt : k < n
    · obtain ⟨b, o, hi⟩ := h
      obtain ⟨rfl, hc⟩ := hi k hlt
      have p0 : w.cell? ⟨b, o + k * 3, none⟩ = some (.int .i64 (X k)) := by simpa [vBuoy, Nat.add_assoc] using hc 0 (by omega)
      have p1 : w.cell? ⟨b, o + k * 3 + 1, none⟩ = some (.int .i64 (Y k)) := by simpa [vBuoy, Nat.add_assoc] using hc 1 (by omega)
      have p2 : w.cell? ⟨b, o + k * 3 + 2, none⟩ = some (.int .i64 (K k)) := by simpa [vBuoy, Nat.add_assoc] using hc 2 (by omega)
      have c0 : ∀ y : Aft w, y.w1.cell? ⟨b, o + k * 3, none⟩ = some (.int .i64 (X k)) := fun y => y.cell (cell_lt p0) p0
      have c1 : ∀ y : Aft w, y.w1.cell? ⟨b, o + k * 3 + 1, none⟩ = some (.int .i64 (Y k)) := fun y => y.cell (cell_lt p1) p1
      have c2 : ∀ y : Aft w, y.w1.cell? ⟨b, o + k * 3 + 2, none⟩ = some (.int .i64 (K k)) := fun y => y.cell (cell_lt p2) p2
      clear hc hi p0 p1 p2
      cases v1 : okP (X k) (Y k) <;> cases v2 : inR (K k) 1 9
      all_goals
        have HV : Hid (okB X Y K k = _) := Lib.hid (show okB X Y K k = _ by unfold okB; rw [v1, v2])
        have HV1 := Lib.hid v1
        have HV2 := Lib.hid v2
        clear v1 v2
        go_wp2_with (first
          | (go_at_call 89; refine (Aft.call (l02Ok_c _ _ _ HV1.out _)).mono ?_; rintro e _ ⟨rfl, y, rfl⟩)
          | (go_at_call 104; refine (Aft.same (l11KindV_c _ _ HV2.out _)).mono ?_; rintro e _ ⟨rfl, y, rfl⟩))
        first
          | (go_ret
             exact ⟨ret_bool (by rw [allB_no hlt HV.out]; rfl), Aft.below _⟩)
          | (go_roundw
             case rel => exact ⟨k + 1, _, by omega, by go_num, rfl, Lib.hid (fun i hi => by
               by_cases e : i = k
               · rw [e]; exact HV.out
               · exact hall.out i (by omega))⟩
             case measure => simp [intOf]; omega)
    · obtain rfl : k = n := by omega
      go_wp2
      go_ret
      exact ⟨ret_bool (by rw [allB_yes hall.out]; rfl), x.below⟩
theorem few_c (n m : Int) (w : World) (_h0 : 0 ≤ n) (_h1 : n ≤ 9223372036854775807) :
    Calls Try.prog 69 #[.int .i64 n, .int .i64 m] w fun e w' => e = .returned (.bool (decide (n ≤ m))) ∧ w = w' := by
  go_enter Try.func69, Try.ntmps69
  go_wp2
  go_ret
  exact ⟨rfl, rfl⟩
set_option maxHeartbeats 2000000 in
theorem implValidBuoys_c (A : Option Addr) (n cap : Nat) (X Y K : Nat → Int) (w : World) (hn : n ≤ 1048576) (h : Rec 3 w A n (vBuoy X Y K)) :
    Calls Try.prog 29 #[.slice A n cap] w fun e w' => e = .returned (.bool (allB n (okB X Y K) && decide ((n : Int) ≤ 64))) ∧ Below w.heap.size w w' := by
  go_enter Try.func29, Try.ntmps29
  go_wp2
  go_loopw [7] (fun i wr => ∃ (k : Nat) (x : Aft w), k ≤ n ∧ i = .int .i64 k ∧ wr = x.w1 ∧ Hid (∀ i, i < k → okB X Y K i = true)) (fun i _ => n - (intOf i).toNat)
  case atStart => exact ⟨0, ⟨w, Below.refl _ _⟩, by omega, rfl, rfl, Lib.hid (fun i hi => by omega)⟩
  case round =>
    obtain ⟨k, x, hk, rfl, rfl, hall⟩ := hrel
    by_cases hlt : k < n
    · obtain ⟨b, o, hi⟩ := h.aft x
      obtain ⟨rfl, hc⟩ := hi k hlt
      have c0 : x.w1.cell? ⟨b, o + k * 3, none⟩ = some (.int .i64 (X k)) := by simpa [vBuoy, Nat.add_assoc] using hc 0 (by omega)
      have c1 : x.w1.cell? ⟨b, o + k * 3 + 1, none⟩ = some (.int .i64 (Y k)) := by simpa [vBuoy, Nat.add_assoc] using hc 1 (by omega)
      have c2 : x.w1.cell? ⟨b, o + k * 3 + 2, none⟩ = some (.int .i64 (K k)) := by simpa [vBuoy, Nat.add_assoc] using hc 2 (by omega)
      have d0 : ∀ y : Aft (x.w1.alloc (.cells #[.int .i64 (X k), .int .i64 (Y k), .int .i64 (K k)] 86)), y.w1.cell? ⟨x.w1.heap.size, 2, none⟩ = some (.int .i64 (K k)) := fun y => y.new rfl
      clear hc hi
      cases v1 : okP (X k) (Y k) <;> cases v2 : inR (K k) 1 9
      all_goals
        have HV : Hid (okB X Y K k = _) := Lib.hid (show okB X Y K k = _ by unfold okB; rw [v1, v2])
        have HV1 := Lib.hid v1
        have HV2 := Lib.hid v2
        clear v1 v2
        go_wp2_with (first
          | (go_at_call 67; refine (Aft.first (validPoint_c _ _ _ HV1.out _)).mono ?_; rintro e _ ⟨rfl, y, rfl⟩)
          | (go_at_call 68; refine (Aft.same (isMarkKindV_c _ _ HV2.out _)).mono ?_; rintro e _ ⟨rfl, y, rfl⟩))
        first
          | (go_ret
             exact ⟨ret_bool (by rw [allB_no hlt HV.out]; rfl), held_next x.below (below_box (Aft.below _))⟩)
          | (go_roundw
             case rel => exact ⟨k + 1, ⟨_, held_next x.below (below_box (Aft.below _))⟩, by omega, by go_num, rfl, Lib.hid (fun i hi => by
               by_cases e : i = k
               · rw [e]; exact HV.out
               · exact hall.out i (by omega))⟩
             case measure => simp [intOf]; omega)
    · obtain rfl : k = n := by omega
      have HA := Lib.hid (allB_yes hall.out)
      clear hall
      go_wp2_with (go_at_call 69; refine (few_c _ _ _ (by omega) (by omega)).mono ?_; rintro e w' ⟨rfl, rfl⟩)
      go_ret
      exact ⟨ret_bool (by rw [HA.out]; rfl), x.below⟩
set_option maxHeartbeats 1000000 in
theorem specValidBuoys_c (A : Option Addr) (n cap : Nat) (X Y K : Nat → Int) (w : World) (hn : n ≤ 1048576) (h : Rec 3 w A n (vBuoy X Y K)) :
    Calls Try.prog 27 #[.slice A n cap] w fun e w' => e = .returned (.bool (allB n (okB X Y K) && decide ((n : Int) ≤ 64))) ∧ Below w.heap.size w w' := by
  have H := Lib.hid (l13List_c A n cap X Y K w hn h)
  clear h
  go_enter Try.func27, Try.ntmps27
  go_wp2_with fail
  refine H.out.mono ?_
  rintro e w1 ⟨rfl, hb1⟩
  go_wp2
  go_ret
  exact ⟨rfl, hb1⟩
end Go.Proofs.Ytfmljppofkocmaa
