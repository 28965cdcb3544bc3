/- Phases are valid: contracts of the program's and the reference's tests. -/
import Derived.Test.YtimfpnmcdicldaaDoorColor
import Derived.Test.YtimfpnmcdicldaaDoorStPhase
import Derived.Test.YtimfpnmcdicldaaDoorFog
import Derived.Test.YtimfpnmcdicldaaDoorFill
namespace Go.Proofs.YtimfpnmcdicldaaDoor
open Go Go.RowKit Go.Shelf
/-- The tests of a phase, and of all. -/
def okPh (C : Nat → ByteArray) (L : Nat → Int) (i : Nat) : Bool := inR (L i) 1 600 && ((C i).toList.isEmpty || isC (C i))
def sumL (L : Nat → Int) : Nat → Int
  | 0 => 0
  | k + 1 => sumL L k + L k
def okPhs (n : Nat) (C : Nat → ByteArray) (L : Nat → Int) : Bool := allB n (okPh C L) && (inR n 1 40 && decide (sumL L n ≤ 600))
theorem okPh_len {C : Nat → ByteArray} {L : Nat → Int} {i : Nat} (h : okPh C L i = true) : (1 ≤ L i ∧ L i ≤ 600) ∧ ((C i).toList.isEmpty = true ∨ isC (C i) = true) := by
  unfold okPh at h
  rw [Bool.and_eq_true, Bool.or_eq_true] at h
  exact ⟨inR_iff.1 h.1, h.2⟩
theorem okPh_size {C : Nat → ByteArray} {L : Nat → Int} {i : Nat} (h : okPh C L i = true) : (C i).size ≤ 1 := by
  rcases (okPh_len h).2 with h1 | h1
  · have e : (C i).toList = [] := List.isEmpty_iff.1 h1
    rw [ByteArray.toList_eq] at e
    have : (C i).data.toList.length = (C i).size := Array.length_toList
    rw [e] at this
    simp at this
    omega
  · unfold isC at h1
    rw [Bool.and_eq_true, decide_eq_true_eq] at h1
    omega
theorem sumL_bd {C : Nat → ByteArray} {L : Nat → Int} : ∀ k : Nat, (∀ i, i < k → okPh C L i = true) → (k : Int) ≤ sumL L k ∧ sumL L k ≤ 600 * k
  | 0, _ => by simp [sumL]
  | k + 1, h => by
    have h1 := sumL_bd k (fun i hi => h i (by omega))
    have h2 := (okPh_len (h k (by omega))).1
    rw [sumL]
    omega
theorem ok_more {k : Nat} {p : Nat → Bool} (h : ∀ i, i < k → p i = true) (hk : p k = true) : ∀ i, i < k + 1 → p i = true := fun i hi => by
  by_cases e : i = k
  · rw [e]; exact hk
  · exact h i (by omega)
set_option maxHeartbeats 1000000 in
theorem l05Color_c (s : ByteArray) (v : Bool) (hv : isC s = v) (w : World) :
    Calls Tryd.prog 50 #[.string s] w fun e w' => e = .returned (.bool v) ∧ w = w' := by
  subst hv
  have hE : isC s = (s.toList == [87] || s.toList == [82] || s.toList == [71] || s.toList == [89]) := by rw [isC_eq]; simp only [ByteArray.toList_eq]
  rw [hE]
  clear hE
  cases h1 : (s.toList == [87])
  · cases h2 : (s.toList == [82])
    · cases h3 : (s.toList == [71])
      · go_enter Tryd.func50, Tryd.ntmps50
        go_wp2
        go_ret
        exact ⟨ret_bool (by simp), rfl⟩
      · go_enter Tryd.func50, Tryd.ntmps50
        go_wp2
        go_ret
        exact ⟨ret_bool (by simp), rfl⟩
    · go_enter Tryd.func50, Tryd.ntmps50
      go_wp2
      go_ret
      exact ⟨ret_bool (by simp), rfl⟩
  · go_enter Tryd.func50, Tryd.ntmps50
    go_wp2
    go_ret
    exact ⟨ret_bool (by simp), rfl⟩
set_option maxHeartbeats 4000000 in
theorem l06Ok_c (A : Option Addr) (n cap : Nat) (C : Nat → ByteArray) (L : Nat → Int) (w : World) (hn : n ≤ 1048576) (hR : Rec 2 w A n (vPhase C L)) :
    Calls Tryd.prog 42 #[.slice A n cap] w fun e w' => e = .returned (.bool (okPhs n C L)) ∧ w = w' := by
  by_cases h1 : (n : Int) < 1
  · have HO := Lib.hid (show okPhs n C L = false by unfold okPhs; rw [inR_no (by omega)]; simp)
    have hd : decide ((n : Int) < 1) = true := by simp; omega
    go_enter Tryd.func42, Tryd.ntmps42
    go_wp2
    go_ret
    exact ⟨ret_bool HO.out.symm, rfl⟩
  · have hd : decide ((n : Int) < 1) = false := by simp; omega
    by_cases h2 : (40 : Int) < n
    · have HO := Lib.hid (show okPhs n C L = false by unfold okPhs; rw [inR_no (by omega)]; simp)
      go_enter Tryd.func42, Tryd.ntmps42
      go_wp2
      go_ret
      exact ⟨ret_bool HO.out.symm, rfl⟩
    · have HO := Lib.hid (show okPhs n C L = (allB n (okPh C L) && decide (sumL L n ≤ 600)) by unfold okPhs; rw [inR_yes (by omega)]; rfl)
      have h40 : (n : Int) ≤ 40 := by omega
      go_enter Tryd.func42, Tryd.ntmps42
      go_wp2
      go_loop [3, 4] (fun s i => ∃ k : Nat, k ≤ n ∧ s = .int .i64 (sumL L k) ∧ i = .int .i64 k ∧ Hid (∀ i, i < k → okPh C L i = true)) (fun _ i => n - (intOf i).toNat)
      case atStart => exact ⟨0, by omega, rfl, rfl, Lib.hid (fun i hi => by omega)⟩
      case round =>
        obtain ⟨k, hk, rfl, rfl, hall⟩ := hrel
        have hb := sumL_bd k hall.out
        have hb1 := hb.1
        have hb2 := hb.2
        clear hb
        by_cases hlt : k < n
        · obtain ⟨b, o, hi⟩ := hR
          obtain ⟨rfl, hc⟩ := hi k hlt
          have p0 : w.cell? ⟨b, o + k * 2, none⟩ = some (.string (C k)) := by simpa [vPhase, Nat.add_assoc] using hc 0 (by omega)
          have p1 : w.cell? ⟨b, o + k * 2 + 1, none⟩ = some (.int .i64 (L k)) := by simpa [vPhase, Nat.add_assoc] using hc 1 (by omega)
          clear hc hi
          have HS := Lib.hid (show sumL L (k + 1) = sumL L k + L k from rfl)
          generalize sumL L k = S at *
          have hv1 : (inR (L k) 1 600 = true ∧ 1 ≤ L k ∧ L k ≤ 600) ∨ inR (L k) 1 600 = false := by
            cases h : inR (L k) 1 600
            · exact .inr rfl
            · exact .inl ⟨rfl, inR_iff.1 h⟩
          rcases hv1 with ⟨v1, l0, l1⟩ | v1 <;> cases v2 : (C k).toList.isEmpty <;> cases v3 : isC (C k)
          all_goals
            have HN : Hid (okPh C L k = _) := Lib.hid (show okPh C L k = (inR (L k) 1 600 && ((C k).toList.isEmpty || isC (C k))) from rfl)
            rw [v1, v2, v3] at HN
            have HV1 := Lib.hid v1
            have HV3 := Lib.hid v3
            clear v1 v3
            go_wp2_with (first
              | (go_at_call 65; refine (l00In_v HV1.out _).mono ?_; rintro e w' ⟨rfl, rfl⟩)
              | (go_at_call 50; refine (l05Color_c _ _ HV3.out _).mono ?_; rintro e w' ⟨rfl, rfl⟩))
            first
              | (go_ret
                 exact ⟨ret_bool (by rw [HO.out, allB_no hlt HN.out]; rfl), rfl⟩)
              | (go_round
                 case rel => exact ⟨k + 1, by omega, by rw [HS.out], by go_num, Lib.hid (ok_more hall.out HN.out)⟩
                 case measure => simp [intOf]; omega)
        · obtain rfl : k = n := by omega
          have HA := Lib.hid (allB_yes hall.out)
          clear hall
          go_wp2
          go_ret
          exact ⟨ret_bool (by rw [HO.out, HA.out]; rfl), rfl⟩
set_option maxHeartbeats 8000000 in
theorem validPhases_c (A : Option Addr) (n cap : Nat) (C : Nat → ByteArray) (L : Nat → Int) (w : World) (hn : n ≤ 1048576) (hz : ∀ i, i < n → (C i).size ≤ maxLen) (hR : Rec 2 w A n (vPhase C L)) :
    Calls Tryd.prog 45 #[.slice A n cap] w fun e w' => e = .returned (.bool (okPhs n C L)) ∧ Below w.heap.size w w' := by
  unfold maxLen at hz
  go_enter Tryd.func45, Tryd.ntmps45
  go_wp2
  go_loopw [3, 8] (fun s i wr => ∃ (k : Nat) (x : Aft w), k ≤ n ∧ s = .int .i64 (sumL L k) ∧ i = .int .i64 k ∧ wr = x.w1 ∧ Hid (∀ i, i < k → okPh C L i = true)) (fun _ i _ => n - (intOf i).toNat)
  case atStart => exact ⟨0, ⟨w, Below.refl _ _⟩, by omega, rfl, rfl, rfl, Lib.hid (fun i hi => by omega)⟩
  case round =>
    obtain ⟨k, x, hk, rfl, rfl, rfl, hall⟩ := hrel
    have hb := sumL_bd k hall.out
    have hb1 := hb.1
    have hb2 := hb.2
    clear hb
    by_cases hlt : k < n
    · obtain ⟨b, o, hi⟩ := hR.aft x
      obtain ⟨rfl, hc⟩ := hi k hlt
      have p0 : x.w1.cell? ⟨b, o + k * 2, none⟩ = some (.string (C k)) := by simpa [vPhase, Nat.add_assoc] using hc 0 (by omega)
      have p1 : x.w1.cell? ⟨b, o + k * 2 + 1, none⟩ = some (.int .i64 (L k)) := by simpa [vPhase, Nat.add_assoc] using hc 1 (by omega)
      have hzk := hz k hlt
      clear hc hi
      have HS := Lib.hid (show sumL L (k + 1) = sumL L k + L k from rfl)
      generalize sumL L k = S at *
      have hv1 : (inR (L k) 1 600 = true ∧ 1 ≤ L k ∧ L k ≤ 600) ∨ inR (L k) 1 600 = false := by
        cases h : inR (L k) 1 600
        · exact .inr rfl
        · exact .inl ⟨rfl, inR_iff.1 h⟩
      rcases hv1 with ⟨v1, l0, l1⟩ | v1 <;> cases v2 : (C k).toList.isEmpty <;> cases v3 : isC (C k)
      all_goals
        have HN : Hid (okPh C L k = _) := Lib.hid (show okPh C L k = (inR (L k) 1 600 && ((C k).toList.isEmpty || isC (C k))) from rfl)
        rw [v1, v2, v3] at HN
        have HV1 := Lib.hid v1
        have HV3 := Lib.hid v3
        clear v1 v3
        go_wp2_with (first
          | (go_at_call 70; refine (within_v HV1.out _).mono ?_; rintro e w' ⟨rfl, rfl⟩)
          | (go_at_call 78; refine (isColor_c _ (by omega) _ HV3.out _).mono ?_; rintro e w' ⟨rfl, rfl⟩))
        first
          | (go_ret
             exact ⟨ret_bool (by unfold okPhs; rw [allB_no hlt HN.out]; rfl), held_next x.below (by repeat (first | exact Below.refl _ _ | refine Below.alloc ?_ (by simp; try omega) _ | refine Below.drew ?_))⟩)
          | (go_roundw
             case rel => exact ⟨k + 1, ⟨_, held_next x.below (by repeat (first | exact Below.refl _ _ | refine Below.alloc ?_ (by simp; try omega) _ | refine Below.drew ?_))⟩, by omega, by rw [HS.out], by go_num, rfl, Lib.hid (ok_more hall.out HN.out)⟩
             case measure => simp [intOf]; omega)
    · obtain rfl : k = n := by omega
      have HA := Lib.hid (allB_yes hall.out)
      clear hall
      cases v1 : inR k 1 40
      all_goals
        have HO : Hid (okPhs k C L = _) := Lib.hid (show okPhs k C L = (true && (inR k 1 40 && decide (sumL L k ≤ 600))) by unfold okPhs; rw [HA.out])
        rw [v1] at HO
        have HV := Lib.hid v1
        clear v1
        go_wp2_with (go_at_call 70; refine (within_v HV.out _).mono ?_; rintro e w' ⟨rfl, rfl⟩)
        go_ret
        exact ⟨ret_bool (by rw [HO.out]; simp), x.below⟩
end Go.Proofs.YtimfpnmcdicldaaDoor
