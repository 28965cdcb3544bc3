/- Names: contracts of the program's IsName and of the reference's l01Name. -/
import Derived.Test.YtimfpnmcdicldaaDoorFill
import Derived.Test.YtimfpnmcdicldaaDoorFog
namespace Go.Proofs.YtimfpnmcdicldaaDoor
open Go Go.RowKit
def byteAt (s : ByteArray) (k : Nat) : Int := if h : k < s.size then ((s[k]'h).toNat : Int) else 0
theorem byteAt_in {s : ByteArray} {k : Nat} (h : k < s.size) : byteAt s k = ((s[k]'h).toNat : Int) := by unfold byteAt; rw [dif_pos h]
theorem byteAt_bd (s : ByteArray) (k : Nat) : 0 ≤ byteAt s k ∧ byteAt s k ≤ 255 := by
  unfold byteAt
  split
  · rename_i h
    have := (s[k]'h).toNat_lt
    omega
  · omega
def nmB (s : ByteArray) (k : Nat) : Bool := inR (byteAt s k) 97 122 || (decide (0 < k) && inR (byteAt s k) 48 57)
def okName (s : ByteArray) : Bool := decide (1 ≤ s.size) && (decide (s.size ≤ 10) && allB s.size (nmB s))
theorem few_c (n m : Int) (w : World) (_h0 : 0 ≤ n) (_h1 : n ≤ 9223372036854775807) :
    Calls Tryd.prog 52 #[.int .i64 n, .int .i64 m] w fun e w' => e = .returned (.bool (decide (n ≤ m))) ∧ w = w' := by
  go_enter Tryd.func52, Tryd.ntmps52
  go_wp2
  go_ret
  exact ⟨rfl, rfl⟩
set_option maxHeartbeats 400000 in
theorem isDigit_c (c : Int) (v : Bool) (hv : inR c 48 57 = v) (w : World) :
    Calls Tryd.prog 90 #[.int .u8 c] w fun e w' => e = .returned (.bool v) ∧ w = w' := by
  subst hv
  go_enter Tryd.func90, Tryd.ntmps90
  go_wp2
  all_goals
    go_ret
    first
      | exact ⟨ret_bool (inR_no (by omega)).symm, rfl⟩
      | exact ⟨ret_bool (inR_left (by assumption)).symm, rfl⟩
set_option maxHeartbeats 400000 in
theorem l01Small_c (c : Int) (v : Bool) (hv : inR c 97 122 = v) (w : World) :
    Calls Tryd.prog 89 #[.int .u8 c] w fun e w' => e = .returned (.bool v) ∧ w = w' := by
  subst hv
  go_enter Tryd.func89, Tryd.ntmps89
  go_wp2
  all_goals
    go_ret
    first
      | exact ⟨ret_bool (inR_no (by omega)).symm, rfl⟩
      | exact ⟨ret_bool (inR_left (by assumption)).symm, rfl⟩
set_option maxHeartbeats 400000 in
theorem l01Digit_c (c : Int) (v : Bool) (hv : inR c 48 57 = v) (w : World) :
    Calls Tryd.prog 82 #[.int .u8 c] w fun e w' => e = .returned (.bool v) ∧ w = w' := by
  subst hv
  go_enter Tryd.func82, Tryd.ntmps82
  go_wp2
  all_goals
    go_ret
    first
      | exact ⟨ret_bool (inR_no (by omega)).symm, rfl⟩
      | exact ⟨ret_bool (inR_left (by assumption)).symm, rfl⟩
theorem not_name_first {s : ByteArray} (h : 0 < s.size) (h0 : inR (byteAt s 0) 97 122 = false) : okName s = false := by
  unfold okName
  rw [allB_no h (by unfold nmB; rw [h0]; rfl)]
  simp
set_option maxHeartbeats 2000000 in
theorem l01Name_c (s : ByteArray) (hs : s.size ≤ maxLen) (w : World) :
    Calls Tryd.prog 64 #[.string s] w fun e w' => e = .returned (.bool (okName s)) ∧ w = w' := by
  unfold maxLen at hs
  by_cases h0 : s.size = 0
  · have he : s.toList = [] := by
      have : s.data.toList.length = 0 := by simpa using h0
      rw [ByteArray.toList_eq]
      exact List.eq_nil_of_length_eq_zero this
    have HO := Lib.hid (show okName s = false by unfold okName; rw [decide_eq_false (by omega)]; rfl)
    clear h0
    go_enter Tryd.func64, Tryd.ntmps64
    go_wp2
    go_ret
    exact ⟨ret_bool HO.out.symm, rfl⟩
  · have he : s.toList.isEmpty = false := by
      rw [ByteArray.toList_eq]
      cases hl : s.data.toList with
      | nil => exfalso; apply h0; have : s.data.toList.length = 0 := by rw [hl]; rfl
               simpa using this
      | cons a l => rfl
    have hpos : 0 < s.size := by omega
    have hz : (s.size : Int) ≥ 1 := by omega
    clear h0
    by_cases h10 : (s.size : Int) ≤ 10
    · have e0 := byteAt_in hpos
      cases v0 : inR (byteAt s 0) 97 122
      · have HO := Lib.hid (not_name_first hpos v0)
        rw [e0] at v0
        have HV := Lib.hid v0
        clear v0 e0
        go_enter Tryd.func64, Tryd.ntmps64
        go_wp2_with (go_at_call 89; refine (l01Small_c _ _ HV.out _).mono ?_; rintro e w' ⟨rfl, rfl⟩)
        go_ret
        exact ⟨ret_bool HO.out.symm, rfl⟩
      · have HF := Lib.hid v0
        rw [e0] at v0
        have HV := Lib.hid v0
        clear v0 e0
        go_enter Tryd.func64, Tryd.ntmps64
        go_wp2_with (go_at_call 89; refine (l01Small_c _ _ HV.out _).mono ?_; rintro e w' ⟨rfl, rfl⟩)
        go_loop [3] (fun i => ∃ k : Nat, k ≤ s.size ∧ i = .int .i64 k ∧ Hid (∀ i, i < k → nmB s i = true)) (fun i => s.size - (intOf i).toNat)
        case atStart => exact ⟨0, by omega, rfl, Lib.hid (fun i hi => by omega)⟩
        case round =>
          obtain ⟨k, hk, rfl, hall⟩ := hrel
          by_cases hlt : k < s.size
          · have e0 := byteAt_in hlt
            cases v1 : inR (byteAt s k) 97 122 <;> cases v2 : inR (byteAt s k) 48 57
            all_goals
              have HN : Hid (nmB s k = _) := Lib.hid (show nmB s k = (inR (byteAt s k) 97 122 || (decide (0 < k) && inR (byteAt s k) 48 57)) from rfl)
              have HF1 := Lib.hid v1
              have HF2 := Lib.hid v2
              rw [e0] at v1 v2
              have HV1 := Lib.hid v1
              have HV2 := Lib.hid v2
              have HE := Lib.hid e0
              clear v1 v2 e0
              go_wp2_with (first
                | (go_at_call 89; refine (l01Small_c _ _ HV1.out _).mono ?_; rintro e w' ⟨rfl, rfl⟩)
                | (go_at_call 82; refine (l01Digit_c _ _ HV2.out _).mono ?_; rintro e w' ⟨rfl, rfl⟩))
              first
                | (go_ret
                   exact ⟨ret_bool (by unfold okName; rw [allB_no hlt (by rw [HN.out, HF1.out, HF2.out]; simp)]; simp), rfl⟩)
                | (go_round
                   case rel => exact ⟨k + 1, by omega, by go_num, Lib.hid (fun i hi => by
                     by_cases e : i = k
                     · rw [e, HN.out, HF1.out, HF2.out]
                       first
                         | rfl
                         | (have : 0 < k := by
                              rcases Nat.eq_zero_or_pos k with h | h
                              · exfalso; rw [h] at HF1; rw [HF1.out] at HF; cases HF.out
                              · exact h
                            rw [decide_eq_true this]; rfl)
                     · exact hall.out i (by omega))⟩
                   case measure => simp [intOf]; omega)
          · obtain rfl : k = s.size := by omega
            go_wp2
            go_ret
            exact ⟨ret_bool (by unfold okName; rw [allB_yes hall.out, decide_eq_true (by omega : 1 ≤ s.size), decide_eq_true (by omega : s.size ≤ 10)]; rfl), rfl⟩
    · have HO := Lib.hid (show okName s = false by unfold okName; rw [decide_eq_false (by omega : ¬ s.size ≤ 10)]; simp)
      go_enter Tryd.func64, Tryd.ntmps64
      go_wp2
      go_ret
      exact ⟨ret_bool HO.out.symm, rfl⟩
set_option maxHeartbeats 4000000 in
theorem isName_c (s : ByteArray) (hs : s.size ≤ maxLen) (w : World) :
    Calls Tryd.prog 69 #[.string s] w fun e w' => e = .returned (.bool (okName s)) ∧ w = w' := by
  unfold maxLen at hs
  go_enter Tryd.func69, Tryd.ntmps69
  go_wp2
  go_loop [3] (fun i => ∃ k : Nat, k ≤ s.size ∧ i = .int .i64 k ∧ Hid (∀ i, i < k → nmB s i = true)) (fun i => s.size - (intOf i).toNat)
  case atStart => exact ⟨0, by omega, rfl, Lib.hid (fun i hi => by omega)⟩
  case round =>
    obtain ⟨k, hk, rfl, hall⟩ := hrel
    by_cases hlt : k < s.size
    · have HN : nmB s k = ((decide ((97 : Int) ≤ (s[k].toNat : Int)) && decide ((s[k].toNat : Int) ≤ 122)) || (decide (0 < k) && inR (s[k].toNat : Int) 48 57)) := by
        unfold nmB
        rw [byteAt_in hlt]
        rfl
      have hk2 : (((k : Int) == 0) = true ∧ decide (0 < k) = false) ∨ (((k : Int) == 0) = false ∧ decide (0 < k) = true) := by
        rcases Nat.eq_zero_or_pos k with h | h
        · left; subst h; exact ⟨rfl, rfl⟩
        · right; exact ⟨by simp; omega, by simpa using h⟩
      rcases hk2 with ⟨k0, k1⟩ | ⟨k0, k1⟩ <;> cases a1 : decide ((97 : Int) ≤ (s[k].toNat : Int)) <;> cases a2 : decide ((s[k].toNat : Int) ≤ 122) <;> cases a3 : inR (s[k].toNat : Int) 48 57
      all_goals
        rw [k1, a1, a2, a3] at HN
        have HV := Lib.hid a3
        have HN := Lib.hid HN
        clear a3 k1
        go_wp2_with (go_at_call 90; refine (isDigit_c _ _ HV.out _).mono ?_; rintro e w' ⟨rfl, rfl⟩)
        first
          | (go_ret
             exact ⟨ret_bool (by unfold okName; rw [allB_no hlt (by rw [HN.out]; rfl)]; simp), rfl⟩)
          | (go_round
             case rel => exact ⟨k + 1, by omega, by go_num, Lib.hid (fun i hi => by
               by_cases e : i = k
               · rw [e, HN.out]; rfl
               · exact hall.out i (by omega))⟩
             case measure => simp [intOf]; omega)
    · obtain rfl : k = s.size := by omega
      have HA := Lib.hid (allB_yes hall.out)
      clear hall
      by_cases h0 : s.size = 0
      · have he : s.toList = [] := by
          have : s.data.toList.length = 0 := by simpa using h0
          rw [ByteArray.toList_eq]
          exact List.eq_nil_of_length_eq_zero this
        have HO := Lib.hid (show okName s = false by unfold okName; rw [decide_eq_false (by omega)]; rfl)
        clear h0
        go_wp2
        go_ret
        exact ⟨ret_bool HO.out.symm, rfl⟩
      · have he : s.toList.isEmpty = false := by
          rw [ByteArray.toList_eq]
          cases hl : s.data.toList with
          | nil => exfalso; apply h0; have : s.data.toList.length = 0 := by rw [hl]; rfl
                   simpa using this
          | cons a l => rfl
        have he2 : (!s.toList.isEmpty) = true := by rw [he]; rfl
        have HO := Lib.hid (show okName s = decide ((s.size : Int) ≤ 10) by
          unfold okName
          rw [HA.out, decide_eq_true (by omega : 1 ≤ s.size), Bool.and_true, Bool.true_and]
          by_cases h : s.size ≤ 10
          · rw [decide_eq_true h, decide_eq_true (by omega : (s.size : Int) ≤ 10)]
          · rw [decide_eq_false h, decide_eq_false (by omega : ¬ (s.size : Int) ≤ 10)])
        clear h0
        go_wp2_with (go_at_call 52; refine (few_c _ _ _ (by omega) (by omega)).mono ?_; rintro e w' ⟨rfl, rfl⟩)
        go_ret
        exact ⟨ret_bool HO.out.symm, rfl⟩
end Go.Proofs.YtimfpnmcdicldaaDoor
