/- Seconds as text, on both sides. -/
import Derived.Test.YtimfpnmcdicldaaDoorDec
import Derived.Test.YtimfpnmcdicldaaDoorQPlan
namespace Go.Proofs.YtimfpnmcdicldaaDoor
open Go Go.RowKit Go.Shelf
theorem dec_zero : dec 0 = (⟨#[48]⟩ : ByteArray) := by kernel_rfl
set_option maxHeartbeats 1000000 in
theorem l01Dec_zero (w : World) : Calls Tryd.prog 56 #[.int .i64 0] w fun e w' => e = .returned (.string (dec 0)) ∧ Below w.heap.size w w' := by
  rw [dec_zero]
  go_enter Tryd.func56, Tryd.ntmps56
  go_wp2
  go_ret
  exact ⟨rfl, Below.refl _ _⟩
theorem l01Dec_nn (n : Int) (h0 : 0 ≤ n) (h1 : n ≤ 1000000000000000000) (w : World) : Calls Tryd.prog 56 #[.int .i64 n] w fun e w' => e = .returned (.string (dec n)) ∧ Below w.heap.size w w' := by
  obtain ⟨N, rfl⟩ := Int.eq_ofNat_of_zero_le h0
  rcases Nat.eq_zero_or_pos N with h | h
  · subst h; exact l01Dec_zero w
  · exact l01Dec_pos N h (by omega) w
/-- Tenths of a second as seconds. -/
def secT (p : Int) : ByteArray := if p % 10 = 0 then dec (p / 10) else dec (p / 10) ++ (⟨#[46]⟩ : ByteArray) ++ dec (p % 10)
theorem nDig_le : ∀ (k u : Nat), u < 10 ^ (k + 1) → Lib.nDigits u ≤ k + 1
  | 0, u, h => by rw [Lib.nDigits_small (by omega)]; omega
  | k + 1, u, h => by
    rw [Lib.nDigits]
    split
    · omega
    · have : u / 10 < 10 ^ (k + 1) := by
        rw [Nat.pow_succ] at h
        omega
      have := nDig_le k (u / 10) this
      omega
theorem dec_small {n : Int} (h0 : 0 ≤ n) (h1 : n ≤ 1000000000000000000) : (dec n).size ≤ 20 := by
  show (Lib.itoa n).toArray.size ≤ 20
  rw [List.size_toArray]
  unfold Lib.itoa
  rw [if_neg (by omega), Lib.decDigits_length]
  exact nDig_le 19 n.toNat (by omega)
set_option maxHeartbeats 1000000 in
theorem l05Seconds_c (p : Int) (h0 : 0 ≤ p) (h1 : p ≤ 1000000) (w : World) : Calls Tryd.prog 58 #[.int .i64 p] w fun e w' => e = .returned (.string (secT p ++ (⟨#[115]⟩ : ByteArray))) ∧ Below w.heap.size w w' := by
  have s1 := dec_small (n := p / 10) (by omega) (by omega)
  have s2 := dec_small (n := p % 10) (by omega) (by omega)
  have H1 := Lib.hid (fun W => l01Dec_nn (p / 10) (by omega) (by omega) W)
  have H2 := Lib.hid (fun W => l01Dec_nn (p % 10) (by omega) (by omega) W)
  have hX := Lib.hid (show secT p = if p % 10 = 0 then dec (p / 10) else dec (p / 10) ++ (⟨#[46]⟩ : ByteArray) ++ dec (p % 10) from rfl)
  generalize secT p = X at *
  generalize dec (p / 10) = a at *
  generalize dec (p % 10) = b at *
  by_cases hz : p % 10 = 0
  · obtain rfl := hX.out.trans (if_pos hz)
    clear hX
    go_enter Tryd.func58, Tryd.ntmps58
    go_wp2_with (go_at_call 56; refine (Aft.first (H1.out _)).mono ?_; rintro e _ ⟨rfl, x1, rfl⟩)
    go_ret
    exact ⟨rfl, x1.below⟩
  · obtain rfl := hX.out.trans (if_neg hz)
    clear hX
    go_enter Tryd.func58, Tryd.ntmps58
    go_wp2_with fail
    refine (Aft.first (H1.out _)).mono ?_
    rintro e _ ⟨rfl, x1, rfl⟩
    go_wp2_with fail
    refine (Aft.call (H2.out x1.w1)).mono ?_
    rintro e _ ⟨rfl, x2, rfl⟩
    go_wp2
    go_ret
    exact ⟨rfl, x2.below⟩
set_option maxHeartbeats 1000000 in
theorem secondsText_c (p : Int) (h0 : 0 ≤ p) (h1 : p ≤ 1000000) (w : World) (hT : Pows w) : Calls Tryd.prog 40 #[.int .i64 p] w fun e w' => e = .returned (.string (secT p)) ∧ Below w.heap.size w w' := by
  have s1 := dec_small (n := p / 10) (by omega) (by omega)
  have s2 := dec_small (n := p % 10) (by omega) (by omega)
  have H1 := Lib.hid (fun W h => decimal_c (p / 10) (by omega) (by omega) W h)
  have H2 := Lib.hid (fun W h => decimal_c (p % 10) (by omega) (by omega) W h)
  have hX := Lib.hid (show secT p = if p % 10 = 0 then dec (p / 10) else dec (p / 10) ++ (⟨#[46]⟩ : ByteArray) ++ dec (p % 10) from rfl)
  have HT := Lib.hid hT
  clear hT
  generalize secT p = X at *
  generalize dec (p / 10) = a at *
  generalize dec (p % 10) = b at *
  by_cases hz : p % 10 = 0
  · obtain rfl := hX.out.trans (if_pos hz)
    clear hX
    go_enter Tryd.func40, Tryd.ntmps40
    go_wp2_with fail
    refine (Aft.first (H1.out _ HT.out)).mono ?_
    rintro e _ ⟨rfl, x1, rfl⟩
    go_wp2
    go_ret
    exact ⟨rfl, x1.below⟩
  · obtain rfl := hX.out.trans (if_neg hz)
    clear hX
    go_enter Tryd.func40, Tryd.ntmps40
    go_wp2_with fail
    refine (Aft.first (H1.out _ HT.out)).mono ?_
    rintro e _ ⟨rfl, x1, rfl⟩
    go_wp2_with fail
    refine (Aft.call (H2.out x1.w1 (HT.out.below x1.below))).mono ?_
    rintro e _ ⟨rfl, x2, rfl⟩
    go_wp2
    go_ret
    exact ⟨rfl, x2.below⟩
end Go.Proofs.YtimfpnmcdicldaaDoor
