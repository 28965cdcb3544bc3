/- Fog signals: contracts of the small functions of the program and of the reference. -/
import Derived.Test.YtimfpnmcdicldaaBase
import Derived.Deep.RegionHeld3
import Derived.Deep.DrawnRows
import Derived.Deep.QuietTactic
import Derived.BigQuiet
namespace Go.Proofs.Ytimfpnmcdicldaa
open Go.RowKit
set_option linter.unusedVariables false
attribute [local go_sem ↓] Go.wp_at_zero Go.wp_at_succ

theorem inR_left {n lo hi : Int} (h : lo ≤ n) : inR n lo hi = decide (n ≤ hi) := by simp [inR, h]

set_option maxHeartbeats 400000 in
theorem within_c (n lo hi : Int) (w : World) :
    Calls Try.prog 48 #[.int .i64 n, .int .i64 lo, .int .i64 hi] w fun e w' => e = .returned (.bool (inR n lo hi)) ∧ w = w' := by
  go_enter Try.func48, Try.ntmps48
  go_wp2
  all_goals
    go_ret
    first
      | exact ⟨ret_bool (inR_no (by omega)).symm, rfl⟩
      | exact ⟨ret_bool (inR_left (by assumption)).symm, rfl⟩
set_option maxHeartbeats 400000 in
theorem l00In_c (n lo hi : Int) (w : World) :
    Calls Try.prog 43 #[.int .i64 n, .int .i64 lo, .int .i64 hi] w fun e w' => e = .returned (.bool (inR n lo hi)) ∧ w = w' := by
  go_enter Try.func43, Try.ntmps43
  go_wp2
  all_goals
    go_ret
    first
      | exact ⟨ret_bool (inR_no (by omega)).symm, rfl⟩
      | exact ⟨ret_bool (inR_left (by assumption)).symm, rfl⟩

theorem within_v {n lo hi : Int} {v : Bool} (h : inR n lo hi = v) (w : World) :
    Calls Try.prog 48 #[.int .i64 n, .int .i64 lo, .int .i64 hi] w fun e w' => e = .returned (.bool v) ∧ w = w' := by
  rw [← h]; exact within_c n lo hi w
theorem l00In_v {n lo hi : Int} {v : Bool} (h : inR n lo hi = v) (w : World) :
    Calls Try.prog 43 #[.int .i64 n, .int .i64 lo, .int .i64 hi] w fun e w' => e = .returned (.bool v) ∧ w = w' := by
  rw [← h]; exact l00In_c n lo hi w
/-- The length of the blasts of a kind. -/
def blastZ (k : Int) : Int := if k = 1 then 20 else if k = 2 then 40 else if k = 3 then 5 else if k = 4 then 30 else 0
theorem blastZ_bd (k : Int) : 0 ≤ blastZ k ∧ blastZ k ≤ 40 := by unfold blastZ; omega
theorem blastZ_pos {k : Int} (h : 1 ≤ k ∧ k ≤ 4) : 5 ≤ blastZ k := by unfold blastZ; omega
theorem four_cases {k : Int} (h : 1 ≤ k ∧ k ≤ 4) : k = 1 ∨ k = 2 ∨ k = 3 ∨ k = 4 := by omega
theorem least_bd {k b : Int} (hk : 1 ≤ k ∧ k ≤ 4) (hb : 1 ≤ b ∧ b ≤ 6) : 0 ≤ 2 * b * blastZ k ∧ 2 * b * blastZ k ≤ 480 := by
  rcases four_cases hk with rfl | rfl | rfl | rfl <;> simp [blastZ] <;> omega

def shapeFog (k b : Int) : Bool := inR k 1 4 && inR b 1 6
theorem shapeFog_yes {k b : Int} (h : shapeFog k b = true) : (1 ≤ k ∧ k ≤ 4) ∧ (1 ≤ b ∧ b ≤ 6) := by
  simpa [shapeFog, inR] using h
/-- A valid fog signal. -/
def okFog (k b p pw : Int) : Bool := shapeFog k b && inR p (2 * b * blastZ k) 1200 && inR pw 60 140
end Go.Proofs.Ytimfpnmcdicldaa
