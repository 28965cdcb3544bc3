/- The program's QuadrantOf and ArcOf answer as the reference's, for all arguments. -/
import Derived.Test.YtfmljppofkocmaaFog
namespace Go.Proofs.Ytfmljppofkocmaa
open Go.RowKit
set_option linter.unusedVariables false
set_option maxHeartbeats 1000000 in
theorem isBearing_c (n : Int) (w : World) :
    Calls Try.prog 87 #[.int .i64 n] w fun e w' => e = .returned (.bool (inR n 0 359)) ∧ w = w' := by
  go_enter Try.func87, Try.ntmps87
  go_wp2_with (go_at_call 85; refine (within_c _ _ _ _).mono ?_; rintro e w' ⟨rfl, rfl⟩)
  go_ret
  exact ⟨rfl, rfl⟩
end Go.Proofs.Ytfmljppofkocmaa
