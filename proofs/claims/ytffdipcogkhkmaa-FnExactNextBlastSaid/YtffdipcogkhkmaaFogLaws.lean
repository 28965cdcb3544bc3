/- The program's ValidFog, BlastLength and LeastFogPeriod answer as the reference's, for all arguments. -/
import Derived.Test.YtffdipcogkhkmaaFog
namespace Go.Proofs.Ytffdipcogkhkmaa
open Go.RowKit
set_option linter.unusedVariables false
set_option maxHeartbeats 1000000 in
theorem toFogSignal_c (k b p pw : Int) (w : World) :
    Calls Try.prog 37 #[.agg #[.int .i64 k, .int .i64 b, .int .i64 p, .int .i64 pw]] w fun e w' => e = .returned (.agg #[.int .i64 k, .int .i64 b, .int .i64 p, .int .i64 pw]) ∧ Below w.heap.size w w' := by
  go_enter Try.func37, Try.ntmps37
  go_wp2
  refine bodyPost_ret (v := .agg #[.int .i64 k, .int .i64 b, .int .i64 p, .int .i64 pw]) (by simp [results, Try.results37, go_sem]) rfl ⟨rfl, (by repeat (first | exact Below.refl _ _ | refine Below.alloc ?_ (by simp; try omega) _ | refine Below.drew ?_))⟩
end Go.Proofs.Ytffdipcogkhkmaa
