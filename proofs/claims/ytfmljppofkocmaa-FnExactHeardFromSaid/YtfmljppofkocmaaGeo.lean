/- The horizon and the geographic range: contracts. -/
import Derived.Test.YtfmljppofkocmaaFog
import Derived.Test.YtfmljppofkocmaaRoot
namespace Go.Proofs.Ytfmljppofkocmaa
open Go.RowKit
set_option linter.unusedVariables false
/-- The distance of the horizon. -/
def horZ (h : Int) : Int := rootI (1483790 * h)
theorem horZ_bd {h : Int} (h0 : 0 ≤ h) (h1 : h ≤ 3000) : 0 ≤ horZ h ∧ horZ h ≤ 66719 :=
  ⟨(rootI_spec (by omega)).1, rootI_le (by omega) (by omega) (by omega)⟩
theorem horZ_mono {a b : Int} (h0 : 0 ≤ a) (h : a ≤ b) : horZ a ≤ horZ b := rootI_mono (by omega) (by omega)
/-- Two numbers as a result. -/
def two (a b : Int) : Value := .tuple #[.int .i64 a, .int .i64 b]
end Go.Proofs.Ytfmljppofkocmaa
