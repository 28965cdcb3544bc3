/- slices.Reverse at points; the program's ReverseChannel. -/
import Derived.Test.YtimfpnmcdicldaaRev
import Derived.BigRegion
namespace Go.Proofs.Ytimfpnmcdicldaa
open Go Go.RowKit
end Go.Proofs.Ytimfpnmcdicldaa
