/- What the laws' walks need besides. No condition. -/
import Derived.Test.YtefidlecandnlaaFix
import Derived.Deep.RegionHeld3
import Derived.Outline
namespace Go.Proofs.Ytefidlecandnlaa
end Go.Proofs.Ytefidlecandnlaa
