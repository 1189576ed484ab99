/- What the laws' walks need besides. No condition. -/
import Derived.Test.YtdbpgfbbkejljaaFix
import Derived.Deep.RegionHeld3
import Derived.Outline
namespace Go.Proofs.Ytdbpgfbbkejljaa
end Go.Proofs.Ytdbpgfbbkejljaa
