/- Closed facts of this translation. No condition. -/
import Derived.Test.YtpbcbdjjpkenjaaGreatRows
import Derived.Test.YtpbcbdjjpkenjaaGreatMem
namespace Go.Proofs.YtpbcbdjjpkenjaaGreat
open Go.RowKit
theorem own : ownKnob Tryz.prog.godebug = none := by kernel_rfl
theorem laidOut : laidOutB Tryz.prog = true := by kernel_rfl
theorem int_info : (Tryz.prog.info? 3).map (fun i => (i.zero, i.size, i.bytes)) = some (some (.int .i64 0), 1, 8) := by kernel_rfl
end Go.Proofs.YtpbcbdjjpkenjaaGreat
