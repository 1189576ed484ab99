/- Closed facts of this translation. No condition. -/
import Derived.Test.YtjfppjhlkeopnaaRows
import Derived.Test.YtjfppjhlkeopnaaMem
namespace Go.Proofs.Ytjfppjhlkeopnaa
open Go.RowKit
theorem own : ownKnob Try.prog.godebug = none := by kernel_rfl
theorem laidOut : laidOutB Try.prog = true := by kernel_rfl
theorem int_info : (Try.prog.info? 3).map (fun i => (i.zero, i.size, i.bytes)) = some (some (.int .i64 0), 1, 8) := by kernel_rfl
end Go.Proofs.Ytjfppjhlkeopnaa
