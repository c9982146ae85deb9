/- append onto []int. -/
import Derived.Test.YtmcnfhpjjmbdmaaWSl
namespace Go.Proofs.Ytmcnfhpjjmbdmaa

open Go.RowKit

theorem inf_int : (Try.prog.info? 3).map (fun i => (i.zero, i.size, i.bytes)) = some (some (.int .i64 0), 1, 8) := by kernel_rfl
end Go.Proofs.Ytmcnfhpjjmbdmaa
