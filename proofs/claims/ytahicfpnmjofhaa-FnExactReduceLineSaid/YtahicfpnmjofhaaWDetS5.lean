/- l04Det of the reference, up to five rows. No condition. -/
import Derived.Test.YtahicfpnmjofhaaWDetS
import Derived.Test.YtahicfpnmjofhaaPlDet5
namespace Go.Proofs.Ytahicfpnmjofhaa
set_option maxRecDepth 100000
open Go.ChangeShapes Go.WideShapes Go.ChangeAt Go.RowKit Go.Joins

end Go.Proofs.Ytahicfpnmjofhaa
