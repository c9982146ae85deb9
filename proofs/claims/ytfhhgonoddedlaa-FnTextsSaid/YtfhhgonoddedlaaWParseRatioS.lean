/- ParseRatio of spec. No condition. -/
import Derived.Test.YtfhhgonoddedlaaWParseRatio
namespace Go.Proofs.Ytfhhgonoddedlaa
set_option maxRecDepth 100000
open Go.ChangeShapes Go.WideShapes Go.ChangeAt Go.RowKit Go.Joins

end Go.Proofs.Ytfhhgonoddedlaa
