/- l01In. -/
import Derived.Test.YtagiecajffhnpaaGreatWBase
namespace Go.Proofs.YtagiecajffhnpaaGreat

open Go.RowKit

end Go.Proofs.YtagiecajffhnpaaGreat
