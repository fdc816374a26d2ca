/- The document's MayPps and MaySps. -/
import Derived.Test.YtjokibagciehlaaParC
import Derived.Test.YtjokibagciehlaaInts
namespace Go.Proofs.Ytjokibagciehlaa
open Go.RowKit
set_option linter.unusedVariables false
set_option linter.unusedSimpArgs false

end Go.Proofs.Ytjokibagciehlaa
