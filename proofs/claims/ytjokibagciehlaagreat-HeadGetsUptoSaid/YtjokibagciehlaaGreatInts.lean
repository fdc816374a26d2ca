/- SameInts, CopyInts, LendInts, KeptInts, SpoilInts. -/
import Derived.Test.YtjokibagciehlaaGreatStr
import Derived.Test.YtjokibagciehlaaGreatAppend
import Derived.Test.YtjokibagciehlaaGreatTouch
namespace Go.Proofs.YtjokibagciehlaaGreat
open Go.RowKit
set_option linter.unusedVariables false
set_option linter.unusedSimpArgs false

theorem int_info : (Tryz.prog.info? 3).map (fun i => (i.zero, i.size, i.bytes)) = some (some (.int .i64 0), 1, 8) := by kernel_rfl
def sameB (n m : Nat) (z y : Nat → Int) : Bool := decide (n = m ∧ ∀ k, k < n → z k = y k)

end Go.Proofs.YtjokibagciehlaaGreat
