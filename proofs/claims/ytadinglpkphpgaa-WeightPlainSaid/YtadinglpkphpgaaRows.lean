/-
  No cell of these rows narrows 'for every input' (looked for: loops, veiled, ifaces, maps, wideKeys, modest, calm, conditions, laid).
  DERIVED. THE GIVEN ROWS OF THIS SEAT. 5 by the template 'for every input the law returns true; each argument reads behind the call as it read before'; 0 by the template 'total and deterministic' (their statements: YtadinglpkphpgaaTotals.lean).
  GIVEN WITH THE SEED: the statements are not yours to turn. If you find one false, say at which input.
  Laid BY PROGRAM, IN A SANDBOX (cutbox-rows.mjs): the forced cells as the released guide's own fill.sh prints them over the translation 0e9de68fa6f25592… (all of the seat's roots in one cut). By AI agents, Wed Nov 11 2026. No macro, syntax, notation, axiom, sorry.
-/
import Derived.Test.YtadinglpkphpgaaChecked
import GoSem.Claim
import GoSem.ClaimJoined
import GoSem.ClaimMapViews
import Derived.JoinedTies
import Derived.KernelRfl
namespace Go.Proofs.Ytadinglpkphpgaa
/- THE CELL 'sum', in the pinned program and in every row, IS THE sha256 OF THE DUMP (.gsa) THAT YtadinglpkphpgaaProg.lean LOADS. Nothing in Lean hashes anything: it is a label: what it is worth is what the hold of that sum in a sandbox is worth. -/
noncomputable def Try.pinned : Pinned := { name := "ytadinglpkphpgaa", sum := "0e9de68fa6f255929c57c1d2371441e73c7bf675f5f1ece324e294e6fbaa3d9d", checked := Try.checked }
namespace Rows
def none {H : Type} : Left H := { results := [], args := [] }

/-- 'zoetropelaw13.Weights': WHATEVER THE INPUT: true; the input reads as it did. -/
def weightsSpec : ChangeSpec := { name := "weights", fn := fun _ => fun
  | [d1, d2, d3, d4, d5, d6] => { results := [.lit (.bool true)], args := [d1, d2, d3, d4, d5, d6] }
  | _ => none }
def weightsRow : OpenClaim := { program := "ytadinglpkphpgaa", sum := "0e9de68fa6f255929c57c1d2371441e73c7bf675f5f1ece324e294e6fbaa3d9d", func := "zoetrope/zoetropelaw13.Weights", spec := "weights", unfollowed := true, recurses := true, apart := false }
def WeightsSaid : Prop := weightsRow.holds Try.pinned (OpenSpec.ofChange weightsSpec)

/-- ITS FALSE NEIGHBOUR: 'it returns false'. Refute it at one input. -/
def weightsWrong : ChangeSpec := { name := "weights", fn := fun _ => fun
  | [d1, d2, d3, d4, d5, d6] => { results := [.lit (.bool false)], args := [d1, d2, d3, d4, d5, d6] }
  | _ => none }
def WeightsWrongFalsely : Prop := weightsRow.holds Try.pinned (OpenSpec.ofChange weightsWrong)

/-- 'zoetropelaw13.WeightImplicits': WHATEVER THE INPUT: true; the input reads as it did. -/
def weightImplicitsSpec : ChangeSpec := { name := "weightImplicits", fn := fun _ => fun
  | [d1, d2, d3, d4] => { results := [.lit (.bool true)], args := [d1, d2, d3, d4] }
  | _ => none }
def weightImplicitsRow : OpenClaim := { program := "ytadinglpkphpgaa", sum := "0e9de68fa6f255929c57c1d2371441e73c7bf675f5f1ece324e294e6fbaa3d9d", func := "zoetrope/zoetropelaw13.WeightImplicits", spec := "weightImplicits", unfollowed := true, recurses := true, apart := false }
def WeightImplicitsSaid : Prop := weightImplicitsRow.holds Try.pinned (OpenSpec.ofChange weightImplicitsSpec)

/-- ITS FALSE NEIGHBOUR: 'it returns false'. Refute it at one input. -/
def weightImplicitsWrong : ChangeSpec := { name := "weightImplicits", fn := fun _ => fun
  | [d1, d2, d3, d4] => { results := [.lit (.bool false)], args := [d1, d2, d3, d4] }
  | _ => none }
def WeightImplicitsWrongFalsely : Prop := weightImplicitsRow.holds Try.pinned (OpenSpec.ofChange weightImplicitsWrong)

/-- 'zoetropelaw13.WeightPlain': WHATEVER THE INPUT: true; the input reads as it did. -/
def weightPlainSpec : ChangeSpec := { name := "weightPlain", fn := fun _ => fun
  | [d1, d2, d3] => { results := [.lit (.bool true)], args := [d1, d2, d3] }
  | _ => none }
def weightPlainRow : OpenClaim := { program := "ytadinglpkphpgaa", sum := "0e9de68fa6f255929c57c1d2371441e73c7bf675f5f1ece324e294e6fbaa3d9d", func := "zoetrope/zoetropelaw13.WeightPlain", spec := "weightPlain", unfollowed := true, recurses := true, apart := false }
def WeightPlainSaid : Prop := weightPlainRow.holds Try.pinned (OpenSpec.ofChange weightPlainSpec)

/-- ITS FALSE NEIGHBOUR: 'it returns false'. Refute it at one input. -/
def weightPlainWrong : ChangeSpec := { name := "weightPlain", fn := fun _ => fun
  | [d1, d2, d3] => { results := [.lit (.bool false)], args := [d1, d2, d3] }
  | _ => none }
def WeightPlainWrongFalsely : Prop := weightPlainRow.holds Try.pinned (OpenSpec.ofChange weightPlainWrong)

/-- 'zoetropelaw13.WeightOffsets': WHATEVER THE INPUT: true; the input reads as it did. -/
def weightOffsetsSpec : ChangeSpec := { name := "weightOffsets", fn := fun _ => fun
  | [d1, d2, d3] => { results := [.lit (.bool true)], args := [d1, d2, d3] }
  | _ => none }
def weightOffsetsRow : OpenClaim := { program := "ytadinglpkphpgaa", sum := "0e9de68fa6f255929c57c1d2371441e73c7bf675f5f1ece324e294e6fbaa3d9d", func := "zoetrope/zoetropelaw13.WeightOffsets", spec := "weightOffsets", unfollowed := true, recurses := true, apart := false }
def WeightOffsetsSaid : Prop := weightOffsetsRow.holds Try.pinned (OpenSpec.ofChange weightOffsetsSpec)

/-- ITS FALSE NEIGHBOUR: 'it returns false'. Refute it at one input. -/
def weightOffsetsWrong : ChangeSpec := { name := "weightOffsets", fn := fun _ => fun
  | [d1, d2, d3] => { results := [.lit (.bool false)], args := [d1, d2, d3] }
  | _ => none }
def WeightOffsetsWrongFalsely : Prop := weightOffsetsRow.holds Try.pinned (OpenSpec.ofChange weightOffsetsWrong)

/-- 'zoetropelaw13.WeightRanges': WHATEVER THE INPUT: true; the input reads as it did. -/
def weightRangesSpec : ChangeSpec := { name := "weightRanges", fn := fun _ => fun
  | [d1, d2, d3, d4] => { results := [.lit (.bool true)], args := [d1, d2, d3, d4] }
  | _ => none }
def weightRangesRow : OpenClaim := { program := "ytadinglpkphpgaa", sum := "0e9de68fa6f255929c57c1d2371441e73c7bf675f5f1ece324e294e6fbaa3d9d", func := "zoetrope/zoetropelaw13.WeightRanges", spec := "weightRanges", unfollowed := true, recurses := true, apart := false }
def WeightRangesSaid : Prop := weightRangesRow.holds Try.pinned (OpenSpec.ofChange weightRangesSpec)

/-- ITS FALSE NEIGHBOUR: 'it returns false'. Refute it at one input. -/
def weightRangesWrong : ChangeSpec := { name := "weightRanges", fn := fun _ => fun
  | [d1, d2, d3, d4] => { results := [.lit (.bool false)], args := [d1, d2, d3, d4] }
  | _ => none }
def WeightRangesWrongFalsely : Prop := weightRangesRow.holds Try.pinned (OpenSpec.ofChange weightRangesWrong)

/- THE SECOND FORM. 'bulk': how many values and letters a reading holds, each counted each time it is reached (what is shared counts as often as it is met; a slice's spare places count too). A statement '..UptoSaid' is the law's where the arguments, and the package variables that the reading takes, are together of bulk at most 1048576: NARROWER than '..Said'. Prove '..Said' where nothing that the law and all that it calls make is longer than what came in: it says more and counts as full. Else prove '..UptoSaid'. A law counts once. -/
mutual
def uptoBulk {H : Type} : DataW H → Nat
  | .lit (.string bytes) => bytes.length + 1
  | .lit _ => 1
  | .nil => 1
  | .ptr d => uptoBulk d + 1
  | .slice elems spare => uptoBulkAll elems + uptoBulkAll spare + 1
  | .agg parts => uptoBulkAll parts + 1
  | .iface _ d => uptoBulk d + 1
  | .map entries => uptoBulkEntries entries + 1
  | .held _ => 1
def uptoBulkAll {H : Type} : List (DataW H) → Nat
  | [] => 0
  | d :: r => uptoBulk d + uptoBulkAll r
def uptoBulkEntries {H : Type} : List (Lit × DataW H) → Nat
  | [] => 0
  | x :: r => uptoBulkEntry x + uptoBulkEntries r
def uptoBulkEntry {H : Type} : Lit × DataW H → Nat
  | (.string bytes, d) => bytes.length + uptoBulk d + 1
  | (_, d) => uptoBulk d + 1
 end
def uptoSmall : (H : Type) → List (DataW H) → Bool := fun _ ds => decide (uptoBulkAll ds ≤ 1048576)
def OpenSpec.upto (s : _root_.Go.ChangeSpec) : _root_.Go.OpenSpec := { _root_.Go.OpenSpec.ofChange s with cond := some uptoSmall }

/-- 'zoetropelaw13.Weights', WHERE WHAT IT READS IS OF BULK AT MOST 1048576: true; the input reads as it did. -/
def weightsUptoRow : OpenClaim := { program := "ytadinglpkphpgaa", sum := "0e9de68fa6f255929c57c1d2371441e73c7bf675f5f1ece324e294e6fbaa3d9d", func := "zoetrope/zoetropelaw13.Weights", spec := "weights", unfollowed := true, recurses := true, apart := false, narrowed := true }
def WeightsUptoSaid : Prop := weightsUptoRow.holds Try.pinned (OpenSpec.upto weightsSpec)

/-- 'zoetropelaw13.WeightImplicits', WHERE WHAT IT READS IS OF BULK AT MOST 1048576: true; the input reads as it did. -/
def weightImplicitsUptoRow : OpenClaim := { program := "ytadinglpkphpgaa", sum := "0e9de68fa6f255929c57c1d2371441e73c7bf675f5f1ece324e294e6fbaa3d9d", func := "zoetrope/zoetropelaw13.WeightImplicits", spec := "weightImplicits", unfollowed := true, recurses := true, apart := false, narrowed := true }
def WeightImplicitsUptoSaid : Prop := weightImplicitsUptoRow.holds Try.pinned (OpenSpec.upto weightImplicitsSpec)

/-- 'zoetropelaw13.WeightPlain', WHERE WHAT IT READS IS OF BULK AT MOST 1048576: true; the input reads as it did. -/
def weightPlainUptoRow : OpenClaim := { program := "ytadinglpkphpgaa", sum := "0e9de68fa6f255929c57c1d2371441e73c7bf675f5f1ece324e294e6fbaa3d9d", func := "zoetrope/zoetropelaw13.WeightPlain", spec := "weightPlain", unfollowed := true, recurses := true, apart := false, narrowed := true }
def WeightPlainUptoSaid : Prop := weightPlainUptoRow.holds Try.pinned (OpenSpec.upto weightPlainSpec)

/-- 'zoetropelaw13.WeightOffsets', WHERE WHAT IT READS IS OF BULK AT MOST 1048576: true; the input reads as it did. -/
def weightOffsetsUptoRow : OpenClaim := { program := "ytadinglpkphpgaa", sum := "0e9de68fa6f255929c57c1d2371441e73c7bf675f5f1ece324e294e6fbaa3d9d", func := "zoetrope/zoetropelaw13.WeightOffsets", spec := "weightOffsets", unfollowed := true, recurses := true, apart := false, narrowed := true }
def WeightOffsetsUptoSaid : Prop := weightOffsetsUptoRow.holds Try.pinned (OpenSpec.upto weightOffsetsSpec)

/-- 'zoetropelaw13.WeightRanges', WHERE WHAT IT READS IS OF BULK AT MOST 1048576: true; the input reads as it did. -/
def weightRangesUptoRow : OpenClaim := { program := "ytadinglpkphpgaa", sum := "0e9de68fa6f255929c57c1d2371441e73c7bf675f5f1ece324e294e6fbaa3d9d", func := "zoetrope/zoetropelaw13.WeightRanges", spec := "weightRanges", unfollowed := true, recurses := true, apart := false, narrowed := true }
def WeightRangesUptoSaid : Prop := weightRangesUptoRow.holds Try.pinned (OpenSpec.upto weightRangesSpec)

end Rows
end Go.Proofs.Ytadinglpkphpgaa
