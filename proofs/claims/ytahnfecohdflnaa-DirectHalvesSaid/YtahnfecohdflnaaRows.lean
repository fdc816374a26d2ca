/-
  No cell of these rows narrows 'for every input' (looked for: loops, veiled, ifaces, maps, wideKeys, modest, calm, conditions, laid).
  DERIVED. THE GIVEN ROWS OF THIS SEAT. 5 by the template 'for every input the law returns true; each argument reads behind the call as it read before'; 0 by the template 'total and deterministic' (their statements: YtahnfecohdflnaaTotals.lean).
  GIVEN WITH THE SEED: the statements are not yours to turn. If you find one false, say at which input.
  Laid BY PROGRAM, IN A SANDBOX (cutbox-rows.mjs): the forced cells as the released guide's own fill.sh prints them over the translation faba9bf2bedfbf76… (all of the seat's roots in one cut). By AI agents, Wed Nov 11 2026. No macro, syntax, notation, axiom, sorry.
-/
import Derived.Test.YtahnfecohdflnaaChecked
import GoSem.Claim
import GoSem.ClaimJoined
import GoSem.ClaimMapViews
import Derived.JoinedTies
import Derived.KernelRfl
namespace Go.Proofs.Ytahnfecohdflnaa
/- THE CELL 'sum', in the pinned program and in every row, IS THE sha256 OF THE DUMP (.gsa) THAT YtahnfecohdflnaaProg.lean LOADS. Nothing in Lean hashes anything: it is a label: what it is worth is what the hold of that sum in a sandbox is worth. -/
noncomputable def Try.pinned : Pinned := { name := "ytahnfecohdflnaa", sum := "faba9bf2bedfbf762ebf1d91751ea66602ca6f6a5b0792ee0f41c98e4d01b506", checked := Try.checked }
namespace Rows
def none {H : Type} : Left H := { results := [], args := [] }

/-- 'zoetropelaw15.Directs': WHATEVER THE INPUT: true; the input reads as it did. -/
def directsSpec : ChangeSpec := { name := "directs", fn := fun _ => fun
  | [d1, d2, d3, d4, d5, d6, d7] => { results := [.lit (.bool true)], args := [d1, d2, d3, d4, d5, d6, d7] }
  | _ => none }
def directsRow : OpenClaim := { program := "ytahnfecohdflnaa", sum := "faba9bf2bedfbf762ebf1d91751ea66602ca6f6a5b0792ee0f41c98e4d01b506", func := "zoetrope/zoetropelaw15.Directs", spec := "directs", unfollowed := true, recurses := true, apart := false }
def DirectsSaid : Prop := directsRow.holds Try.pinned (OpenSpec.ofChange directsSpec)

/-- ITS FALSE NEIGHBOUR: 'it returns false'. Refute it at one input. -/
def directsWrong : ChangeSpec := { name := "directs", fn := fun _ => fun
  | [d1, d2, d3, d4, d5, d6, d7] => { results := [.lit (.bool false)], args := [d1, d2, d3, d4, d5, d6, d7] }
  | _ => none }
def DirectsWrongFalsely : Prop := directsRow.holds Try.pinned (OpenSpec.ofChange directsWrong)

/-- 'zoetropelaw15.DirectHalves': WHATEVER THE INPUT: true; the input reads as it did. -/
def directHalvesSpec : ChangeSpec := { name := "directHalves", fn := fun _ => fun
  | [d1, d2] => { results := [.lit (.bool true)], args := [d1, d2] }
  | _ => none }
def directHalvesRow : OpenClaim := { program := "ytahnfecohdflnaa", sum := "faba9bf2bedfbf762ebf1d91751ea66602ca6f6a5b0792ee0f41c98e4d01b506", func := "zoetrope/zoetropelaw15.DirectHalves", spec := "directHalves", unfollowed := true, recurses := true, apart := false }
def DirectHalvesSaid : Prop := directHalvesRow.holds Try.pinned (OpenSpec.ofChange directHalvesSpec)

/-- ITS FALSE NEIGHBOUR: 'it returns false'. Refute it at one input. -/
def directHalvesWrong : ChangeSpec := { name := "directHalves", fn := fun _ => fun
  | [d1, d2] => { results := [.lit (.bool false)], args := [d1, d2] }
  | _ => none }
def DirectHalvesWrongFalsely : Prop := directHalvesRow.holds Try.pinned (OpenSpec.ofChange directHalvesWrong)

/-- 'zoetropelaw15.DirectSums': WHATEVER THE INPUT: true; the input reads as it did. -/
def directSumsSpec : ChangeSpec := { name := "directSums", fn := fun _ => fun
  | [d1, d2] => { results := [.lit (.bool true)], args := [d1, d2] }
  | _ => none }
def directSumsRow : OpenClaim := { program := "ytahnfecohdflnaa", sum := "faba9bf2bedfbf762ebf1d91751ea66602ca6f6a5b0792ee0f41c98e4d01b506", func := "zoetrope/zoetropelaw15.DirectSums", spec := "directSums", unfollowed := true, recurses := true, apart := false }
def DirectSumsSaid : Prop := directSumsRow.holds Try.pinned (OpenSpec.ofChange directSumsSpec)

/-- ITS FALSE NEIGHBOUR: 'it returns false'. Refute it at one input. -/
def directSumsWrong : ChangeSpec := { name := "directSums", fn := fun _ => fun
  | [d1, d2] => { results := [.lit (.bool false)], args := [d1, d2] }
  | _ => none }
def DirectSumsWrongFalsely : Prop := directSumsRow.holds Try.pinned (OpenSpec.ofChange directSumsWrong)

/-- 'zoetropelaw15.DirectLeast': WHATEVER THE INPUT: true; the input reads as it did. -/
def directLeastSpec : ChangeSpec := { name := "directLeast", fn := fun _ => fun
  | [d1, d2, d3] => { results := [.lit (.bool true)], args := [d1, d2, d3] }
  | _ => none }
def directLeastRow : OpenClaim := { program := "ytahnfecohdflnaa", sum := "faba9bf2bedfbf762ebf1d91751ea66602ca6f6a5b0792ee0f41c98e4d01b506", func := "zoetrope/zoetropelaw15.DirectLeast", spec := "directLeast", unfollowed := true, recurses := true, apart := false }
def DirectLeastSaid : Prop := directLeastRow.holds Try.pinned (OpenSpec.ofChange directLeastSpec)

/-- ITS FALSE NEIGHBOUR: 'it returns false'. Refute it at one input. -/
def directLeastWrong : ChangeSpec := { name := "directLeast", fn := fun _ => fun
  | [d1, d2, d3] => { results := [.lit (.bool false)], args := [d1, d2, d3] }
  | _ => none }
def DirectLeastWrongFalsely : Prop := directLeastRow.holds Try.pinned (OpenSpec.ofChange directLeastWrong)

/-- 'zoetropelaw15.DirectScales': WHATEVER THE INPUT: true; the input reads as it did. -/
def directScalesSpec : ChangeSpec := { name := "directScales", fn := fun _ => fun
  | [d1, d2, d3, d4] => { results := [.lit (.bool true)], args := [d1, d2, d3, d4] }
  | _ => none }
def directScalesRow : OpenClaim := { program := "ytahnfecohdflnaa", sum := "faba9bf2bedfbf762ebf1d91751ea66602ca6f6a5b0792ee0f41c98e4d01b506", func := "zoetrope/zoetropelaw15.DirectScales", spec := "directScales", unfollowed := true, recurses := true, apart := false }
def DirectScalesSaid : Prop := directScalesRow.holds Try.pinned (OpenSpec.ofChange directScalesSpec)

/-- ITS FALSE NEIGHBOUR: 'it returns false'. Refute it at one input. -/
def directScalesWrong : ChangeSpec := { name := "directScales", fn := fun _ => fun
  | [d1, d2, d3, d4] => { results := [.lit (.bool false)], args := [d1, d2, d3, d4] }
  | _ => none }
def DirectScalesWrongFalsely : Prop := directScalesRow.holds Try.pinned (OpenSpec.ofChange directScalesWrong)

/- THE SECOND FORM. 'bulk': how many values and letters a reading holds, each counted each time it is reached (what is shared counts as often as it is met; a slice's spare places count too). A statement '..UptoSaid' is the law's where the arguments, and the package variables that the reading takes, are together of bulk at most 1048576: NARROWER than '..Said'. Prove '..Said' where nothing that the law and all that it calls make is longer than what came in: it says more and counts as full. Else prove '..UptoSaid'. A law counts once. -/
mutual
def uptoBulk {H : Type} : DataW H → Nat
  | .lit (.string bytes) => bytes.length + 1
  | .lit _ => 1
  | .nil => 1
  | .ptr d => uptoBulk d + 1
  | .slice elems spare => uptoBulkAll elems + uptoBulkAll spare + 1
  | .agg parts => uptoBulkAll parts + 1
  | .iface _ d => uptoBulk d + 1
  | .map entries => uptoBulkEntries entries + 1
  | .held _ => 1
def uptoBulkAll {H : Type} : List (DataW H) → Nat
  | [] => 0
  | d :: r => uptoBulk d + uptoBulkAll r
def uptoBulkEntries {H : Type} : List (Lit × DataW H) → Nat
  | [] => 0
  | x :: r => uptoBulkEntry x + uptoBulkEntries r
def uptoBulkEntry {H : Type} : Lit × DataW H → Nat
  | (.string bytes, d) => bytes.length + uptoBulk d + 1
  | (_, d) => uptoBulk d + 1
 end
def uptoSmall : (H : Type) → List (DataW H) → Bool := fun _ ds => decide (uptoBulkAll ds ≤ 1048576)
def OpenSpec.upto (s : _root_.Go.ChangeSpec) : _root_.Go.OpenSpec := { _root_.Go.OpenSpec.ofChange s with cond := some uptoSmall }

/-- 'zoetropelaw15.Directs', WHERE WHAT IT READS IS OF BULK AT MOST 1048576: true; the input reads as it did. -/
def directsUptoRow : OpenClaim := { program := "ytahnfecohdflnaa", sum := "faba9bf2bedfbf762ebf1d91751ea66602ca6f6a5b0792ee0f41c98e4d01b506", func := "zoetrope/zoetropelaw15.Directs", spec := "directs", unfollowed := true, recurses := true, apart := false, narrowed := true }
def DirectsUptoSaid : Prop := directsUptoRow.holds Try.pinned (OpenSpec.upto directsSpec)

/-- 'zoetropelaw15.DirectHalves', WHERE WHAT IT READS IS OF BULK AT MOST 1048576: true; the input reads as it did. -/
def directHalvesUptoRow : OpenClaim := { program := "ytahnfecohdflnaa", sum := "faba9bf2bedfbf762ebf1d91751ea66602ca6f6a5b0792ee0f41c98e4d01b506", func := "zoetrope/zoetropelaw15.DirectHalves", spec := "directHalves", unfollowed := true, recurses := true, apart := false, narrowed := true }
def DirectHalvesUptoSaid : Prop := directHalvesUptoRow.holds Try.pinned (OpenSpec.upto directHalvesSpec)

/-- 'zoetropelaw15.DirectSums', WHERE WHAT IT READS IS OF BULK AT MOST 1048576: true; the input reads as it did. -/
def directSumsUptoRow : OpenClaim := { program := "ytahnfecohdflnaa", sum := "faba9bf2bedfbf762ebf1d91751ea66602ca6f6a5b0792ee0f41c98e4d01b506", func := "zoetrope/zoetropelaw15.DirectSums", spec := "directSums", unfollowed := true, recurses := true, apart := false, narrowed := true }
def DirectSumsUptoSaid : Prop := directSumsUptoRow.holds Try.pinned (OpenSpec.upto directSumsSpec)

/-- 'zoetropelaw15.DirectLeast', WHERE WHAT IT READS IS OF BULK AT MOST 1048576: true; the input reads as it did. -/
def directLeastUptoRow : OpenClaim := { program := "ytahnfecohdflnaa", sum := "faba9bf2bedfbf762ebf1d91751ea66602ca6f6a5b0792ee0f41c98e4d01b506", func := "zoetrope/zoetropelaw15.DirectLeast", spec := "directLeast", unfollowed := true, recurses := true, apart := false, narrowed := true }
def DirectLeastUptoSaid : Prop := directLeastUptoRow.holds Try.pinned (OpenSpec.upto directLeastSpec)

/-- 'zoetropelaw15.DirectScales', WHERE WHAT IT READS IS OF BULK AT MOST 1048576: true; the input reads as it did. -/
def directScalesUptoRow : OpenClaim := { program := "ytahnfecohdflnaa", sum := "faba9bf2bedfbf762ebf1d91751ea66602ca6f6a5b0792ee0f41c98e4d01b506", func := "zoetrope/zoetropelaw15.DirectScales", spec := "directScales", unfollowed := true, recurses := true, apart := false, narrowed := true }
def DirectScalesUptoSaid : Prop := directScalesUptoRow.holds Try.pinned (OpenSpec.upto directScalesSpec)

end Rows
end Go.Proofs.Ytahnfecohdflnaa
