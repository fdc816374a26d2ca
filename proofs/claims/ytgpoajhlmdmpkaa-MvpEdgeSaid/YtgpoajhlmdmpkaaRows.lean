/-
  No cell of these rows narrows 'for every input' (looked for: loops, veiled, ifaces, maps, wideKeys, modest, calm, conditions, laid).
  DERIVED. THE GIVEN ROWS OF THIS SEAT. 6 by the template 'for every input the law returns true; each argument reads behind the call as it read before'; 0 by the template 'total and deterministic' (their statements: YtgpoajhlmdmpkaaTotals.lean).
  GIVEN WITH THE SEED: the statements are not yours to turn. If you find one false, say at which input.
  Laid BY PROGRAM, IN A SANDBOX (cutbox-rows.mjs): the forced cells as the released guide's own fill.sh prints them over the translation 48a4b2185b9a3ebd… (all of the seat's roots in one cut). By AI agents, Wed Nov 11 2026. No macro, syntax, notation, axiom, sorry.
-/
import Derived.Test.YtgpoajhlmdmpkaaChecked
import GoSem.Claim
import GoSem.ClaimJoined
import GoSem.ClaimMapViews
import Derived.JoinedTies
import Derived.KernelRfl
namespace Go.Proofs.Ytgpoajhlmdmpkaa
/- THE CELL 'sum', in the pinned program and in every row, IS THE sha256 OF THE DUMP (.gsa) THAT YtgpoajhlmdmpkaaProg.lean LOADS. Nothing in Lean hashes anything: it is a label: what it is worth is what the hold of that sum in a sandbox is worth. -/
noncomputable def Try.pinned : Pinned := { name := "ytgpoajhlmdmpkaa", sum := "48a4b2185b9a3ebdc7aef121a670b5e762e475ad45c042562cf28ca82f78e8f0", checked := Try.checked }
namespace Rows
def none {H : Type} : Left H := { results := [], args := [] }

/-- 'zoetropelaw14.MvpPredicts': WHATEVER THE INPUT: true; the input reads as it did. -/
def mvpPredictsSpec : ChangeSpec := { name := "mvpPredicts", fn := fun _ => fun
  | [d1, d2, d3, d4, d5, d6] => { results := [.lit (.bool true)], args := [d1, d2, d3, d4, d5, d6] }
  | _ => none }
def mvpPredictsRow : OpenClaim := { program := "ytgpoajhlmdmpkaa", sum := "48a4b2185b9a3ebdc7aef121a670b5e762e475ad45c042562cf28ca82f78e8f0", func := "zoetrope/zoetropelaw14.MvpPredicts", spec := "mvpPredicts", apart := false }
def MvpPredictsSaid : Prop := mvpPredictsRow.holds Try.pinned (OpenSpec.ofChange mvpPredictsSpec)

/-- ITS FALSE NEIGHBOUR: 'it returns false'. Refute it at one input. -/
def mvpPredictsWrong : ChangeSpec := { name := "mvpPredicts", fn := fun _ => fun
  | [d1, d2, d3, d4, d5, d6] => { results := [.lit (.bool false)], args := [d1, d2, d3, d4, d5, d6] }
  | _ => none }
def MvpPredictsWrongFalsely : Prop := mvpPredictsRow.holds Try.pinned (OpenSpec.ofChange mvpPredictsWrong)

/-- 'zoetropelaw14.MvpMedians': WHATEVER THE INPUT: true; the input reads as it did. -/
def mvpMediansSpec : ChangeSpec := { name := "mvpMedians", fn := fun _ => fun
  | [d1, d2, d3] => { results := [.lit (.bool true)], args := [d1, d2, d3] }
  | _ => none }
def mvpMediansRow : OpenClaim := { program := "ytgpoajhlmdmpkaa", sum := "48a4b2185b9a3ebdc7aef121a670b5e762e475ad45c042562cf28ca82f78e8f0", func := "zoetrope/zoetropelaw14.MvpMedians", spec := "mvpMedians", apart := false }
def MvpMediansSaid : Prop := mvpMediansRow.holds Try.pinned (OpenSpec.ofChange mvpMediansSpec)

/-- ITS FALSE NEIGHBOUR: 'it returns false'. Refute it at one input. -/
def mvpMediansWrong : ChangeSpec := { name := "mvpMedians", fn := fun _ => fun
  | [d1, d2, d3] => { results := [.lit (.bool false)], args := [d1, d2, d3] }
  | _ => none }
def MvpMediansWrongFalsely : Prop := mvpMediansRow.holds Try.pinned (OpenSpec.ofChange mvpMediansWrong)

/-- 'zoetropelaw14.MvpLone': WHATEVER THE INPUT: true; the input reads as it did. -/
def mvpLoneSpec : ChangeSpec := { name := "mvpLone", fn := fun _ => fun
  | [d1, d2, d3] => { results := [.lit (.bool true)], args := [d1, d2, d3] }
  | _ => none }
def mvpLoneRow : OpenClaim := { program := "ytgpoajhlmdmpkaa", sum := "48a4b2185b9a3ebdc7aef121a670b5e762e475ad45c042562cf28ca82f78e8f0", func := "zoetrope/zoetropelaw14.MvpLone", spec := "mvpLone", apart := false }
def MvpLoneSaid : Prop := mvpLoneRow.holds Try.pinned (OpenSpec.ofChange mvpLoneSpec)

/-- ITS FALSE NEIGHBOUR: 'it returns false'. Refute it at one input. -/
def mvpLoneWrong : ChangeSpec := { name := "mvpLone", fn := fun _ => fun
  | [d1, d2, d3] => { results := [.lit (.bool false)], args := [d1, d2, d3] }
  | _ => none }
def MvpLoneWrongFalsely : Prop := mvpLoneRow.holds Try.pinned (OpenSpec.ofChange mvpLoneWrong)

/-- 'zoetropelaw14.MvpHalves': WHATEVER THE INPUT: true; the input reads as it did. -/
def mvpHalvesSpec : ChangeSpec := { name := "mvpHalves", fn := fun _ => fun
  | [d1, d2] => { results := [.lit (.bool true)], args := [d1, d2] }
  | _ => none }
def mvpHalvesRow : OpenClaim := { program := "ytgpoajhlmdmpkaa", sum := "48a4b2185b9a3ebdc7aef121a670b5e762e475ad45c042562cf28ca82f78e8f0", func := "zoetrope/zoetropelaw14.MvpHalves", spec := "mvpHalves", apart := false }
def MvpHalvesSaid : Prop := mvpHalvesRow.holds Try.pinned (OpenSpec.ofChange mvpHalvesSpec)

/-- ITS FALSE NEIGHBOUR: 'it returns false'. Refute it at one input. -/
def mvpHalvesWrong : ChangeSpec := { name := "mvpHalves", fn := fun _ => fun
  | [d1, d2] => { results := [.lit (.bool false)], args := [d1, d2] }
  | _ => none }
def MvpHalvesWrongFalsely : Prop := mvpHalvesRow.holds Try.pinned (OpenSpec.ofChange mvpHalvesWrong)

/-- 'zoetropelaw14.MvpStill': WHATEVER THE INPUT: true; the input reads as it did. -/
def mvpStillSpec : ChangeSpec := { name := "mvpStill", fn := fun _ => fun
  | [d1, d2] => { results := [.lit (.bool true)], args := [d1, d2] }
  | _ => none }
def mvpStillRow : OpenClaim := { program := "ytgpoajhlmdmpkaa", sum := "48a4b2185b9a3ebdc7aef121a670b5e762e475ad45c042562cf28ca82f78e8f0", func := "zoetrope/zoetropelaw14.MvpStill", spec := "mvpStill", apart := false }
def MvpStillSaid : Prop := mvpStillRow.holds Try.pinned (OpenSpec.ofChange mvpStillSpec)

/-- ITS FALSE NEIGHBOUR: 'it returns false'. Refute it at one input. -/
def mvpStillWrong : ChangeSpec := { name := "mvpStill", fn := fun _ => fun
  | [d1, d2] => { results := [.lit (.bool false)], args := [d1, d2] }
  | _ => none }
def MvpStillWrongFalsely : Prop := mvpStillRow.holds Try.pinned (OpenSpec.ofChange mvpStillWrong)

/-- 'zoetropelaw14.MvpEdge': WHATEVER THE INPUT: true; the input reads as it did. -/
def mvpEdgeSpec : ChangeSpec := { name := "mvpEdge", fn := fun _ => fun
  | [d1, d2, d3] => { results := [.lit (.bool true)], args := [d1, d2, d3] }
  | _ => none }
def mvpEdgeRow : OpenClaim := { program := "ytgpoajhlmdmpkaa", sum := "48a4b2185b9a3ebdc7aef121a670b5e762e475ad45c042562cf28ca82f78e8f0", func := "zoetrope/zoetropelaw14.MvpEdge", spec := "mvpEdge", apart := false }
def MvpEdgeSaid : Prop := mvpEdgeRow.holds Try.pinned (OpenSpec.ofChange mvpEdgeSpec)

/-- ITS FALSE NEIGHBOUR: 'it returns false'. Refute it at one input. -/
def mvpEdgeWrong : ChangeSpec := { name := "mvpEdge", fn := fun _ => fun
  | [d1, d2, d3] => { results := [.lit (.bool false)], args := [d1, d2, d3] }
  | _ => none }
def MvpEdgeWrongFalsely : Prop := mvpEdgeRow.holds Try.pinned (OpenSpec.ofChange mvpEdgeWrong)

/- THE SECOND FORM. 'bulk': how many values and letters a reading holds, each counted each time it is reached (what is shared counts as often as it is met; a slice's spare places count too). A statement '..UptoSaid' is the law's where the arguments, and the package variables that the reading takes, are together of bulk at most 1048576: NARROWER than '..Said'. Prove '..Said' where nothing that the law and all that it calls make is longer than what came in: it says more and counts as full. Else prove '..UptoSaid'. A law counts once. -/
mutual
def uptoBulk {H : Type} : DataW H → Nat
  | .lit (.string bytes) => bytes.length + 1
  | .lit _ => 1
  | .nil => 1
  | .ptr d => uptoBulk d + 1
  | .slice elems spare => uptoBulkAll elems + uptoBulkAll spare + 1
  | .agg parts => uptoBulkAll parts + 1
  | .iface _ d => uptoBulk d + 1
  | .map entries => uptoBulkEntries entries + 1
  | .held _ => 1
def uptoBulkAll {H : Type} : List (DataW H) → Nat
  | [] => 0
  | d :: r => uptoBulk d + uptoBulkAll r
def uptoBulkEntries {H : Type} : List (Lit × DataW H) → Nat
  | [] => 0
  | x :: r => uptoBulkEntry x + uptoBulkEntries r
def uptoBulkEntry {H : Type} : Lit × DataW H → Nat
  | (.string bytes, d) => bytes.length + uptoBulk d + 1
  | (_, d) => uptoBulk d + 1
 end
def uptoSmall : (H : Type) → List (DataW H) → Bool := fun _ ds => decide (uptoBulkAll ds ≤ 1048576)
def OpenSpec.upto (s : _root_.Go.ChangeSpec) : _root_.Go.OpenSpec := { _root_.Go.OpenSpec.ofChange s with cond := some uptoSmall }

/-- 'zoetropelaw14.MvpPredicts', WHERE WHAT IT READS IS OF BULK AT MOST 1048576: true; the input reads as it did. -/
def mvpPredictsUptoRow : OpenClaim := { program := "ytgpoajhlmdmpkaa", sum := "48a4b2185b9a3ebdc7aef121a670b5e762e475ad45c042562cf28ca82f78e8f0", func := "zoetrope/zoetropelaw14.MvpPredicts", spec := "mvpPredicts", apart := false, narrowed := true }
def MvpPredictsUptoSaid : Prop := mvpPredictsUptoRow.holds Try.pinned (OpenSpec.upto mvpPredictsSpec)

/-- 'zoetropelaw14.MvpMedians', WHERE WHAT IT READS IS OF BULK AT MOST 1048576: true; the input reads as it did. -/
def mvpMediansUptoRow : OpenClaim := { program := "ytgpoajhlmdmpkaa", sum := "48a4b2185b9a3ebdc7aef121a670b5e762e475ad45c042562cf28ca82f78e8f0", func := "zoetrope/zoetropelaw14.MvpMedians", spec := "mvpMedians", apart := false, narrowed := true }
def MvpMediansUptoSaid : Prop := mvpMediansUptoRow.holds Try.pinned (OpenSpec.upto mvpMediansSpec)

/-- 'zoetropelaw14.MvpLone', WHERE WHAT IT READS IS OF BULK AT MOST 1048576: true; the input reads as it did. -/
def mvpLoneUptoRow : OpenClaim := { program := "ytgpoajhlmdmpkaa", sum := "48a4b2185b9a3ebdc7aef121a670b5e762e475ad45c042562cf28ca82f78e8f0", func := "zoetrope/zoetropelaw14.MvpLone", spec := "mvpLone", apart := false, narrowed := true }
def MvpLoneUptoSaid : Prop := mvpLoneUptoRow.holds Try.pinned (OpenSpec.upto mvpLoneSpec)

/-- 'zoetropelaw14.MvpHalves', WHERE WHAT IT READS IS OF BULK AT MOST 1048576: true; the input reads as it did. -/
def mvpHalvesUptoRow : OpenClaim := { program := "ytgpoajhlmdmpkaa", sum := "48a4b2185b9a3ebdc7aef121a670b5e762e475ad45c042562cf28ca82f78e8f0", func := "zoetrope/zoetropelaw14.MvpHalves", spec := "mvpHalves", apart := false, narrowed := true }
def MvpHalvesUptoSaid : Prop := mvpHalvesUptoRow.holds Try.pinned (OpenSpec.upto mvpHalvesSpec)

/-- 'zoetropelaw14.MvpStill', WHERE WHAT IT READS IS OF BULK AT MOST 1048576: true; the input reads as it did. -/
def mvpStillUptoRow : OpenClaim := { program := "ytgpoajhlmdmpkaa", sum := "48a4b2185b9a3ebdc7aef121a670b5e762e475ad45c042562cf28ca82f78e8f0", func := "zoetrope/zoetropelaw14.MvpStill", spec := "mvpStill", apart := false, narrowed := true }
def MvpStillUptoSaid : Prop := mvpStillUptoRow.holds Try.pinned (OpenSpec.upto mvpStillSpec)

/-- 'zoetropelaw14.MvpEdge', WHERE WHAT IT READS IS OF BULK AT MOST 1048576: true; the input reads as it did. -/
def mvpEdgeUptoRow : OpenClaim := { program := "ytgpoajhlmdmpkaa", sum := "48a4b2185b9a3ebdc7aef121a670b5e762e475ad45c042562cf28ca82f78e8f0", func := "zoetrope/zoetropelaw14.MvpEdge", spec := "mvpEdge", apart := false, narrowed := true }
def MvpEdgeUptoSaid : Prop := mvpEdgeUptoRow.holds Try.pinned (OpenSpec.upto mvpEdgeSpec)

end Rows
end Go.Proofs.Ytgpoajhlmdmpkaa
