/-
  No cell of these rows narrows 'for every input' (looked for: loops, veiled, ifaces, maps, wideKeys, modest, calm, conditions, laid).
  DERIVED. THE GIVEN ROWS OF THIS SEAT. 6 by the template 'for every input the law returns true; each argument reads behind the call as it read before'; 0 by the template 'total and deterministic' (their statements: YtocooplmfkeepaaTotals.lean).
  GIVEN WITH THE SEED: the statements are not yours to turn. If you find one false, say at which input.
  Laid BY PROGRAM, IN A SANDBOX (cutbox-rows.mjs): the forced cells as the released guide's own fill.sh prints them over the translation e5ae9b5310fe4a15… (all of the seat's roots in one cut). By AI agents, Wed Nov 11 2026. No macro, syntax, notation, axiom, sorry.
-/
import Derived.Test.YtocooplmfkeepaaChecked
import GoSem.Claim
import GoSem.ClaimJoined
import GoSem.ClaimMapViews
import Derived.JoinedTies
import Derived.KernelRfl
namespace Go.Proofs.Ytocooplmfkeepaa
/- THE CELL 'sum', in the pinned program and in every row, IS THE sha256 OF THE DUMP (.gsa) THAT YtocooplmfkeepaaProg.lean LOADS. Nothing in Lean hashes anything: it is a label: what it is worth is what the hold of that sum in a sandbox is worth. -/
noncomputable def Try.pinned : Pinned := { name := "ytocooplmfkeepaa", sum := "e5ae9b5310fe4a154177cdd598c8177e4456c4db7234b90c67d06ca0fbac5244", checked := Try.checked }
namespace Rows
def none {H : Type} : Left H := { results := [], args := [] }

/-- 'zoetropelaw7.LevelsPuts': WHATEVER THE INPUT: true; the input reads as it did. -/
def levelsPutsSpec : ChangeSpec := { name := "levelsPuts", fn := fun _ => fun
  | [d] => { results := [.lit (.bool true)], args := [d] }
  | _ => none }
def levelsPutsRow : OpenClaim := { program := "ytocooplmfkeepaa", sum := "e5ae9b5310fe4a154177cdd598c8177e4456c4db7234b90c67d06ca0fbac5244", func := "zoetrope/zoetropelaw7.LevelsPuts", spec := "levelsPuts", inPlace := ["sync/atomic.AddInt64"], unfollowed := true, recurses := true, apart := false }
def LevelsPutsSaid : Prop := levelsPutsRow.holds Try.pinned (OpenSpec.ofChange levelsPutsSpec)

/-- ITS FALSE NEIGHBOUR: 'it returns false'. Refute it at one input. -/
def levelsPutsWrong : ChangeSpec := { name := "levelsPuts", fn := fun _ => fun
  | [d] => { results := [.lit (.bool false)], args := [d] }
  | _ => none }
def LevelsPutsWrongFalsely : Prop := levelsPutsRow.holds Try.pinned (OpenSpec.ofChange levelsPutsWrong)

/-- 'zoetropelaw7.LevelsGets': WHATEVER THE INPUT: true; the input reads as it did. -/
def levelsGetsSpec : ChangeSpec := { name := "levelsGets", fn := fun _ => fun
  | [d1, d2, d3] => { results := [.lit (.bool true)], args := [d1, d2, d3] }
  | _ => none }
def levelsGetsRow : OpenClaim := { program := "ytocooplmfkeepaa", sum := "e5ae9b5310fe4a154177cdd598c8177e4456c4db7234b90c67d06ca0fbac5244", func := "zoetrope/zoetropelaw7.LevelsGets", spec := "levelsGets", inPlace := ["sync/atomic.AddInt64"], unfollowed := true, recurses := true, apart := false }
def LevelsGetsSaid : Prop := levelsGetsRow.holds Try.pinned (OpenSpec.ofChange levelsGetsSpec)

/-- ITS FALSE NEIGHBOUR: 'it returns false'. Refute it at one input. -/
def levelsGetsWrong : ChangeSpec := { name := "levelsGets", fn := fun _ => fun
  | [d1, d2, d3] => { results := [.lit (.bool false)], args := [d1, d2, d3] }
  | _ => none }
def LevelsGetsWrongFalsely : Prop := levelsGetsRow.holds Try.pinned (OpenSpec.ofChange levelsGetsWrong)

/-- 'zoetropelaw7.LevelsOnes': WHATEVER THE INPUT: true; the input reads as it did. -/
def levelsOnesSpec : ChangeSpec := { name := "levelsOnes", fn := fun _ => fun
  | [d1, d2, d3] => { results := [.lit (.bool true)], args := [d1, d2, d3] }
  | _ => none }
def levelsOnesRow : OpenClaim := { program := "ytocooplmfkeepaa", sum := "e5ae9b5310fe4a154177cdd598c8177e4456c4db7234b90c67d06ca0fbac5244", func := "zoetrope/zoetropelaw7.LevelsOnes", spec := "levelsOnes", inPlace := ["sync/atomic.AddInt64"], unfollowed := true, recurses := true, apart := false }
def LevelsOnesSaid : Prop := levelsOnesRow.holds Try.pinned (OpenSpec.ofChange levelsOnesSpec)

/-- ITS FALSE NEIGHBOUR: 'it returns false'. Refute it at one input. -/
def levelsOnesWrong : ChangeSpec := { name := "levelsOnes", fn := fun _ => fun
  | [d1, d2, d3] => { results := [.lit (.bool false)], args := [d1, d2, d3] }
  | _ => none }
def LevelsOnesWrongFalsely : Prop := levelsOnesRow.holds Try.pinned (OpenSpec.ofChange levelsOnesWrong)

/-- 'zoetropelaw7.LevelsEmpty': WHATEVER THE INPUT: true; the input reads as it did. -/
def levelsEmptySpec : ChangeSpec := { name := "levelsEmpty", fn := fun _ => fun
  | [d1, d2] => { results := [.lit (.bool true)], args := [d1, d2] }
  | _ => none }
def levelsEmptyRow : OpenClaim := { program := "ytocooplmfkeepaa", sum := "e5ae9b5310fe4a154177cdd598c8177e4456c4db7234b90c67d06ca0fbac5244", func := "zoetrope/zoetropelaw7.LevelsEmpty", spec := "levelsEmpty", inPlace := ["sync/atomic.AddInt64"], unfollowed := true, recurses := true, apart := false }
def LevelsEmptySaid : Prop := levelsEmptyRow.holds Try.pinned (OpenSpec.ofChange levelsEmptySpec)

/-- ITS FALSE NEIGHBOUR: 'it returns false'. Refute it at one input. -/
def levelsEmptyWrong : ChangeSpec := { name := "levelsEmpty", fn := fun _ => fun
  | [d1, d2] => { results := [.lit (.bool false)], args := [d1, d2] }
  | _ => none }
def LevelsEmptyWrongFalsely : Prop := levelsEmptyRow.holds Try.pinned (OpenSpec.ofChange levelsEmptyWrong)

/-- 'zoetropelaw7.LevelsRange': WHATEVER THE INPUT: true; the input reads as it did. -/
def levelsRangeSpec : ChangeSpec := { name := "levelsRange", fn := fun _ => fun
  | [d1, d2] => { results := [.lit (.bool true)], args := [d1, d2] }
  | _ => none }
def levelsRangeRow : OpenClaim := { program := "ytocooplmfkeepaa", sum := "e5ae9b5310fe4a154177cdd598c8177e4456c4db7234b90c67d06ca0fbac5244", func := "zoetrope/zoetropelaw7.LevelsRange", spec := "levelsRange", inPlace := ["sync/atomic.AddInt64"], unfollowed := true, recurses := true, apart := false }
def LevelsRangeSaid : Prop := levelsRangeRow.holds Try.pinned (OpenSpec.ofChange levelsRangeSpec)

/-- ITS FALSE NEIGHBOUR: 'it returns false'. Refute it at one input. -/
def levelsRangeWrong : ChangeSpec := { name := "levelsRange", fn := fun _ => fun
  | [d1, d2] => { results := [.lit (.bool false)], args := [d1, d2] }
  | _ => none }
def LevelsRangeWrongFalsely : Prop := levelsRangeRow.holds Try.pinned (OpenSpec.ofChange levelsRangeWrong)

/-- 'zoetropelaw7.LevelsBack': WHATEVER THE INPUT: true; the input reads as it did. -/
def levelsBackSpec : ChangeSpec := { name := "levelsBack", fn := fun _ => fun
  | [d1, d2, d3] => { results := [.lit (.bool true)], args := [d1, d2, d3] }
  | _ => none }
def levelsBackRow : OpenClaim := { program := "ytocooplmfkeepaa", sum := "e5ae9b5310fe4a154177cdd598c8177e4456c4db7234b90c67d06ca0fbac5244", func := "zoetrope/zoetropelaw7.LevelsBack", spec := "levelsBack", inPlace := ["sync/atomic.AddInt64"], unfollowed := true, recurses := true, apart := false }
def LevelsBackSaid : Prop := levelsBackRow.holds Try.pinned (OpenSpec.ofChange levelsBackSpec)

/-- ITS FALSE NEIGHBOUR: 'it returns false'. Refute it at one input. -/
def levelsBackWrong : ChangeSpec := { name := "levelsBack", fn := fun _ => fun
  | [d1, d2, d3] => { results := [.lit (.bool false)], args := [d1, d2, d3] }
  | _ => none }
def LevelsBackWrongFalsely : Prop := levelsBackRow.holds Try.pinned (OpenSpec.ofChange levelsBackWrong)

/- THE SECOND FORM. 'bulk': how many values and letters a reading holds, each counted each time it is reached (what is shared counts as often as it is met; a slice's spare places count too). A statement '..UptoSaid' is the law's where the arguments, and the package variables that the reading takes, are together of bulk at most 1048576: NARROWER than '..Said'. Prove '..Said' where nothing that the law and all that it calls make is longer than what came in: it says more and counts as full. Else prove '..UptoSaid'. A law counts once. -/
mutual
def uptoBulk {H : Type} : DataW H → Nat
  | .lit (.string bytes) => bytes.length + 1
  | .lit _ => 1
  | .nil => 1
  | .ptr d => uptoBulk d + 1
  | .slice elems spare => uptoBulkAll elems + uptoBulkAll spare + 1
  | .agg parts => uptoBulkAll parts + 1
  | .iface _ d => uptoBulk d + 1
  | .map entries => uptoBulkEntries entries + 1
  | .held _ => 1
def uptoBulkAll {H : Type} : List (DataW H) → Nat
  | [] => 0
  | d :: r => uptoBulk d + uptoBulkAll r
def uptoBulkEntries {H : Type} : List (Lit × DataW H) → Nat
  | [] => 0
  | x :: r => uptoBulkEntry x + uptoBulkEntries r
def uptoBulkEntry {H : Type} : Lit × DataW H → Nat
  | (.string bytes, d) => bytes.length + uptoBulk d + 1
  | (_, d) => uptoBulk d + 1
 end
def uptoSmall : (H : Type) → List (DataW H) → Bool := fun _ ds => decide (uptoBulkAll ds ≤ 1048576)
def OpenSpec.upto (s : _root_.Go.ChangeSpec) : _root_.Go.OpenSpec := { _root_.Go.OpenSpec.ofChange s with cond := some uptoSmall }

/-- 'zoetropelaw7.LevelsPuts', WHERE WHAT IT READS IS OF BULK AT MOST 1048576: true; the input reads as it did. -/
def levelsPutsUptoRow : OpenClaim := { program := "ytocooplmfkeepaa", sum := "e5ae9b5310fe4a154177cdd598c8177e4456c4db7234b90c67d06ca0fbac5244", func := "zoetrope/zoetropelaw7.LevelsPuts", spec := "levelsPuts", inPlace := ["sync/atomic.AddInt64"], unfollowed := true, recurses := true, apart := false, narrowed := true }
def LevelsPutsUptoSaid : Prop := levelsPutsUptoRow.holds Try.pinned (OpenSpec.upto levelsPutsSpec)

/-- 'zoetropelaw7.LevelsGets', WHERE WHAT IT READS IS OF BULK AT MOST 1048576: true; the input reads as it did. -/
def levelsGetsUptoRow : OpenClaim := { program := "ytocooplmfkeepaa", sum := "e5ae9b5310fe4a154177cdd598c8177e4456c4db7234b90c67d06ca0fbac5244", func := "zoetrope/zoetropelaw7.LevelsGets", spec := "levelsGets", inPlace := ["sync/atomic.AddInt64"], unfollowed := true, recurses := true, apart := false, narrowed := true }
def LevelsGetsUptoSaid : Prop := levelsGetsUptoRow.holds Try.pinned (OpenSpec.upto levelsGetsSpec)

/-- 'zoetropelaw7.LevelsOnes', WHERE WHAT IT READS IS OF BULK AT MOST 1048576: true; the input reads as it did. -/
def levelsOnesUptoRow : OpenClaim := { program := "ytocooplmfkeepaa", sum := "e5ae9b5310fe4a154177cdd598c8177e4456c4db7234b90c67d06ca0fbac5244", func := "zoetrope/zoetropelaw7.LevelsOnes", spec := "levelsOnes", inPlace := ["sync/atomic.AddInt64"], unfollowed := true, recurses := true, apart := false, narrowed := true }
def LevelsOnesUptoSaid : Prop := levelsOnesUptoRow.holds Try.pinned (OpenSpec.upto levelsOnesSpec)

/-- 'zoetropelaw7.LevelsEmpty', WHERE WHAT IT READS IS OF BULK AT MOST 1048576: true; the input reads as it did. -/
def levelsEmptyUptoRow : OpenClaim := { program := "ytocooplmfkeepaa", sum := "e5ae9b5310fe4a154177cdd598c8177e4456c4db7234b90c67d06ca0fbac5244", func := "zoetrope/zoetropelaw7.LevelsEmpty", spec := "levelsEmpty", inPlace := ["sync/atomic.AddInt64"], unfollowed := true, recurses := true, apart := false, narrowed := true }
def LevelsEmptyUptoSaid : Prop := levelsEmptyUptoRow.holds Try.pinned (OpenSpec.upto levelsEmptySpec)

/-- 'zoetropelaw7.LevelsRange', WHERE WHAT IT READS IS OF BULK AT MOST 1048576: true; the input reads as it did. -/
def levelsRangeUptoRow : OpenClaim := { program := "ytocooplmfkeepaa", sum := "e5ae9b5310fe4a154177cdd598c8177e4456c4db7234b90c67d06ca0fbac5244", func := "zoetrope/zoetropelaw7.LevelsRange", spec := "levelsRange", inPlace := ["sync/atomic.AddInt64"], unfollowed := true, recurses := true, apart := false, narrowed := true }
def LevelsRangeUptoSaid : Prop := levelsRangeUptoRow.holds Try.pinned (OpenSpec.upto levelsRangeSpec)

/-- 'zoetropelaw7.LevelsBack', WHERE WHAT IT READS IS OF BULK AT MOST 1048576: true; the input reads as it did. -/
def levelsBackUptoRow : OpenClaim := { program := "ytocooplmfkeepaa", sum := "e5ae9b5310fe4a154177cdd598c8177e4456c4db7234b90c67d06ca0fbac5244", func := "zoetrope/zoetropelaw7.LevelsBack", spec := "levelsBack", inPlace := ["sync/atomic.AddInt64"], unfollowed := true, recurses := true, apart := false, narrowed := true }
def LevelsBackUptoSaid : Prop := levelsBackUptoRow.holds Try.pinned (OpenSpec.upto levelsBackSpec)

end Rows
end Go.Proofs.Ytocooplmfkeepaa
