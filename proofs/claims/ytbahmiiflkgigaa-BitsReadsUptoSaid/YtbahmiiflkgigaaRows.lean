/-
  No cell of these rows narrows 'for every input' (looked for: loops, veiled, ifaces, maps, wideKeys, modest, calm, conditions, laid).
  DERIVED. THE GIVEN ROWS OF THIS SEAT. 7 by the template 'for every input the law returns true; each argument reads behind the call as it read before'; 0 by the template 'total and deterministic' (their statements: YtbahmiiflkgigaaTotals.lean).
  GIVEN WITH THE SEED: the statements are not yours to turn. If you find one false, say at which input.
  Laid BY PROGRAM, IN A SANDBOX (cutbox-rows.mjs): the forced cells as the released guide's own fill.sh prints them over the translation d6faaf6adbe68fea… (all of the seat's roots in one cut). By AI agents, Wed Nov 11 2026. No macro, syntax, notation, axiom, sorry.
-/
import Derived.Test.YtbahmiiflkgigaaChecked
import GoSem.Claim
import GoSem.ClaimJoined
import GoSem.ClaimMapViews
import Derived.JoinedTies
import Derived.KernelRfl
namespace Go.Proofs.Ytbahmiiflkgigaa
/- THE CELL 'sum', in the pinned program and in every row, IS THE sha256 OF THE DUMP (.gsa) THAT YtbahmiiflkgigaaProg.lean LOADS. Nothing in Lean hashes anything: it is a label: what it is worth is what the hold of that sum in a sandbox is worth. -/
noncomputable def Try.pinned : Pinned := { name := "ytbahmiiflkgigaa", sum := "d6faaf6adbe68fea6451acf09bf79c54af3fe6d2868d9d3d44571ab47cb624c6", checked := Try.checked }
namespace Rows
def none {H : Type} : Left H := { results := [], args := [] }

/-- 'zoetropelaw1.BitsWrites': WHATEVER THE INPUT: true; the input reads as it did. -/
def bitsWritesSpec : ChangeSpec := { name := "bitsWrites", fn := fun _ => fun
  | [d] => { results := [.lit (.bool true)], args := [d] }
  | _ => none }
def bitsWritesRow : OpenClaim := { program := "ytbahmiiflkgigaa", sum := "d6faaf6adbe68fea6451acf09bf79c54af3fe6d2868d9d3d44571ab47cb624c6", func := "zoetrope/zoetropelaw1.BitsWrites", spec := "bitsWrites", inPlace := ["sync/atomic.AddInt64"], apart := false }
def BitsWritesSaid : Prop := bitsWritesRow.holds Try.pinned (OpenSpec.ofChange bitsWritesSpec)

/-- ITS FALSE NEIGHBOUR: 'it returns false'. Refute it at one input. -/
def bitsWritesWrong : ChangeSpec := { name := "bitsWrites", fn := fun _ => fun
  | [d] => { results := [.lit (.bool false)], args := [d] }
  | _ => none }
def BitsWritesWrongFalsely : Prop := bitsWritesRow.holds Try.pinned (OpenSpec.ofChange bitsWritesWrong)

/-- 'zoetropelaw1.BitsLengths': WHATEVER THE INPUT: true; the input reads as it did. -/
def bitsLengthsSpec : ChangeSpec := { name := "bitsLengths", fn := fun _ => fun
  | [d] => { results := [.lit (.bool true)], args := [d] }
  | _ => none }
def bitsLengthsRow : OpenClaim := { program := "ytbahmiiflkgigaa", sum := "d6faaf6adbe68fea6451acf09bf79c54af3fe6d2868d9d3d44571ab47cb624c6", func := "zoetrope/zoetropelaw1.BitsLengths", spec := "bitsLengths", inPlace := ["sync/atomic.AddInt64"], apart := false }
def BitsLengthsSaid : Prop := bitsLengthsRow.holds Try.pinned (OpenSpec.ofChange bitsLengthsSpec)

/-- ITS FALSE NEIGHBOUR: 'it returns false'. Refute it at one input. -/
def bitsLengthsWrong : ChangeSpec := { name := "bitsLengths", fn := fun _ => fun
  | [d] => { results := [.lit (.bool false)], args := [d] }
  | _ => none }
def BitsLengthsWrongFalsely : Prop := bitsLengthsRow.holds Try.pinned (OpenSpec.ofChange bitsLengthsWrong)

/-- 'zoetropelaw1.BitsRefuses': WHATEVER THE INPUT: true; the input reads as it did. -/
def bitsRefusesSpec : ChangeSpec := { name := "bitsRefuses", fn := fun _ => fun
  | [d1, d2] => { results := [.lit (.bool true)], args := [d1, d2] }
  | _ => none }
def bitsRefusesRow : OpenClaim := { program := "ytbahmiiflkgigaa", sum := "d6faaf6adbe68fea6451acf09bf79c54af3fe6d2868d9d3d44571ab47cb624c6", func := "zoetrope/zoetropelaw1.BitsRefuses", spec := "bitsRefuses", inPlace := ["sync/atomic.AddInt64"], apart := false }
def BitsRefusesSaid : Prop := bitsRefusesRow.holds Try.pinned (OpenSpec.ofChange bitsRefusesSpec)

/-- ITS FALSE NEIGHBOUR: 'it returns false'. Refute it at one input. -/
def bitsRefusesWrong : ChangeSpec := { name := "bitsRefuses", fn := fun _ => fun
  | [d1, d2] => { results := [.lit (.bool false)], args := [d1, d2] }
  | _ => none }
def BitsRefusesWrongFalsely : Prop := bitsRefusesRow.holds Try.pinned (OpenSpec.ofChange bitsRefusesWrong)

/-- 'zoetropelaw1.BitsStays': WHATEVER THE INPUT: true; the input reads as it did. -/
def bitsStaysSpec : ChangeSpec := { name := "bitsStays", fn := fun _ => fun
  | [d1, d2] => { results := [.lit (.bool true)], args := [d1, d2] }
  | _ => none }
def bitsStaysRow : OpenClaim := { program := "ytbahmiiflkgigaa", sum := "d6faaf6adbe68fea6451acf09bf79c54af3fe6d2868d9d3d44571ab47cb624c6", func := "zoetrope/zoetropelaw1.BitsStays", spec := "bitsStays", inPlace := ["sync/atomic.AddInt64"], apart := false }
def BitsStaysSaid : Prop := bitsStaysRow.holds Try.pinned (OpenSpec.ofChange bitsStaysSpec)

/-- ITS FALSE NEIGHBOUR: 'it returns false'. Refute it at one input. -/
def bitsStaysWrong : ChangeSpec := { name := "bitsStays", fn := fun _ => fun
  | [d1, d2] => { results := [.lit (.bool false)], args := [d1, d2] }
  | _ => none }
def BitsStaysWrongFalsely : Prop := bitsStaysRow.holds Try.pinned (OpenSpec.ofChange bitsStaysWrong)

/-- 'zoetropelaw1.BitsTrails': WHATEVER THE INPUT: true; the input reads as it did. -/
def bitsTrailsSpec : ChangeSpec := { name := "bitsTrails", fn := fun _ => fun
  | [d1, d2] => { results := [.lit (.bool true)], args := [d1, d2] }
  | _ => none }
def bitsTrailsRow : OpenClaim := { program := "ytbahmiiflkgigaa", sum := "d6faaf6adbe68fea6451acf09bf79c54af3fe6d2868d9d3d44571ab47cb624c6", func := "zoetrope/zoetropelaw1.BitsTrails", spec := "bitsTrails", inPlace := ["sync/atomic.AddInt64"], apart := false }
def BitsTrailsSaid : Prop := bitsTrailsRow.holds Try.pinned (OpenSpec.ofChange bitsTrailsSpec)

/-- ITS FALSE NEIGHBOUR: 'it returns false'. Refute it at one input. -/
def bitsTrailsWrong : ChangeSpec := { name := "bitsTrails", fn := fun _ => fun
  | [d1, d2] => { results := [.lit (.bool false)], args := [d1, d2] }
  | _ => none }
def BitsTrailsWrongFalsely : Prop := bitsTrailsRow.holds Try.pinned (OpenSpec.ofChange bitsTrailsWrong)

/-- 'zoetropelaw1.BitsReads': WHATEVER THE INPUT: true; the input reads as it did. -/
def bitsReadsSpec : ChangeSpec := { name := "bitsReads", fn := fun _ => fun
  | [d1, d2] => { results := [.lit (.bool true)], args := [d1, d2] }
  | _ => none }
def bitsReadsRow : OpenClaim := { program := "ytbahmiiflkgigaa", sum := "d6faaf6adbe68fea6451acf09bf79c54af3fe6d2868d9d3d44571ab47cb624c6", func := "zoetrope/zoetropelaw1.BitsReads", spec := "bitsReads", inPlace := ["sync/atomic.AddInt64"], apart := false }
def BitsReadsSaid : Prop := bitsReadsRow.holds Try.pinned (OpenSpec.ofChange bitsReadsSpec)

/-- ITS FALSE NEIGHBOUR: 'it returns false'. Refute it at one input. -/
def bitsReadsWrong : ChangeSpec := { name := "bitsReads", fn := fun _ => fun
  | [d1, d2] => { results := [.lit (.bool false)], args := [d1, d2] }
  | _ => none }
def BitsReadsWrongFalsely : Prop := bitsReadsRow.holds Try.pinned (OpenSpec.ofChange bitsReadsWrong)

/-- 'zoetropelaw1.BitsBack': WHATEVER THE INPUT: true; the input reads as it did. -/
def bitsBackSpec : ChangeSpec := { name := "bitsBack", fn := fun _ => fun
  | [d1, d2] => { results := [.lit (.bool true)], args := [d1, d2] }
  | _ => none }
def bitsBackRow : OpenClaim := { program := "ytbahmiiflkgigaa", sum := "d6faaf6adbe68fea6451acf09bf79c54af3fe6d2868d9d3d44571ab47cb624c6", func := "zoetrope/zoetropelaw1.BitsBack", spec := "bitsBack", inPlace := ["sync/atomic.AddInt64"], apart := false }
def BitsBackSaid : Prop := bitsBackRow.holds Try.pinned (OpenSpec.ofChange bitsBackSpec)

/-- ITS FALSE NEIGHBOUR: 'it returns false'. Refute it at one input. -/
def bitsBackWrong : ChangeSpec := { name := "bitsBack", fn := fun _ => fun
  | [d1, d2] => { results := [.lit (.bool false)], args := [d1, d2] }
  | _ => none }
def BitsBackWrongFalsely : Prop := bitsBackRow.holds Try.pinned (OpenSpec.ofChange bitsBackWrong)

/- THE SECOND FORM. 'bulk': how many values and letters a reading holds, each counted each time it is reached (what is shared counts as often as it is met; a slice's spare places count too). A statement '..UptoSaid' is the law's where the arguments, and the package variables that the reading takes, are together of bulk at most 1048576: NARROWER than '..Said'. Prove '..Said' where nothing that the law and all that it calls make is longer than what came in: it says more and counts as full. Else prove '..UptoSaid'. A law counts once. -/
mutual
def uptoBulk {H : Type} : DataW H → Nat
  | .lit (.string bytes) => bytes.length + 1
  | .lit _ => 1
  | .nil => 1
  | .ptr d => uptoBulk d + 1
  | .slice elems spare => uptoBulkAll elems + uptoBulkAll spare + 1
  | .agg parts => uptoBulkAll parts + 1
  | .iface _ d => uptoBulk d + 1
  | .map entries => uptoBulkEntries entries + 1
  | .held _ => 1
def uptoBulkAll {H : Type} : List (DataW H) → Nat
  | [] => 0
  | d :: r => uptoBulk d + uptoBulkAll r
def uptoBulkEntries {H : Type} : List (Lit × DataW H) → Nat
  | [] => 0
  | x :: r => uptoBulkEntry x + uptoBulkEntries r
def uptoBulkEntry {H : Type} : Lit × DataW H → Nat
  | (.string bytes, d) => bytes.length + uptoBulk d + 1
  | (_, d) => uptoBulk d + 1
 end
def uptoSmall : (H : Type) → List (DataW H) → Bool := fun _ ds => decide (uptoBulkAll ds ≤ 1048576)
def OpenSpec.upto (s : _root_.Go.ChangeSpec) : _root_.Go.OpenSpec := { _root_.Go.OpenSpec.ofChange s with cond := some uptoSmall }

/-- 'zoetropelaw1.BitsWrites', WHERE WHAT IT READS IS OF BULK AT MOST 1048576: true; the input reads as it did. -/
def bitsWritesUptoRow : OpenClaim := { program := "ytbahmiiflkgigaa", sum := "d6faaf6adbe68fea6451acf09bf79c54af3fe6d2868d9d3d44571ab47cb624c6", func := "zoetrope/zoetropelaw1.BitsWrites", spec := "bitsWrites", inPlace := ["sync/atomic.AddInt64"], apart := false, narrowed := true }
def BitsWritesUptoSaid : Prop := bitsWritesUptoRow.holds Try.pinned (OpenSpec.upto bitsWritesSpec)

/-- 'zoetropelaw1.BitsLengths', WHERE WHAT IT READS IS OF BULK AT MOST 1048576: true; the input reads as it did. -/
def bitsLengthsUptoRow : OpenClaim := { program := "ytbahmiiflkgigaa", sum := "d6faaf6adbe68fea6451acf09bf79c54af3fe6d2868d9d3d44571ab47cb624c6", func := "zoetrope/zoetropelaw1.BitsLengths", spec := "bitsLengths", inPlace := ["sync/atomic.AddInt64"], apart := false, narrowed := true }
def BitsLengthsUptoSaid : Prop := bitsLengthsUptoRow.holds Try.pinned (OpenSpec.upto bitsLengthsSpec)

/-- 'zoetropelaw1.BitsRefuses', WHERE WHAT IT READS IS OF BULK AT MOST 1048576: true; the input reads as it did. -/
def bitsRefusesUptoRow : OpenClaim := { program := "ytbahmiiflkgigaa", sum := "d6faaf6adbe68fea6451acf09bf79c54af3fe6d2868d9d3d44571ab47cb624c6", func := "zoetrope/zoetropelaw1.BitsRefuses", spec := "bitsRefuses", inPlace := ["sync/atomic.AddInt64"], apart := false, narrowed := true }
def BitsRefusesUptoSaid : Prop := bitsRefusesUptoRow.holds Try.pinned (OpenSpec.upto bitsRefusesSpec)

/-- 'zoetropelaw1.BitsStays', WHERE WHAT IT READS IS OF BULK AT MOST 1048576: true; the input reads as it did. -/
def bitsStaysUptoRow : OpenClaim := { program := "ytbahmiiflkgigaa", sum := "d6faaf6adbe68fea6451acf09bf79c54af3fe6d2868d9d3d44571ab47cb624c6", func := "zoetrope/zoetropelaw1.BitsStays", spec := "bitsStays", inPlace := ["sync/atomic.AddInt64"], apart := false, narrowed := true }
def BitsStaysUptoSaid : Prop := bitsStaysUptoRow.holds Try.pinned (OpenSpec.upto bitsStaysSpec)

/-- 'zoetropelaw1.BitsTrails', WHERE WHAT IT READS IS OF BULK AT MOST 1048576: true; the input reads as it did. -/
def bitsTrailsUptoRow : OpenClaim := { program := "ytbahmiiflkgigaa", sum := "d6faaf6adbe68fea6451acf09bf79c54af3fe6d2868d9d3d44571ab47cb624c6", func := "zoetrope/zoetropelaw1.BitsTrails", spec := "bitsTrails", inPlace := ["sync/atomic.AddInt64"], apart := false, narrowed := true }
def BitsTrailsUptoSaid : Prop := bitsTrailsUptoRow.holds Try.pinned (OpenSpec.upto bitsTrailsSpec)

/-- 'zoetropelaw1.BitsReads', WHERE WHAT IT READS IS OF BULK AT MOST 1048576: true; the input reads as it did. -/
def bitsReadsUptoRow : OpenClaim := { program := "ytbahmiiflkgigaa", sum := "d6faaf6adbe68fea6451acf09bf79c54af3fe6d2868d9d3d44571ab47cb624c6", func := "zoetrope/zoetropelaw1.BitsReads", spec := "bitsReads", inPlace := ["sync/atomic.AddInt64"], apart := false, narrowed := true }
def BitsReadsUptoSaid : Prop := bitsReadsUptoRow.holds Try.pinned (OpenSpec.upto bitsReadsSpec)

/-- 'zoetropelaw1.BitsBack', WHERE WHAT IT READS IS OF BULK AT MOST 1048576: true; the input reads as it did. -/
def bitsBackUptoRow : OpenClaim := { program := "ytbahmiiflkgigaa", sum := "d6faaf6adbe68fea6451acf09bf79c54af3fe6d2868d9d3d44571ab47cb624c6", func := "zoetrope/zoetropelaw1.BitsBack", spec := "bitsBack", inPlace := ["sync/atomic.AddInt64"], apart := false, narrowed := true }
def BitsBackUptoSaid : Prop := bitsBackUptoRow.holds Try.pinned (OpenSpec.upto bitsBackSpec)

end Rows
end Go.Proofs.Ytbahmiiflkgigaa
