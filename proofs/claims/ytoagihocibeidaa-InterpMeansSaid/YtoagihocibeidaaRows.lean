/-
  No cell of these rows narrows 'for every input' (looked for: loops, veiled, ifaces, maps, wideKeys, modest, calm, conditions, laid).
  DERIVED. THE GIVEN ROWS OF THIS SEAT. 6 by the template 'for every input the law returns true; each argument reads behind the call as it read before'; 0 by the template 'total and deterministic' (their statements: YtoagihocibeidaaTotals.lean).
  GIVEN WITH THE SEED: the statements are not yours to turn. If you find one false, say at which input.
  Laid BY PROGRAM, IN A SANDBOX (cutbox-rows.mjs): the forced cells as the released guide's own fill.sh prints them over the translation b4ebc0ead69846fd… (all of the seat's roots in one cut). By AI agents, Wed Nov 11 2026. No macro, syntax, notation, axiom, sorry.
-/
import Derived.Test.YtoagihocibeidaaChecked
import GoSem.Claim
import GoSem.ClaimJoined
import GoSem.ClaimMapViews
import Derived.JoinedTies
import Derived.KernelRfl
namespace Go.Proofs.Ytoagihocibeidaa
/- THE CELL 'sum', in the pinned program and in every row, IS THE sha256 OF THE DUMP (.gsa) THAT YtoagihocibeidaaProg.lean LOADS. Nothing in Lean hashes anything: it is a label: what it is worth is what the hold of that sum in a sandbox is worth. -/
noncomputable def Try.pinned : Pinned := { name := "ytoagihocibeidaa", sum := "b4ebc0ead69846fd4a3626bdaef0d34ae87ce524f887997933f0ce30ce8fbd4d", checked := Try.checked }
namespace Rows
def none {H : Type} : Left H := { results := [], args := [] }

/-- 'zoetropelaw12.Interps': WHATEVER THE INPUT: true; the input reads as it did. -/
def interpsSpec : ChangeSpec := { name := "interps", fn := fun _ => fun
  | [d1, d2, d3, d4, d5, d6, d7] => { results := [.lit (.bool true)], args := [d1, d2, d3, d4, d5, d6, d7] }
  | _ => none }
def interpsRow : OpenClaim := { program := "ytoagihocibeidaa", sum := "b4ebc0ead69846fd4a3626bdaef0d34ae87ce524f887997933f0ce30ce8fbd4d", func := "zoetrope/zoetropelaw12.Interps", spec := "interps", unfollowed := true, recurses := true, apart := false }
def InterpsSaid : Prop := interpsRow.holds Try.pinned (OpenSpec.ofChange interpsSpec)

/-- ITS FALSE NEIGHBOUR: 'it returns false'. Refute it at one input. -/
def interpsWrong : ChangeSpec := { name := "interps", fn := fun _ => fun
  | [d1, d2, d3, d4, d5, d6, d7] => { results := [.lit (.bool false)], args := [d1, d2, d3, d4, d5, d6, d7] }
  | _ => none }
def InterpsWrongFalsely : Prop := interpsRow.holds Try.pinned (OpenSpec.ofChange interpsWrong)

/-- 'zoetropelaw12.InterpFlat': WHATEVER THE INPUT: true; the input reads as it did. -/
def interpFlatSpec : ChangeSpec := { name := "interpFlat", fn := fun _ => fun
  | [d1, d2, d3, d4] => { results := [.lit (.bool true)], args := [d1, d2, d3, d4] }
  | _ => none }
def interpFlatRow : OpenClaim := { program := "ytoagihocibeidaa", sum := "b4ebc0ead69846fd4a3626bdaef0d34ae87ce524f887997933f0ce30ce8fbd4d", func := "zoetrope/zoetropelaw12.InterpFlat", spec := "interpFlat", unfollowed := true, recurses := true, apart := false }
def InterpFlatSaid : Prop := interpFlatRow.holds Try.pinned (OpenSpec.ofChange interpFlatSpec)

/-- ITS FALSE NEIGHBOUR: 'it returns false'. Refute it at one input. -/
def interpFlatWrong : ChangeSpec := { name := "interpFlat", fn := fun _ => fun
  | [d1, d2, d3, d4] => { results := [.lit (.bool false)], args := [d1, d2, d3, d4] }
  | _ => none }
def InterpFlatWrongFalsely : Prop := interpFlatRow.holds Try.pinned (OpenSpec.ofChange interpFlatWrong)

/-- 'zoetropelaw12.InterpTurned': WHATEVER THE INPUT: true; the input reads as it did. -/
def interpTurnedSpec : ChangeSpec := { name := "interpTurned", fn := fun _ => fun
  | [d1, d2, d3] => { results := [.lit (.bool true)], args := [d1, d2, d3] }
  | _ => none }
def interpTurnedRow : OpenClaim := { program := "ytoagihocibeidaa", sum := "b4ebc0ead69846fd4a3626bdaef0d34ae87ce524f887997933f0ce30ce8fbd4d", func := "zoetrope/zoetropelaw12.InterpTurned", spec := "interpTurned", unfollowed := true, recurses := true, apart := false }
def InterpTurnedSaid : Prop := interpTurnedRow.holds Try.pinned (OpenSpec.ofChange interpTurnedSpec)

/-- ITS FALSE NEIGHBOUR: 'it returns false'. Refute it at one input. -/
def interpTurnedWrong : ChangeSpec := { name := "interpTurned", fn := fun _ => fun
  | [d1, d2, d3] => { results := [.lit (.bool false)], args := [d1, d2, d3] }
  | _ => none }
def InterpTurnedWrongFalsely : Prop := interpTurnedRow.holds Try.pinned (OpenSpec.ofChange interpTurnedWrong)

/-- 'zoetropelaw12.InterpMeans': WHATEVER THE INPUT: true; the input reads as it did. -/
def interpMeansSpec : ChangeSpec := { name := "interpMeans", fn := fun _ => fun
  | [d1, d2, d3] => { results := [.lit (.bool true)], args := [d1, d2, d3] }
  | _ => none }
def interpMeansRow : OpenClaim := { program := "ytoagihocibeidaa", sum := "b4ebc0ead69846fd4a3626bdaef0d34ae87ce524f887997933f0ce30ce8fbd4d", func := "zoetrope/zoetropelaw12.InterpMeans", spec := "interpMeans", unfollowed := true, recurses := true, apart := false }
def InterpMeansSaid : Prop := interpMeansRow.holds Try.pinned (OpenSpec.ofChange interpMeansSpec)

/-- ITS FALSE NEIGHBOUR: 'it returns false'. Refute it at one input. -/
def interpMeansWrong : ChangeSpec := { name := "interpMeans", fn := fun _ => fun
  | [d1, d2, d3] => { results := [.lit (.bool false)], args := [d1, d2, d3] }
  | _ => none }
def InterpMeansWrongFalsely : Prop := interpMeansRow.holds Try.pinned (OpenSpec.ofChange interpMeansWrong)

/-- 'zoetropelaw12.InterpRamps': WHATEVER THE INPUT: true; the input reads as it did. -/
def interpRampsSpec : ChangeSpec := { name := "interpRamps", fn := fun _ => fun
  | [d1, d2] => { results := [.lit (.bool true)], args := [d1, d2] }
  | _ => none }
def interpRampsRow : OpenClaim := { program := "ytoagihocibeidaa", sum := "b4ebc0ead69846fd4a3626bdaef0d34ae87ce524f887997933f0ce30ce8fbd4d", func := "zoetrope/zoetropelaw12.InterpRamps", spec := "interpRamps", unfollowed := true, recurses := true, apart := false }
def InterpRampsSaid : Prop := interpRampsRow.holds Try.pinned (OpenSpec.ofChange interpRampsSpec)

/-- ITS FALSE NEIGHBOUR: 'it returns false'. Refute it at one input. -/
def interpRampsWrong : ChangeSpec := { name := "interpRamps", fn := fun _ => fun
  | [d1, d2] => { results := [.lit (.bool false)], args := [d1, d2] }
  | _ => none }
def InterpRampsWrongFalsely : Prop := interpRampsRow.holds Try.pinned (OpenSpec.ofChange interpRampsWrong)

/-- 'zoetropelaw12.InterpFar': WHATEVER THE INPUT: true; the input reads as it did. -/
def interpFarSpec : ChangeSpec := { name := "interpFar", fn := fun _ => fun
  | [d1, d2, d3] => { results := [.lit (.bool true)], args := [d1, d2, d3] }
  | _ => none }
def interpFarRow : OpenClaim := { program := "ytoagihocibeidaa", sum := "b4ebc0ead69846fd4a3626bdaef0d34ae87ce524f887997933f0ce30ce8fbd4d", func := "zoetrope/zoetropelaw12.InterpFar", spec := "interpFar", unfollowed := true, recurses := true, apart := false }
def InterpFarSaid : Prop := interpFarRow.holds Try.pinned (OpenSpec.ofChange interpFarSpec)

/-- ITS FALSE NEIGHBOUR: 'it returns false'. Refute it at one input. -/
def interpFarWrong : ChangeSpec := { name := "interpFar", fn := fun _ => fun
  | [d1, d2, d3] => { results := [.lit (.bool false)], args := [d1, d2, d3] }
  | _ => none }
def InterpFarWrongFalsely : Prop := interpFarRow.holds Try.pinned (OpenSpec.ofChange interpFarWrong)

/- THE SECOND FORM. 'bulk': how many values and letters a reading holds, each counted each time it is reached (what is shared counts as often as it is met; a slice's spare places count too). A statement '..UptoSaid' is the law's where the arguments, and the package variables that the reading takes, are together of bulk at most 1048576: NARROWER than '..Said'. Prove '..Said' where nothing that the law and all that it calls make is longer than what came in: it says more and counts as full. Else prove '..UptoSaid'. A law counts once. -/
mutual
def uptoBulk {H : Type} : DataW H → Nat
  | .lit (.string bytes) => bytes.length + 1
  | .lit _ => 1
  | .nil => 1
  | .ptr d => uptoBulk d + 1
  | .slice elems spare => uptoBulkAll elems + uptoBulkAll spare + 1
  | .agg parts => uptoBulkAll parts + 1
  | .iface _ d => uptoBulk d + 1
  | .map entries => uptoBulkEntries entries + 1
  | .held _ => 1
def uptoBulkAll {H : Type} : List (DataW H) → Nat
  | [] => 0
  | d :: r => uptoBulk d + uptoBulkAll r
def uptoBulkEntries {H : Type} : List (Lit × DataW H) → Nat
  | [] => 0
  | x :: r => uptoBulkEntry x + uptoBulkEntries r
def uptoBulkEntry {H : Type} : Lit × DataW H → Nat
  | (.string bytes, d) => bytes.length + uptoBulk d + 1
  | (_, d) => uptoBulk d + 1
 end
def uptoSmall : (H : Type) → List (DataW H) → Bool := fun _ ds => decide (uptoBulkAll ds ≤ 1048576)
def OpenSpec.upto (s : _root_.Go.ChangeSpec) : _root_.Go.OpenSpec := { _root_.Go.OpenSpec.ofChange s with cond := some uptoSmall }

/-- 'zoetropelaw12.Interps', WHERE WHAT IT READS IS OF BULK AT MOST 1048576: true; the input reads as it did. -/
def interpsUptoRow : OpenClaim := { program := "ytoagihocibeidaa", sum := "b4ebc0ead69846fd4a3626bdaef0d34ae87ce524f887997933f0ce30ce8fbd4d", func := "zoetrope/zoetropelaw12.Interps", spec := "interps", unfollowed := true, recurses := true, apart := false, narrowed := true }
def InterpsUptoSaid : Prop := interpsUptoRow.holds Try.pinned (OpenSpec.upto interpsSpec)

/-- 'zoetropelaw12.InterpFlat', WHERE WHAT IT READS IS OF BULK AT MOST 1048576: true; the input reads as it did. -/
def interpFlatUptoRow : OpenClaim := { program := "ytoagihocibeidaa", sum := "b4ebc0ead69846fd4a3626bdaef0d34ae87ce524f887997933f0ce30ce8fbd4d", func := "zoetrope/zoetropelaw12.InterpFlat", spec := "interpFlat", unfollowed := true, recurses := true, apart := false, narrowed := true }
def InterpFlatUptoSaid : Prop := interpFlatUptoRow.holds Try.pinned (OpenSpec.upto interpFlatSpec)

/-- 'zoetropelaw12.InterpTurned', WHERE WHAT IT READS IS OF BULK AT MOST 1048576: true; the input reads as it did. -/
def interpTurnedUptoRow : OpenClaim := { program := "ytoagihocibeidaa", sum := "b4ebc0ead69846fd4a3626bdaef0d34ae87ce524f887997933f0ce30ce8fbd4d", func := "zoetrope/zoetropelaw12.InterpTurned", spec := "interpTurned", unfollowed := true, recurses := true, apart := false, narrowed := true }
def InterpTurnedUptoSaid : Prop := interpTurnedUptoRow.holds Try.pinned (OpenSpec.upto interpTurnedSpec)

/-- 'zoetropelaw12.InterpMeans', WHERE WHAT IT READS IS OF BULK AT MOST 1048576: true; the input reads as it did. -/
def interpMeansUptoRow : OpenClaim := { program := "ytoagihocibeidaa", sum := "b4ebc0ead69846fd4a3626bdaef0d34ae87ce524f887997933f0ce30ce8fbd4d", func := "zoetrope/zoetropelaw12.InterpMeans", spec := "interpMeans", unfollowed := true, recurses := true, apart := false, narrowed := true }
def InterpMeansUptoSaid : Prop := interpMeansUptoRow.holds Try.pinned (OpenSpec.upto interpMeansSpec)

/-- 'zoetropelaw12.InterpRamps', WHERE WHAT IT READS IS OF BULK AT MOST 1048576: true; the input reads as it did. -/
def interpRampsUptoRow : OpenClaim := { program := "ytoagihocibeidaa", sum := "b4ebc0ead69846fd4a3626bdaef0d34ae87ce524f887997933f0ce30ce8fbd4d", func := "zoetrope/zoetropelaw12.InterpRamps", spec := "interpRamps", unfollowed := true, recurses := true, apart := false, narrowed := true }
def InterpRampsUptoSaid : Prop := interpRampsUptoRow.holds Try.pinned (OpenSpec.upto interpRampsSpec)

/-- 'zoetropelaw12.InterpFar', WHERE WHAT IT READS IS OF BULK AT MOST 1048576: true; the input reads as it did. -/
def interpFarUptoRow : OpenClaim := { program := "ytoagihocibeidaa", sum := "b4ebc0ead69846fd4a3626bdaef0d34ae87ce524f887997933f0ce30ce8fbd4d", func := "zoetrope/zoetropelaw12.InterpFar", spec := "interpFar", unfollowed := true, recurses := true, apart := false, narrowed := true }
def InterpFarUptoSaid : Prop := interpFarUptoRow.holds Try.pinned (OpenSpec.upto interpFarSpec)

end Rows
end Go.Proofs.Ytoagihocibeidaa
