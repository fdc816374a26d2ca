/-
  No cell of these rows narrows 'for every input' (looked for: loops, veiled, ifaces, maps, wideKeys, modest, calm, conditions, laid).
  DERIVED. THE GIVEN ROWS OF THIS SEAT. 5 by the template 'for every input the law returns true; each argument reads behind the call as it read before'; 0 by the template 'total and deterministic' (their statements: YtoniejneoibpoaaTotals.lean).
  GIVEN WITH THE SEED: the statements are not yours to turn. If you find one false, say at which input.
  Laid BY PROGRAM, IN A SANDBOX (cutbox-rows.mjs): the forced cells as the released guide's own fill.sh prints them over the translation 9401051eb3d5a9e9… (all of the seat's roots in one cut). By AI agents, Wed Nov 11 2026. No macro, syntax, notation, axiom, sorry.
-/
import Derived.Test.YtoniejneoibpoaaChecked
import GoSem.Claim
import GoSem.ClaimJoined
import GoSem.ClaimMapViews
import Derived.JoinedTies
import Derived.KernelRfl
namespace Go.Proofs.Ytoniejneoibpoaa
/- THE CELL 'sum', in the pinned program and in every row, IS THE sha256 OF THE DUMP (.gsa) THAT YtoniejneoibpoaaProg.lean LOADS. Nothing in Lean hashes anything: it is a label: what it is worth is what the hold of that sum in a sandbox is worth. -/
noncomputable def Try.pinned : Pinned := { name := "ytoniejneoibpoaa", sum := "9401051eb3d5a9e9490b8500726e229fbecf5934bf136e9f68943420f5f54878", checked := Try.checked }
namespace Rows
def none {H : Type} : Left H := { results := [], args := [] }

/-- 'zoetropelaw0.ZoetropeNames': WHATEVER THE INPUT: true; the input reads as it did. -/
def zoetropeNamesSpec : ChangeSpec := { name := "zoetropeNames", fn := fun _ => fun
  | [] => { results := [.lit (.bool true)], args := [] }
  | _ => none }
def zoetropeNamesRow : OpenClaim := { program := "ytoniejneoibpoaa", sum := "9401051eb3d5a9e9490b8500726e229fbecf5934bf136e9f68943420f5f54878", func := "zoetrope/zoetropelaw0.ZoetropeNames", spec := "zoetropeNames", apart := false }
def ZoetropeNamesSaid : Prop := zoetropeNamesRow.holds Try.pinned (OpenSpec.ofChange zoetropeNamesSpec)

/-- ITS FALSE NEIGHBOUR: 'it returns false'. Refute it at one input. -/
def zoetropeNamesWrong : ChangeSpec := { name := "zoetropeNames", fn := fun _ => fun
  | [] => { results := [.lit (.bool false)], args := [] }
  | _ => none }
def ZoetropeNamesWrongFalsely : Prop := zoetropeNamesRow.holds Try.pinned (OpenSpec.ofChange zoetropeNamesWrong)

/-- 'zoetropelaw25.PlanAll': WHATEVER THE INPUT: true; the input reads as it did. -/
def planAllSpec : ChangeSpec := { name := "planAll", fn := fun _ => fun
  | [d1, d2] => { results := [.lit (.bool true)], args := [d1, d2] }
  | _ => none }
def planAllRow : OpenClaim := { program := "ytoniejneoibpoaa", sum := "9401051eb3d5a9e9490b8500726e229fbecf5934bf136e9f68943420f5f54878", func := "zoetrope/zoetropelaw25.PlanAll", spec := "planAll", unfollowed := true, recurses := true, apart := false }
def PlanAllSaid : Prop := planAllRow.holds Try.pinned (OpenSpec.ofChange planAllSpec)

/-- ITS FALSE NEIGHBOUR: 'it returns false'. Refute it at one input. -/
def planAllWrong : ChangeSpec := { name := "planAll", fn := fun _ => fun
  | [d1, d2] => { results := [.lit (.bool false)], args := [d1, d2] }
  | _ => none }
def PlanAllWrongFalsely : Prop := planAllRow.holds Try.pinned (OpenSpec.ofChange planAllWrong)

/-- 'zoetropelaw25.PlanOnce': WHATEVER THE INPUT: true; the input reads as it did. -/
def planOnceSpec : ChangeSpec := { name := "planOnce", fn := fun _ => fun
  | [d1, d2] => { results := [.lit (.bool true)], args := [d1, d2] }
  | _ => none }
def planOnceRow : OpenClaim := { program := "ytoniejneoibpoaa", sum := "9401051eb3d5a9e9490b8500726e229fbecf5934bf136e9f68943420f5f54878", func := "zoetrope/zoetropelaw25.PlanOnce", spec := "planOnce", unfollowed := true, recurses := true, apart := false }
def PlanOnceSaid : Prop := planOnceRow.holds Try.pinned (OpenSpec.ofChange planOnceSpec)

/-- ITS FALSE NEIGHBOUR: 'it returns false'. Refute it at one input. -/
def planOnceWrong : ChangeSpec := { name := "planOnce", fn := fun _ => fun
  | [d1, d2] => { results := [.lit (.bool false)], args := [d1, d2] }
  | _ => none }
def PlanOnceWrongFalsely : Prop := planOnceRow.holds Try.pinned (OpenSpec.ofChange planOnceWrong)

/-- 'zoetropelaw25.PlanGroups': WHATEVER THE INPUT: true; the input reads as it did. -/
def planGroupsSpec : ChangeSpec := { name := "planGroups", fn := fun _ => fun
  | [d1, d2, d3] => { results := [.lit (.bool true)], args := [d1, d2, d3] }
  | _ => none }
def planGroupsRow : OpenClaim := { program := "ytoniejneoibpoaa", sum := "9401051eb3d5a9e9490b8500726e229fbecf5934bf136e9f68943420f5f54878", func := "zoetrope/zoetropelaw25.PlanGroups", spec := "planGroups", unfollowed := true, recurses := true, apart := false }
def PlanGroupsSaid : Prop := planGroupsRow.holds Try.pinned (OpenSpec.ofChange planGroupsSpec)

/-- ITS FALSE NEIGHBOUR: 'it returns false'. Refute it at one input. -/
def planGroupsWrong : ChangeSpec := { name := "planGroups", fn := fun _ => fun
  | [d1, d2, d3] => { results := [.lit (.bool false)], args := [d1, d2, d3] }
  | _ => none }
def PlanGroupsWrongFalsely : Prop := planGroupsRow.holds Try.pinned (OpenSpec.ofChange planGroupsWrong)

/-- 'zoetropelaw25.PlanPlain': WHATEVER THE INPUT: true; the input reads as it did. -/
def planPlainSpec : ChangeSpec := { name := "planPlain", fn := fun _ => fun
  | [d1, d2] => { results := [.lit (.bool true)], args := [d1, d2] }
  | _ => none }
def planPlainRow : OpenClaim := { program := "ytoniejneoibpoaa", sum := "9401051eb3d5a9e9490b8500726e229fbecf5934bf136e9f68943420f5f54878", func := "zoetrope/zoetropelaw25.PlanPlain", spec := "planPlain", unfollowed := true, recurses := true, apart := false }
def PlanPlainSaid : Prop := planPlainRow.holds Try.pinned (OpenSpec.ofChange planPlainSpec)

/-- ITS FALSE NEIGHBOUR: 'it returns false'. Refute it at one input. -/
def planPlainWrong : ChangeSpec := { name := "planPlain", fn := fun _ => fun
  | [d1, d2] => { results := [.lit (.bool false)], args := [d1, d2] }
  | _ => none }
def PlanPlainWrongFalsely : Prop := planPlainRow.holds Try.pinned (OpenSpec.ofChange planPlainWrong)

/- THE SECOND FORM. 'bulk': how many values and letters a reading holds, each counted each time it is reached (what is shared counts as often as it is met; a slice's spare places count too). A statement '..UptoSaid' is the law's where the arguments, and the package variables that the reading takes, are together of bulk at most 1048576: NARROWER than '..Said'. Prove '..Said' where nothing that the law and all that it calls make is longer than what came in: it says more and counts as full. Else prove '..UptoSaid'. A law counts once. -/
mutual
def uptoBulk {H : Type} : DataW H → Nat
  | .lit (.string bytes) => bytes.length + 1
  | .lit _ => 1
  | .nil => 1
  | .ptr d => uptoBulk d + 1
  | .slice elems spare => uptoBulkAll elems + uptoBulkAll spare + 1
  | .agg parts => uptoBulkAll parts + 1
  | .iface _ d => uptoBulk d + 1
  | .map entries => uptoBulkEntries entries + 1
  | .held _ => 1
def uptoBulkAll {H : Type} : List (DataW H) → Nat
  | [] => 0
  | d :: r => uptoBulk d + uptoBulkAll r
def uptoBulkEntries {H : Type} : List (Lit × DataW H) → Nat
  | [] => 0
  | x :: r => uptoBulkEntry x + uptoBulkEntries r
def uptoBulkEntry {H : Type} : Lit × DataW H → Nat
  | (.string bytes, d) => bytes.length + uptoBulk d + 1
  | (_, d) => uptoBulk d + 1
 end
def uptoSmall : (H : Type) → List (DataW H) → Bool := fun _ ds => decide (uptoBulkAll ds ≤ 1048576)
def OpenSpec.upto (s : _root_.Go.ChangeSpec) : _root_.Go.OpenSpec := { _root_.Go.OpenSpec.ofChange s with cond := some uptoSmall }

/-- 'zoetropelaw0.ZoetropeNames', WHERE WHAT IT READS IS OF BULK AT MOST 1048576: true; the input reads as it did. -/
def zoetropeNamesUptoRow : OpenClaim := { program := "ytoniejneoibpoaa", sum := "9401051eb3d5a9e9490b8500726e229fbecf5934bf136e9f68943420f5f54878", func := "zoetrope/zoetropelaw0.ZoetropeNames", spec := "zoetropeNames", apart := false, narrowed := true }
def ZoetropeNamesUptoSaid : Prop := zoetropeNamesUptoRow.holds Try.pinned (OpenSpec.upto zoetropeNamesSpec)

/-- 'zoetropelaw25.PlanAll', WHERE WHAT IT READS IS OF BULK AT MOST 1048576: true; the input reads as it did. -/
def planAllUptoRow : OpenClaim := { program := "ytoniejneoibpoaa", sum := "9401051eb3d5a9e9490b8500726e229fbecf5934bf136e9f68943420f5f54878", func := "zoetrope/zoetropelaw25.PlanAll", spec := "planAll", unfollowed := true, recurses := true, apart := false, narrowed := true }
def PlanAllUptoSaid : Prop := planAllUptoRow.holds Try.pinned (OpenSpec.upto planAllSpec)

/-- 'zoetropelaw25.PlanOnce', WHERE WHAT IT READS IS OF BULK AT MOST 1048576: true; the input reads as it did. -/
def planOnceUptoRow : OpenClaim := { program := "ytoniejneoibpoaa", sum := "9401051eb3d5a9e9490b8500726e229fbecf5934bf136e9f68943420f5f54878", func := "zoetrope/zoetropelaw25.PlanOnce", spec := "planOnce", unfollowed := true, recurses := true, apart := false, narrowed := true }
def PlanOnceUptoSaid : Prop := planOnceUptoRow.holds Try.pinned (OpenSpec.upto planOnceSpec)

/-- 'zoetropelaw25.PlanGroups', WHERE WHAT IT READS IS OF BULK AT MOST 1048576: true; the input reads as it did. -/
def planGroupsUptoRow : OpenClaim := { program := "ytoniejneoibpoaa", sum := "9401051eb3d5a9e9490b8500726e229fbecf5934bf136e9f68943420f5f54878", func := "zoetrope/zoetropelaw25.PlanGroups", spec := "planGroups", unfollowed := true, recurses := true, apart := false, narrowed := true }
def PlanGroupsUptoSaid : Prop := planGroupsUptoRow.holds Try.pinned (OpenSpec.upto planGroupsSpec)

/-- 'zoetropelaw25.PlanPlain', WHERE WHAT IT READS IS OF BULK AT MOST 1048576: true; the input reads as it did. -/
def planPlainUptoRow : OpenClaim := { program := "ytoniejneoibpoaa", sum := "9401051eb3d5a9e9490b8500726e229fbecf5934bf136e9f68943420f5f54878", func := "zoetrope/zoetropelaw25.PlanPlain", spec := "planPlain", unfollowed := true, recurses := true, apart := false, narrowed := true }
def PlanPlainUptoSaid : Prop := planPlainUptoRow.holds Try.pinned (OpenSpec.upto planPlainSpec)

end Rows
end Go.Proofs.Ytoniejneoibpoaa
