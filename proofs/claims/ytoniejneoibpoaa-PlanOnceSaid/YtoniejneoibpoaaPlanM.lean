/- What the planned rows are: closed facts, asked by computing. -/
import Derived.Test.YtoniejneoibpoaaPlanA
namespace Go.Proofs.Ytoniejneoibpoaa
open Go.RowKit
set_option linter.unusedVariables false

def plainAt (L : List Pic) (i : Nat) : Bool := match L[i]? with | some q => q.frame == i && (q.ref && q.type != 1) | none => false
def plainChk (p m : Nat) : Bool := (planned p 0 m).length == m && (List.range m).all (plainAt (planned p 0 m))
theorem plain_all : ∀ p : Fin 8, ∀ m : Fin 32, 1 ≤ p.val → plainChk p.val m.val = true := by decide +kernel

def groupAt (p : Nat) (L : List Pic) (i : Nat) : Bool := match L[i]? with | some q => (q.poc == q.frame % p * 2 && q.key == (q.frame % p == 0)) && (q.key == (i % p == 0) && decide (q.frame ≤ 64)) | none => false
def keysOf (L : List Pic) (i : Nat) : Nat := (L.take i).countP Pic.key
def groupChk (p b m : Nat) : Bool := ((planned p b m).length == m && keysOf (planned p b m) m == (m + p - 1) / p) && (List.range m).all (groupAt p (planned p b m))
theorem group_all : ∀ p : Fin 8, ∀ b : Fin 3, ∀ m : Fin 32, 1 ≤ p.val → groupChk p.val b.val m.val = true := by decide +kernel



end Go.Proofs.Ytoniejneoibpoaa
