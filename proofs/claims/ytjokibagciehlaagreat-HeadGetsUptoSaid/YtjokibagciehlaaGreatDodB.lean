/- The document's May, plainly. Printed by gen-dodb.py P. -/
import Derived.Test.YtjokibagciehlaaGreatDodA
import Derived.Test.YtjokibagciehlaaGreatHedF
import Derived.Test.YtjokibagciehlaaGreatParD
import Derived.Test.YtjokibagciehlaaGreatParG
import Derived.Test.YtjokibagciehlaaGreatQuiet
import Derived.Deep.DeepCutAuto
namespace Go.Proofs.YtjokibagciehlaaGreat
open Go.RowKit
set_option linter.unusedVariables false
set_option linter.unusedSimpArgs false

def m2a (h : Hd) (s : Sp) (p : Pp) (ref : Int) : Bool := maySp s && mayPp p && inR 0 3 ref && inR 0 (s.wide * s.high - 1) h.first && inR 1 (s.wide * s.high - h.first) h.count && inR 0 2 h.type
def m2b (h : Hd) (s : Sp) (key : Bool) : Bool := (!key || h.type == 2) && inR 0 (2 ^ s.fb.toNat - 1) h.fn && (!key || h.fn == 0) && inR 0 255 h.id && (key || h.id == 0)
def m2c (h : Hd) (s : Sp) : Bool := inR 0 (2 ^ s.pb.toNat - 1) h.poc && (s.pt == 0 || h.poc == 0) && (h.type == 1 || !h.spatial) && actB h.a0 (h.type != 2) && actB h.a1 (h.type == 1)
def m2d (h : Hd) : Bool := mayMds h.m0 (h.type != 2) && mayMds h.m1 (h.type == 1)
def m2e (h : Hd) (p : Pp) : Bool := if wgt h.type p = true then inR 0 7 h.log && inR 0 7 h.logC && mayWts h.w0 h.a0 && mayWts h.w1 h.a1 else h.log == 0 && h.logC == 0 && (h.w0.length : Int) == 0 && (h.w1.length : Int) == 0
def m2f (h : Hd) (ref : Int) (key : Bool) : Bool := (!h.longKey || (key && decide (0 < ref))) && ((h.ops.length : Int) == 0 || (!key && decide (0 < ref))) && mayMos h.ops && inR 0 51 h.qp
def m2g (h : Hd) (p : Pp) : Bool := (p.deb || !h.off) && inR (-6) 6 h.a && inR (-6) 6 h.b && ((p.deb && !h.off) || (h.a == 0 && h.b == 0))
def may2 (h : Hd) (s : Sp) (p : Pp) (ref : Int) (key : Bool) : Bool := m2a h s p ref && (m2b h s key && m2c h s) && m2d h && m2e h p && m2f h ref key && m2g h p
theorem nb_ne (a : Bool) (x y : Int) : (!(a && (x != y))) = (!a || x == y) := by
  unfold bne
  cases a <;> cases (x == y) <;> rfl
theorem m2_first (s : Sp) (h : Hd) : (inR 0 (s.wide * s.high) h.first && inR 1 (s.wide * s.high - h.first) h.count) = (inR 0 (s.wide * s.high - 1) h.first && inR 1 (s.wide * s.high - h.first) h.count) := by
  generalize s.wide * s.high = X
  rw [Bool.eq_iff_iff]
  simp only [Bool.and_eq_true, inR_iff]
  omega
theorem m2_lk (lk key : Bool) (ref : Int) : (!(lk && (!key || decide (ref ≤ 0)))) = (!lk || (key && decide (0 < ref))) := by
  have : decide (ref ≤ 0) = !decide (0 < ref) := by rw [Bool.eq_iff_iff]; simp
  rw [this]
  cases lk <;> cases key <;> cases decide (0 < ref) <;> rfl
theorem m2_ops (n : Nat) (key : Bool) (ref : Int) : (!(decide (0 < n) && (key || decide (ref ≤ 0)))) = ((n : Int) == 0 || (!key && decide (0 < ref))) := by
  have h1 : decide (ref ≤ 0) = !decide (0 < ref) := by rw [Bool.eq_iff_iff]; simp
  have h2 : ((n : Int) == 0) = !decide (0 < n) := by rw [Bool.eq_iff_iff]; simp
  rw [h1, h2]
  cases decide (0 < n) <;> cases key <;> cases decide (0 < ref) <;> rfl
theorem m2_off (of db : Bool) : (!(of && !db)) = (db || !of) := by cases of <;> cases db <;> rfl
theorem m2_ab (of db : Bool) (a b : Int) : (!((of || !db) && (a != 0 || b != 0))) = ((db && !of) || (a == 0 && b == 0)) := by
  unfold bne
  cases of <;> cases db <;> cases (a == 0) <;> cases (b == 0) <;> rfl
theorem m2_len (m n : Nat) : decide (m + n = 0) = ((m : Int) == 0 && (n : Int) == 0) := by
  rw [Bool.eq_iff_iff]
  simp
theorem may2_eq (h : Hd) (s : Sp) (p : Pp) (ref : Int) (key : Bool) : may2 h s p ref key = mayHd h s p ref key := by
  unfold may2 m2a m2b m2c m2d m2e m2f m2g mayHd r4 r6 r8 r10 r12 mayLs
  rw [m2_first, nb_ne, nb_ne, nb_ne, nb_ne, nb_ne, m2_lk, m2_ops, m2_off, m2_ab, m2_len, Bool.not_not]
  have e : (!(s.pt != 0)) = (s.pt == 0) := by unfold bne; rw [Bool.not_not]
  rw [e, Bool.or_comm (h.type == 1) (!h.spatial)]
  split
  · simp only [Bool.and_assoc]
    ac_rfl
  · simp only [Bool.and_assoc]
    ac_rfl
end Go.Proofs.YtjokibagciehlaaGreat
