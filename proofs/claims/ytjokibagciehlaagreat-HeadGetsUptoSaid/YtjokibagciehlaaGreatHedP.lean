/- Headers, plainly: which there are. No function of the program. -/
import Derived.Test.YtjokibagciehlaaGreatParP
namespace Go.Proofs.YtjokibagciehlaaGreat
set_option linter.unusedVariables false

/-- a row of a list's modification -/
structure Md where
  k : Int
  v : Int
/-- a reference's weights -/
structure Wt where
  s0 : Int
  s1 : Int
  s2 : Int
  o0 : Int
  o1 : Int
  o2 : Int
/-- a marking operation -/
structure Mo where
  k : Int
  a : Int
  b : Int
/-- a slice's header -/
structure Hd where
  first : Int
  count : Int
  type : Int
  fn : Int
  id : Int
  poc : Int
  spatial : Bool
  a0 : Int
  a1 : Int
  m0 : List Md
  m1 : List Md
  log : Int
  logC : Int
  w0 : List Wt
  w1 : List Wt
  longKey : Bool
  ops : List Mo
  qp : Int
  off : Bool
  a : Int
  b : Int
def inR (l h x : Int) : Bool := decide (l ≤ x ∧ x ≤ h)
theorem inR_yes {l h x : Int} (q : l ≤ x ∧ x ≤ h) : inR l h x = true := decide_eq_true q
theorem inR_no {l h x : Int} (q : ¬ (l ≤ x ∧ x ≤ h)) : inR l h x = false := decide_eq_false q
theorem inR_iff {l h x : Int} : inR l h x = true ↔ l ≤ x ∧ x ≤ h := decide_eq_true_iff
def mdOk (m : Md) : Bool := inR 0 2 m.k && inR 0 255 m.v
def mayMds (l : List Md) (is : Bool) : Bool := decide (l.length ≤ 16) && (is || decide (l.length = 0)) && l.all mdOk
def wtOk (x : Wt) : Bool := inR (-128) 127 x.s0 && inR (-128) 127 x.o0 && (inR (-128) 127 x.s1 && inR (-128) 127 x.o1) && (inR (-128) 127 x.s2 && inR (-128) 127 x.o2)
def mayWts (l : List Wt) (many : Int) : Bool := decide ((l.length : Int) = many) && l.all wtOk
def hasA (k : Int) : Bool := k == 1 || k == 2 || k == 4 || k == 6 || k == 3
def hasB (k : Int) : Bool := k == 3
def moOk (m : Mo) : Bool := inR 1 6 m.k && inR 0 255 m.a && inR 0 255 m.b && (hasA m.k || m.a == 0) && (hasB m.k || m.b == 0)
def mayMos (l : List Mo) : Bool := decide (l.length ≤ 16) && l.all moOk
def wgt (t : Int) (p : Pp) : Bool := t == 0 && p.weighted || t == 1 && p.bipred == 1
def actB (x : Int) (is : Bool) : Bool := is && inR 1 8 x || !is && x == 0
def mayLs (h : Hd) (p : Pp) : Bool :=
  actB h.a0 (h.type != 2) && actB h.a1 (h.type == 1) && mayMds h.m0 (h.type != 2) && mayMds h.m1 (h.type == 1) &&
    (if wgt h.type p then inR 0 7 h.log && inR 0 7 h.logC && mayWts h.w0 h.a0 && mayWts h.w1 h.a1 else h.log == 0 && h.logC == 0 && decide (h.w0.length + h.w1.length = 0))
def r4 (h : Hd) (s : Sp) (key : Bool) : Bool := inR 0 (s.wide * s.high) h.first && inR 1 (s.wide * s.high - h.first) h.count && inR 0 2 h.type && !(key && h.type != 2)
def r6 (h : Hd) (s : Sp) (key : Bool) : Bool := inR 0 (2 ^ s.fb.toNat - 1) h.fn && !(key && h.fn != 0) && inR 0 255 h.id && !(!key && h.id != 0)
def r8 (h : Hd) (s : Sp) : Bool := inR 0 (2 ^ s.pb.toNat - 1) h.poc && !(s.pt != 0 && h.poc != 0) && !(h.spatial && h.type != 1)
def r10 (h : Hd) (p : Pp) (ref : Int) (key : Bool) : Bool := mayLs h p && !(h.longKey && (!key || decide (ref ≤ 0))) && mayMos h.ops && !(decide (0 < h.ops.length) && (key || decide (ref ≤ 0)))
def r12 (h : Hd) (p : Pp) : Bool := !(h.off && !p.deb) && inR (-6) 6 h.a && inR (-6) 6 h.b && !((h.off || !p.deb) && (h.a != 0 || h.b != 0))
/-- may a header be? -/
def mayHd (h : Hd) (s : Sp) (p : Pp) (ref : Int) (key : Bool) : Bool := maySp s && mayPp p && inR 0 3 ref && r4 h s key && r6 h s key && r8 h s && r10 h p ref key && r12 h p && inR 0 51 h.qp
end Go.Proofs.YtjokibagciehlaaGreat
