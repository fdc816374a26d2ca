/- The document's reading of a header, plainly; it is the program's. No function of the program. The document's reading of a header is the program's, plainly. No function of the program. append of a slice of structs that is read (nil too) onto a row of the call's own. No function of the program. Headers lent and kept. Printed by gen-dodn.py. The document's getMods, getWeights. Printed by gen-dodr.py. What the document's get holds on its way; getMarks. Printed by gen-dods.py. The document's getMarks. Printed by gen-dodv.py. What the document's rest holds on its way. The document's rest. Printed by gen-dodx.py. The document's get. Printed by gen-dodu.py. The document's reading of a header is the program's: all fields. No function of the program. A header's rows, written over. Printed by gen-dodt.py. -/
import Derived.Test.YtjokibagciehlaaGreatBitZ
import Derived.Test.YtjokibagciehlaaGreatDodA
import Derived.Test.YtjokibagciehlaaGreatHeaY
import Derived.Test.YtjokibagciehlaaGreatAppend
import Derived.Laws.StructEq
import Derived.Laws.Tables
import Derived.Deep.RegionHeld3
import Derived.Deep.AppendLies
import Derived.Deep.DeepCutAuto
import Derived.Deep.DrawnRows
import Derived.Deep.RegionLaw
import Derived.BigQuiet
namespace Go.Proofs.YtjokibagciehlaaGreat
set_option linter.unusedVariables false
set_option linter.unusedSimpArgs false

section
variable (f : Nat → Bool) (N : Nat)
def uV (t : St) : Int := dX t.bad (ueX f N t)
def uS (t : St) : St := dS t (ueS f N t)
def sV (t : St) : Int := dX t.bad (seX f N t)
def bV (n : Int) (t : St) : Int := dX t.bad (btX f N n t)
def bS (n : Int) (t : St) : St := dS t (btS f N n t)
/-- so many things, until a field was none -/
def itG {α : Type} (S : St → St) (X : St → α) : Nat → St → List α × St
 | 0, t => ([], t)
 | n + 1, t => if t.bad = true then ([], t) else (X t :: (itG S X n (S t)).1, (itG S X n (S t)).2)
/-- a list's modification -/
def mdS (t : St) : St := uS f N (uS f N t)
def mdX (t : St) : Md := ⟨uV f N t, uV f N (uS f N t)⟩
def mdsG (t : St) : List Md × Bool × St := if 16 < uV f N t then ([], false, uS f N t) else ((itG (mdS f N) (mdX f N) (uV f N t).toNat (uS f N t)).1, true, (itG (mdS f N) (mdX f N) (uV f N t).toNat (uS f N t)).2)
/-- one list's weights -/
def wtS1 (t : St) : St := uS f N (uS f N t)
def wtS (t : St) : St := wtS1 f N (wtS1 f N (wtS1 f N t))
def wtX (t : St) : Wt := ⟨sV f N t, sV f N (wtS1 f N t), sV f N (wtS1 f N (wtS1 f N t)), sV f N (uS f N t), sV f N (uS f N (wtS1 f N t)), sV f N (uS f N (wtS1 f N (wtS1 f N t)))⟩
def wtG (n : Nat) (t : St) : List Wt × St := itG (wtS f N) (wtX f N) n t
/-- marking -/
def moA (t : St) : Int × St := if hasA2 (uV f N t) = true then (uV f N (uS f N t), uS f N (uS f N t)) else (0, uS f N t)
def moB (t : St) : Int × St := if hasB (uV f N t) = true then (uV f N (moA f N t).2, uS f N (moA f N t).2) else (0, (moA f N t).2)
def moG : Nat → St → List Mo × Bool × St
 | 0, t => ([], true, t)
 | n + 1, t => if t.bad = true then ([], true, t) else
   if (!(uS f N t).bad && !inR 1 6 (uV f N t)) = true then ([], false, uS f N t) else
    (⟨uV f N t, (moA f N t).1, (moB f N t).1⟩ :: (moG n (moB f N t).2).1, (moG n (moB f N t).2).2.1, (moG n (moB f N t).2).2.2)
/-- a reader's state and a header -/
structure Dd where
 t : St
 h : Hd
def reA (d : Dd) : Dd := if d.h.type = 1 then ⟨bS f N 1 d.t, { d.h with spatial := bV f N 1 d.t == 1 }⟩ else d
def reB (d : Dd) : Dd := if d.h.type ≠ 2 then ⟨uS f N d.t, { d.h with a0 := uV f N d.t + 1 }⟩ else d
def reC (d : Dd) : Dd := if d.h.type = 1 then ⟨uS f N d.t, { d.h with a1 := uV f N d.t + 1 }⟩ else d
def reX (d : Dd) : Bool := !d.t.bad && (decide (8 < d.h.a0) || decide (8 < d.h.a1))
def reE (d : Dd) : Dd × Bool := if d.h.type ≠ 2 then (⟨(mdsG f N d.t).2.2, { d.h with m0 := (mdsG f N d.t).1 }⟩, (mdsG f N d.t).2.1) else (d, true)
def reF (e : Dd × Bool) : Dd × Bool := if e.1.h.type = 1 ∧ e.2 = true then (⟨(mdsG f N e.1.t).2.2, { e.1.h with m1 := (mdsG f N e.1.t).1 }⟩, (mdsG f N e.1.t).2.1) else e
def reL (d : Dd) : Dd := ⟨uS f N (uS f N d.t), { d.h with log := uV f N d.t, logC := uV f N (uS f N d.t) }⟩
def reI (d : Dd) : Dd := ⟨(wtG f N d.h.a0.toNat d.t).2, { d.h with w0 := (wtG f N d.h.a0.toNat d.t).1 }⟩
def reJ (d : Dd) : Dd := ⟨(wtG f N d.h.a1.toNat d.t).2, { d.h with w1 := (wtG f N d.h.a1.toNat d.t).1 }⟩
def reW (p : Pp) (e : Dd × Bool) : Dd × Bool := if (e.2 && !e.1.t.bad && wgt e.1.h.type p) = true then (reJ f N (reI f N (reL f N e.1)), e.2) else e
def reK (d : Dd) : Dd := ⟨bS f N 1 d.t, { d.h with longKey := bV f N 1 d.t == 1 }⟩
def reO (d : Dd) : Dd × Bool := if 16 < uV f N d.t then (⟨uS f N d.t, d.h⟩, false) else (⟨(moG f N (uV f N d.t).toNat (uS f N d.t)).2.2, { d.h with ops := (moG f N (uV f N d.t).toNat (uS f N d.t)).1 }⟩, (moG f N (uV f N d.t).toNat (uS f N d.t)).2.1)
def reM (key : Bool) (d : Dd) : Dd × Bool := if key = true then (reK f N d, true) else reO f N d
def reH (ref : Int) (key : Bool) (e : Dd × Bool) : Dd × Bool := if (e.2 && decide (0 < ref)) = true then reM f N key e.1 else e
def reQ (d : Dd) : Dd := ⟨uS f N d.t, { d.h with qp := uV f N d.t }⟩
def reZ (d : Dd) : Dd := ⟨bS f N 1 d.t, { d.h with off := bV f N 1 d.t == 1 }⟩
def reY (d : Dd) : Dd := if d.h.off = true then d else ⟨uS f N (uS f N d.t), { d.h with a := sV f N d.t, b := sV f N (uS f N d.t) }⟩
def reD (p : Pp) (d : Dd) : Dd := if p.deb = true then reY f N (reZ f N d) else d
def fin (d : Dd) : Hd × Int × St := (d.h, if d.t.bad = true then 400 else 0, d.t)
def out (e : Dd × Bool) (p : Pp) : Hd × Int × St := if e.2 = false then (e.1.h, 401, e.1.t) else fin (reD f N p (reQ f N e.1))
def rest2 (p : Pp) (ref : Int) (key : Bool) (d : Dd) : Hd × Int × St := out f N (reH f N ref key (reW f N p (reF f N (reE f N d)))) p
def rest (p : Pp) (ref : Int) (key : Bool) (d : Dd) : Hd × Int × St :=
 if reX (reC f N (reB f N (reA f N d))) = true then ((reC f N (reB f N (reA f N d))).h, 401, (reC f N (reB f N (reA f N d))).t) else rest2 f N p ref key (reC f N (reB f N (reA f N d)))
def doA (t : St) : Dd := ⟨uS f N (uS f N (uS f N t)), { Hd.zero with first := uV f N t, count := uV f N (uS f N t) + 1, type := uV f N (uS f N (uS f N t)) }⟩
def doE (s : Sp) (d : Dd) : Dd := ⟨bS f N s.fb d.t, { d.h with fn := bV f N s.fb d.t }⟩
def doF (key : Bool) (d : Dd) : Dd := if key = true then ⟨uS f N d.t, { d.h with id := uV f N d.t }⟩ else d
def doG (s : Sp) (d : Dd) : Dd := if s.pt = 0 then ⟨bS f N s.pb d.t, { d.h with poc := bV f N s.pb d.t }⟩ else d
def doGet (s : Sp) (p : Pp) (ref : Int) (key : Bool) (t : St) : Hd × Int × St :=
 if (!(doA f N t).t.bad && decide (2 < (doA f N t).h.type)) = true then ((doA f N t).h, 401, (doA f N t).t) else rest f N p ref key (doG f N s (doF f N key (doE f N s (doA f N t))))
/-- what the document's Get answers -/
def getHd2 (s : Sp) (p : Pp) (ref : Int) (key : Bool) (a : Nat) : Hd × Int × Nat :=
 if (maySp s && mayPp p && inR 0 3 ref) = true then
  (if (doGet f N s p ref key ⟨a, false⟩).2.1 = 0 ∧ mayHd (doGet f N s p ref key ⟨a, false⟩).1 s p ref key = true then ((doGet f N s p ref key ⟨a, false⟩).1, 0, (doGet f N s p ref key ⟨a, false⟩).2.2.a)
   else (.zero, if (doGet f N s p ref key ⟨a, false⟩).2.1 = 0 then 401 else (doGet f N s p ref key ⟨a, false⟩).2.1, a))
 else (.zero, 401, a)

/-- the program's state P and the document's d: alike; or both bad; or the program's count was too much and the document has left -/
def Rl (P : Hw) (d : Dd) (fine : Bool) : Prop :=
 (∃ a, P.k = .rd a false false ∧ d = ⟨⟨a, false⟩, P.h⟩ ∧ fine = true) ∨ (∃ a, P.k = .rd a true false ∧ d.t.bad = true ∧ fine = true) ∨ (∃ a, P.k = .rd a false true ∧ fine = false)
theorem Rl.good (a : Nat) (h : Hd) : Rl ⟨.rd a false false, h⟩ ⟨⟨a, false⟩, h⟩ true := .inl ⟨a, rfl, rfl, rfl⟩
theorem Rl.bad {P : Hw} {d : Dd} {a : Nat} (h1 : P.k = .rd a true false) (h2 : d.t.bad = true) : Rl P d true := .inr (.inl ⟨a, h1, h2, rfl⟩)
theorem Rl.many {P : Hw} {d : Dd} {a : Nat} (h1 : P.k = .rd a false true) : Rl P d false := .inr (.inr ⟨a, h1, rfl⟩)
-- a stopped walk stays
theorem ue_stop {k : Wk} (h : k.stop = true) (x : Int) : ueM f N x k = k := by
 cases k with
 | wr b => cases h
 | rd a b c => exact if_pos h
theorem se_stop {k : Wk} (h : k.stop = true) (x : Int) : seM f N x k = k := by
 cases k with
 | wr b => cases h
 | rd a b c => exact if_pos h
theorem fx_stop {k : Wk} (h : k.stop = true) (n x : Int) : fxM f N n x k = k := by
 cases k with
 | wr b => cases h
 | rd a b c => exact if_pos h
theorem ck_stop {k : Wk} (h : k.stop = true) (x : Bool) : ckM x k = k := by
 cases k with
 | wr b => cases h
 | rd a b c =>
  cases b
  ·cases c
   ·cases h
   ·rfl
  ·cases c <;> rfl
theorem it_stop {α : Type} (m : α → Wk → Wk) {k : Wk} (h : k.stop = true) (hm : ∀ x, m x k = k) : ∀ l : List α, itM m l k = k
 | [] => rfl
 | x :: l => by
  show itM m l (m x k) = k
  rw [hm x]
  exact it_stop m h hm l
theorem rw_stop {α : Type} (m : α → Wk → Wk) (z : α) {k : Wk} (h : k.stop = true) (l : List α) : rwM f N m z l k = k := by
 unfold rwM
 rw [ue_stop f N h]
 cases k with
 | wr b => cases h
 | rd a b c =>
  show (if _ then _ else _) = _
  rw [ck_stop h, if_pos h]
-- the document's bad state stays
theorem uS_bad {t : St} (h : t.bad = true) : uS f N t = t := if_pos h
theorem bS_bad {t : St} (h : t.bad = true) (n : Int) : bS f N n t = t := if_pos h
theorem uV_bad {t : St} (h : t.bad = true) : uV f N t = 0 := if_pos h
theorem it_bad {α : Type} (S : St → St) (X : St → α) {t : St} (h : t.bad = true) (n : Nat) : itG S X n t = ([], t) := by
 cases n with
 | zero => rfl
 | succ n => unfold itG; rw [if_pos h]
theorem mo_bad {t : St} (h : t.bad = true) (n : Nat) : moG f N n t = ([], true, t) := by
 cases n with
 | zero => rfl
 | succ n => unfold moG; rw [if_pos h]
theorem mds_bad {t : St} (h : t.bad = true) : mdsG f N t = ([], true, t) := by
 unfold mdsG
 rw [uV_bad f N h, uS_bad f N h, if_neg (by omega)]
 rfl
-- one number, where nothing was wrong
theorem ue_good (a : Nat) (x : Int) : ueM f N x (.rd a false false) = .rd (ueR f N a).at_ (neB (ueR f N a).e) false ∧ ueV f N x (.rd a false false) = (ueR f N a).x ∧ uS f N ⟨a, false⟩ = ⟨(ueR f N a).at_, neB (ueR f N a).e⟩ ∧ uV f N ⟨a, false⟩ = (ueR f N a).x :=
 ⟨rfl, rfl, by show (⟨_, false || _⟩ : St) = _; rw [Bool.false_or], rfl⟩
theorem se_good (a : Nat) (x : Int) : seM f N x (.rd a false false) = .rd (ueR f N a).at_ (neB (ueR f N a).e) false ∧ seV f N x (.rd a false false) = (seR f N a).x ∧ sV f N ⟨a, false⟩ = (seR f N a).x := ⟨rfl, rfl, rfl⟩
theorem fx_good (a : Nat) (n x : Int) : fxM f N n x (.rd a false false) = .rd (bitsR f N a n).at_ (neB (bitsR f N a n).e) false ∧ fxV f N n x (.rd a false false) = (bitsR f N a n).x ∧ bS f N n ⟨a, false⟩ = ⟨(bitsR f N a n).at_, neB (bitsR f N a n).e⟩ ∧ bV f N n ⟨a, false⟩ = (bitsR f N a n).x :=
 ⟨rfl, rfl, by show (⟨_, false || _⟩ : St) = _; rw [Bool.false_or], rfl⟩
end

section
variable {f : Nat → Bool} {N : Nat} {P : Hw} {d : Dd} {fine : Bool}
/-- a step that keeps a stopped walk, and a bad state -/
theorem Rl.step (H : Rl P d fine) {P' : Hw} {d' : Dd} {fine' : Bool} (hs : P.k.stop = true → P'.k = P.k) (hb : fine = true → d.t.bad = true → d'.t.bad = true ∧ fine' = true) (hf : fine = false → fine' = false)
  (hg : ∀ a, P.k = .rd a false false → d = ⟨⟨a, false⟩, P.h⟩ → fine = true → Rl P' d' fine') : Rl P' d' fine' := by
 rcases H with ⟨a, h1, h2, h3⟩ | ⟨a, h1, h2, h3⟩ | ⟨a, h1, h3⟩
 ·exact hg a h1 h2 h3
 ·obtain ⟨q1, q2⟩ := hb h3 h2
  subst q2
  exact Rl.bad ((hs (by rw [h1]; rfl)).trans h1) q1
 ·rw [hf h3]
  exact Rl.many ((hs (by rw [h1]; rfl)).trans h1)
/-- a number was read: bad or not -/
theorem Rl.of_num {a' : Nat} {b : Bool} {k : Wk} {h h' : Hd} {t : St} (hk : k = .rd a' b false) (ht : t = ⟨a', b⟩) (hh : h = h') : Rl ⟨k, h⟩ ⟨t, h'⟩ true := by
 subst hk ht hh
 cases b
 ·exact Rl.good _ _
 ·exact Rl.bad rfl rfl
end
end Go.Proofs.YtjokibagciehlaaGreat

namespace Go.Proofs.YtjokibagciehlaaGreat
set_option linter.unusedVariables false
set_option linter.unusedSimpArgs false

section
variable {f : Nat → Bool} {N : Nat}
theorem ueR_far (a : Nat) (h : ¬ a ≤ N) : ueR f N a = ⟨0, 100, a⟩ := by
 have : scan f N a 31 0 = .inr 100 := by unfold scan; rw [if_pos (by omega)]
 unfold ueR
 rw [this]
theorem ueR_ge (a : Nat) : 0 ≤ (ueR f N a).x := by
 by_cases h : a ≤ N
 ·exact (ueR_bd f N a h).1
 ·rw [ueR_far a h]; exact Int.le_refl _
theorem ueR_0 (a : Nat) (he : (ueR f N a).e ≠ 0) : (ueR f N a).x = 0 := by
 by_cases h : a ≤ N
 ·rcases (ueR_bd f N a h).2.2.2.2 with q | q
  ·exact absurd q he
  ·exact q.1
 ·rw [ueR_far a h]
/-- a walk and the document's state: both fine, or both bad -/
def St1 (k : Wk) (t : St) : Prop := (∃ a, k = .rd a false false ∧ t = ⟨a, false⟩) ∨ (∃ a, k = .rd a true false ∧ t.bad = true)
/-- .. or the program's count was too much -/
def St3 (k : Wk) (t : St) (fine : Bool) : Prop := (St1 k t ∧ fine = true) ∨ (∃ a, k = .rd a false true ∧ fine = false)
theorem St1.of {k : Wk} {t : St} {a : Nat} {b : Bool} (hk : k = .rd a b false) (ht : t = ⟨a, b⟩) : St1 k t := by
 subst hk ht
 cases b
 ·exact .inl ⟨_, rfl, rfl⟩
 ·exact .inr ⟨_, rfl, rfl⟩
theorem St1.bad {k : Wk} {t : St} (H : St1 k t) (h : k.stop = true) : (∃ a, k = .rd a true false) ∧ t.bad = true := by
 rcases H with ⟨a, rfl, rfl⟩ | ⟨a, rfl, h2⟩
 ·cases h
 ·exact ⟨⟨a, rfl⟩, h2⟩
theorem St1.good {k : Wk} {t : St} (H : St1 k t) (h : k.stop = false) : ∃ a, k = .rd a false false ∧ t = ⟨a, false⟩ := by
 rcases H with ⟨a, rfl, rfl⟩ | ⟨a, rfl, h2⟩
 ·exact ⟨a, rfl, rfl⟩
 ·cases h
theorem St1.ue {k : Wk} {t : St} (H : St1 k t) (x : Int) : St1 (ueM f N x k) (uS f N t) ∧ (k.stop = false → ueV f N x k = uV f N t) := by
 rcases H with ⟨a, rfl, rfl⟩ | ⟨a, rfl, h2⟩
 ·obtain ⟨e1, e2, e3, e4⟩ := ue_good f N a x
  exact ⟨St1.of e1 e3, fun _ => e2.trans e4.symm⟩
 ·refine ⟨.inr ⟨a, ue_stop f N rfl x, by rw [uS_bad f N h2]; exact h2⟩, fun h => by cases h⟩
theorem St1.se {k : Wk} {t : St} (H : St1 k t) (x : Int) : St1 (seM f N x k) (uS f N t) ∧ (k.stop = false → seV f N x k = sV f N t) := by
 rcases H with ⟨a, rfl, rfl⟩ | ⟨a, rfl, h2⟩
 ·obtain ⟨e1, e2, e4⟩ := se_good f N a x
  obtain ⟨_, _, e3, _⟩ := ue_good f N a x
  exact ⟨St1.of e1 e3, fun _ => e2.trans e4.symm⟩
 ·refine ⟨.inr ⟨a, se_stop f N rfl x, by rw [uS_bad f N h2]; exact h2⟩, fun h => by cases h⟩
theorem St1.fx {k : Wk} {t : St} (H : St1 k t) (n x : Int) : St1 (fxM f N n x k) (bS f N n t) ∧ (k.stop = false → fxV f N n x k = bV f N n t) := by
 rcases H with ⟨a, rfl, rfl⟩ | ⟨a, rfl, h2⟩
 ·obtain ⟨e1, e2, e3, e4⟩ := fx_good f N a n x
  exact ⟨St1.of e1 e3, fun _ => e2.trans e4.symm⟩
 ·refine ⟨.inr ⟨a, fx_stop f N rfl n x, by rw [bS_bad f N h2]; exact h2⟩, fun h => by cases h⟩
theorem ue_run {k : Wk} {x : Int} (h : (ueM f N x k).stop = false) : k.stop = false := by
 cases hk : k.stop
 ·rfl
 ·rw [ue_stop f N hk, hk] at h; cases h
theorem se_run {k : Wk} {x : Int} (h : (seM f N x k).stop = false) : k.stop = false := by
 cases hk : k.stop
 ·rfl
 ·rw [se_stop f N hk, hk] at h; cases h
theorem md_stop {k : Wk} (h : k.stop = true) (x : Md) : mdM f N x k = k := by
 unfold mdM
 rw [ue_stop f N h, ue_stop f N h]
theorem wt_stop {k : Wk} (h : k.stop = true) (x : Wt) : wtM f N x k = k := by
 unfold wtM wtM2 wtM1
 rw [se_stop f N h, se_stop f N h, se_stop f N h, se_stop f N h, se_stop f N h, se_stop f N h]
theorem mo_stop {k : Wk} (h : k.stop = true) (x : Mo) : moM f N x k = k := by
 have h1 : moM1 f N x k = k := by unfold moM1; rw [ue_stop f N h, ck_stop h]
 have h2 : moM2 f N x k = k := by
  unfold moM2
  rw [h1]
  split
  ·exact ue_stop f N h _
  ·rfl
 unfold moM
 rw [h2]
 split
 ·exact ue_stop f N h _
 ·rfl
theorem St1.md {k : Wk} {t : St} (H : St1 k t) : St1 (mdM f N Md.zero k) (mdS f N t) ∧ ((mdM f N Md.zero k).stop = false → mdV f N Md.zero k = mdX f N t) := by
 obtain ⟨h1, v1⟩ := H.ue (f := f) (N := N) Md.zero.k
 obtain ⟨h2, v2⟩ := h1.ue (f := f) (N := N) Md.zero.v
 refine ⟨h2, fun hs => ?_⟩
 have hs1 := ue_run hs
 unfold mdV mdX
 rw [v1 (ue_run hs1), v2 hs1]
theorem St1.wt {k : Wk} {t : St} (H : St1 k t) : St1 (wtM f N Wt.zero k) (wtS f N t) ∧ ((wtM f N Wt.zero k).stop = false → wtV f N Wt.zero k = wtX f N t) := by
 obtain ⟨h1, v1⟩ := H.se (f := f) (N := N) Wt.zero.s0
 obtain ⟨h2, v2⟩ := h1.se (f := f) (N := N) Wt.zero.o0
 obtain ⟨h3, v3⟩ := h2.se (f := f) (N := N) Wt.zero.s1
 obtain ⟨h4, v4⟩ := h3.se (f := f) (N := N) Wt.zero.o1
 obtain ⟨h5, v5⟩ := h4.se (f := f) (N := N) Wt.zero.s2
 obtain ⟨h6, v6⟩ := h5.se (f := f) (N := N) Wt.zero.o2
 refine ⟨h6, fun hs => ?_⟩
 have r5 := se_run hs
 have r4 := se_run r5
 have r3 := se_run r4
 have r2 := se_run r3
 have r1 := se_run r2
 have r0 := se_run r1
 unfold wtV wtX wtM2 wtM1 wtS1
 rw [v1 r0, v2 r1, v3 r2, v4 r3, v5 r4, v6 r5]
theorem St1.it {α : Type} {m : α → Wk → Wk} {v : α → Wk → α} {z : α} {S : St → St} {X : St → α} (hs : ∀ k, k.stop = true → ∀ x, m x k = k)
  (hm : ∀ k t, St1 k t → St1 (m z k) (S t) ∧ ((m z k).stop = false → v z k = X t)) :
  ∀ (n : Nat) (k : Wk) (t : St), St1 k t → St1 (itM m (List.replicate n z) k) (itG S X n t).2 ∧ ((itM m (List.replicate n z) k).stop = false → itV m v (List.replicate n z) k = (itG S X n t).1)
 | 0, k, t, H => ⟨H, fun _ => rfl⟩
 | n + 1, k, t, H => by
  rw [List.replicate_succ]
  show St1 (itM m (List.replicate n z) (m z k)) _ ∧ ((itM m (List.replicate n z) (m z k)).stop = false → v z k :: itV m v (List.replicate n z) (m z k) = _)
  cases hk : k.stop
  ·obtain ⟨a, rfl, rfl⟩ := H.good hk
   obtain ⟨h1, v1⟩ := hm _ _ H
   obtain ⟨h2, v2⟩ := St1.it hs hm n _ _ h1
   have e : itG S X (n + 1) ⟨a, false⟩ = (X ⟨a, false⟩ :: (itG S X n (S ⟨a, false⟩)).1, (itG S X n (S ⟨a, false⟩)).2) := rfl
   rw [e]
   refine ⟨h2, fun hq => ?_⟩
   have hq1 : (m z (.rd a false false)).stop = false := by
    cases hz : (m z (.rd a false false)).stop
    ·rfl
    ·rw [it_stop m hz (hs _ hz), hz] at hq; cases hq
   rw [v1 hq1, v2 hq]
  ·obtain ⟨_, hb⟩ := H.bad hk
   rw [hs k hk z, it_stop m hk (hs k hk), it_bad S X hb]
   exact ⟨H, fun q => by rw [hk] at q; cases q⟩
theorem rep_if (n : Int) {α : Type} (z : α) : (if 0 < n then List.replicate n.toNat z else []) = List.replicate n.toNat z := by
 split
 ·rfl
 ·have : n.toNat = 0 := by omega
  rw [this]
  rfl
/-- a count and so many -/
theorem St1.rw_ {α : Type} {m : α → Wk → Wk} {v : α → Wk → α} {z : α} {k : Wk} {t : St} (H : St1 k t) (hs : ∀ k, k.stop = true → ∀ x, m x k = k)
  (G : Nat → St → List α × Bool × St) (hG : ∀ n k t, St1 k t → St3 (itM m (List.replicate n z) k) (G n t).2.2 (G n t).2.1 ∧ ((itM m (List.replicate n z) k).stop = false → itV m v (List.replicate n z) k = (G n t).1)) :
  St3 (rwM f N m z [] k) (if 16 < uV f N t then (([] : List α), false, uS f N t) else G (uV f N t).toNat (uS f N t)).2.2 (if 16 < uV f N t then (([] : List α), false, uS f N t) else G (uV f N t).toNat (uS f N t)).2.1 ∧
   ((rwM f N m z [] k).stop = false → rwV f N m v z [] k = (if 16 < uV f N t then (([] : List α), false, uS f N t) else G (uV f N t).toNat (uS f N t)).1) := by
 cases hk : k.stop
 ·obtain ⟨a, rfl, rfl⟩ := H.good hk
  obtain ⟨e1, e2, e3, e4⟩ := ue_good f N a (([] : List α).length : Int)
  cases hb : neB (ueR f N a).e
  ·rw [hb] at e1 e3
   have hM : rwM f N m z [] (.rd a false false) = if (ckM (decide ((ueR f N a).x ≤ 16)) (.rd (ueR f N a).at_ false false)).stop = true then ckM (decide ((ueR f N a).x ≤ 16)) (.rd (ueR f N a).at_ false false) else itM m (List.replicate (ueR f N a).x.toNat z) (ckM (decide ((ueR f N a).x ≤ 16)) (.rd (ueR f N a).at_ false false)) := by
    unfold rwM
    rw [e1]
    simp only [e2, rep_if]
   have hV : rwV f N m v z [] (.rd a false false) = if (ckM (decide ((ueR f N a).x ≤ 16)) (.rd (ueR f N a).at_ false false)).stop = true then [] else itV m v (List.replicate (ueR f N a).x.toNat z) (ckM (decide ((ueR f N a).x ≤ 16)) (.rd (ueR f N a).at_ false false)) := by
    unfold rwV
    rw [e1]
    simp only [e2, rep_if]
   rw [hM, hV, e4, e3]
   by_cases h16 : (ueR f N a).x ≤ 16
   ·have hc : ckM (decide ((ueR f N a).x ≤ 16)) (.rd (ueR f N a).at_ false false) = .rd (ueR f N a).at_ false false := by rw [decide_eq_true h16]; rfl
    have z1 : ¬ (Wk.rd (ueR f N a).at_ false false).stop = true := by show ¬ (false || false) = true; decide
    have z2 : ¬ 16 < (ueR f N a).x := by omega
    rw [hc]
    simp only [if_neg z1, if_neg z2]
    exact hG _ _ _ (.inl ⟨_, rfl, rfl⟩)
   ·have hc : ckM (decide ((ueR f N a).x ≤ 16)) (.rd (ueR f N a).at_ false false) = .rd (ueR f N a).at_ false true := by rw [decide_eq_false h16]; rfl
    have z1 : (Wk.rd (ueR f N a).at_ false true).stop = true := rfl
    have z2 : 16 < (ueR f N a).x := by omega
    rw [hc]
    simp only [if_pos z1, if_pos z2]
    exact ⟨.inr ⟨_, rfl, rfl⟩, fun q => by cases q⟩
  ·rw [hb] at e1 e3
   have h0 : (ueR f N a).x = 0 := ueR_0 a ((neB_iff _).1 hb)
   have hM : rwM f N m z [] (.rd a false false) = .rd (ueR f N a).at_ true false := by
    unfold rwM
    rw [e1]
    show (if _ then _ else _) = _
    rw [ck_stop (k := .rd (ueR f N a).at_ true false) rfl]
    exact if_pos rfl
   have z2 : ¬ (16 : Int) < 0 := by omega
   rw [hM, e4, e3, h0]
   simp only [if_neg z2]
   obtain ⟨q1, _⟩ := hG (0 : Int).toNat (.rd (ueR f N a).at_ true false) ⟨(ueR f N a).at_, true⟩ (.inr ⟨_, rfl, rfl⟩)
   exact ⟨q1, fun q => by cases q⟩
 ·obtain ⟨⟨a, rfl⟩, hb⟩ := H.bad hk
  have z2 : ¬ (16 : Int) < 0 := by omega
  rw [rw_stop f N m z rfl, uV_bad f N hb, uS_bad f N hb]
  simp only [if_neg z2]
  obtain ⟨q1, _⟩ := hG (0 : Int).toNat (.rd a true false) t (.inr ⟨_, rfl, hb⟩)
  exact ⟨q1, fun q => by cases q⟩
theorem St1.mds {k : Wk} {t : St} (H : St1 k t) : St3 (rwM f N (mdM f N) Md.zero [] k) (mdsG f N t).2.2 (mdsG f N t).2.1 ∧ ((rwM f N (mdM f N) Md.zero [] k).stop = false → rwV f N (mdM f N) (mdV f N) Md.zero [] k = (mdsG f N t).1) :=
 H.rw_ (fun k hk x => md_stop hk x) (fun n t => ((itG (mdS f N) (mdX f N) n t).1, true, (itG (mdS f N) (mdX f N) n t).2)) fun n k t h => by
  obtain ⟨q1, q2⟩ := St1.it (S := mdS f N) (X := mdX f N) (v := mdV f N) (fun k hk x => md_stop hk x) (fun k t h => h.md) n k t h
  exact ⟨.inl ⟨q1, rfl⟩, q2⟩
/-- one marking operation, its kind being one -/
theorem St1.mo {a : Nat} (hb : neB (ueR f N a).e = false) (hk : inR 1 6 (ueR f N a).x = true) : St1 (moM f N Mo.zero (.rd a false false)) (moB f N ⟨a, false⟩).2 ∧ ((moM f N Mo.zero (.rd a false false)).stop = false → moV f N Mo.zero (.rd a false false) = ⟨uV f N ⟨a, false⟩, (moA f N ⟨a, false⟩).1, (moB f N ⟨a, false⟩).1⟩) := by
 obtain ⟨e1, e2, e3, e4⟩ := ue_good f N a Mo.zero.k
 rw [hb] at e1 e3
 have hA := hasA2_of (inR_iff.1 hk)
 have h1 : moM1 f N Mo.zero (.rd a false false) = .rd (ueR f N a).at_ false false := by
  unfold moM1
  rw [e1, e2, hk]
  rfl
 have s1 : St1 (moM1 f N Mo.zero (.rd a false false)) (uS f N ⟨a, false⟩) := St1.of h1 e3
 have s2 : St1 (moM2 f N Mo.zero (.rd a false false)) (moA f N ⟨a, false⟩).2 ∧ ((moM2 f N Mo.zero (.rd a false false)).stop = false → (if hasA (ueR f N a).x = true then ueV f N Mo.zero.a (moM1 f N Mo.zero (.rd a false false)) else Mo.zero.a) = (moA f N ⟨a, false⟩).1) := by
  unfold moM2 moA
  rw [e2, e4, hA]
  cases hasA (ueR f N a).x
  ·exact ⟨s1, fun _ => rfl⟩
  ·obtain ⟨q1, q2⟩ := s1.ue (f := f) (N := N) Mo.zero.a
   exact ⟨q1, fun hq => q2 (ue_run (x := Mo.zero.a) hq)⟩
 have s3 : St1 (moM f N Mo.zero (.rd a false false)) (moB f N ⟨a, false⟩).2 ∧ ((moM f N Mo.zero (.rd a false false)).stop = false → (moM2 f N Mo.zero (.rd a false false)).stop = false ∧ (if hasB (ueR f N a).x = true then ueV f N Mo.zero.b (moM2 f N Mo.zero (.rd a false false)) else Mo.zero.b) = (moB f N ⟨a, false⟩).1) := by
  unfold moM moB
  rw [e2, e4]
  cases hasB (ueR f N a).x
  ·exact ⟨s2.1, fun h => ⟨h, rfl⟩⟩
  ·obtain ⟨q1, q2⟩ := s2.1.ue (f := f) (N := N) Mo.zero.b
   exact ⟨q1, fun hq => ⟨ue_run (x := Mo.zero.b) hq, q2 (ue_run (x := Mo.zero.b) hq)⟩⟩
 refine ⟨s3.1, fun hq => ?_⟩
 obtain ⟨r1, r2⟩ := s3.2 hq
 have r3 := s2.2 r1
 unfold moV
 rw [e2, e4, r2, r3]
theorem St1.mos : ∀ (n : Nat) (k : Wk) (t : St), St1 k t → St3 (itM (moM f N) (List.replicate n Mo.zero) k) (moG f N n t).2.2 (moG f N n t).2.1 ∧ ((itM (moM f N) (List.replicate n Mo.zero) k).stop = false → itV (moM f N) (moV f N) (List.replicate n Mo.zero) k = (moG f N n t).1)
 | 0, k, t, H => ⟨.inl ⟨H, rfl⟩, fun _ => rfl⟩
 | n + 1, k, t, H => by
  rw [List.replicate_succ]
  show St3 (itM (moM f N) (List.replicate n Mo.zero) (moM f N Mo.zero k)) _ _ ∧ ((itM (moM f N) (List.replicate n Mo.zero) (moM f N Mo.zero k)).stop = false → moV f N Mo.zero k :: itV (moM f N) (moV f N) (List.replicate n Mo.zero) (moM f N Mo.zero k) = _)
  cases hk : k.stop
  ·obtain ⟨a, rfl, rfl⟩ := H.good hk
   obtain ⟨e1, e2, e3, e4⟩ := ue_good f N a Mo.zero.k
   have e : moG f N (n + 1) ⟨a, false⟩ = if (!(uS f N ⟨a, false⟩).bad && !inR 1 6 (uV f N ⟨a, false⟩)) = true then ([], false, uS f N ⟨a, false⟩) else
    (⟨uV f N ⟨a, false⟩, (moA f N ⟨a, false⟩).1, (moB f N ⟨a, false⟩).1⟩ :: (moG f N n (moB f N ⟨a, false⟩).2).1, (moG f N n (moB f N ⟨a, false⟩).2).2.1, (moG f N n (moB f N ⟨a, false⟩).2).2.2) := rfl
   rw [e]
   cases hb : neB (ueR f N a).e
   ·have e3' := e3
    rw [hb] at e3'
    cases hi : inR 1 6 (ueR f N a).x
    ·rw [if_pos (by rw [e3', e4, hi]; rfl)]
     have h1 : moM1 f N Mo.zero (.rd a false false) = .rd (ueR f N a).at_ false true := by
      unfold moM1
      rw [e1, e2, hi, hb]
      rfl
     have h2 : moM f N Mo.zero (.rd a false false) = .rd (ueR f N a).at_ false true := by
      have h3 : moM2 f N Mo.zero (.rd a false false) = .rd (ueR f N a).at_ false true := by
       unfold moM2
       rw [h1]
       split
       ·exact ue_stop f N rfl _
       ·rfl
      unfold moM
      rw [h3]
      split
      ·exact ue_stop f N rfl _
      ·rfl
     rw [h2, it_stop (moM f N) (k := .rd (ueR f N a).at_ false true) rfl (mo_stop rfl)]
     exact ⟨.inr ⟨_, rfl, rfl⟩, fun q => by cases q⟩
    ·rw [if_neg (by rw [e4, hi]; simp)]
     obtain ⟨q1, q2⟩ := St1.mo hb hi
     obtain ⟨p1, p2⟩ := St1.mos n _ _ q1
     refine ⟨p1, fun hq => ?_⟩
     have hq1 : (moM f N Mo.zero (.rd a false false)).stop = false := by
      cases hz : (moM f N Mo.zero (.rd a false false)).stop
      ·rfl
      ·rw [it_stop (moM f N) hz (mo_stop hz), hz] at hq; cases hq
     rw [q2 hq1, p2 hq]
   ·have e3' := e3
    rw [hb] at e3'
    rw [if_neg (by rw [e3']; simp)]
    have h1 : moM1 f N Mo.zero (.rd a false false) = .rd (ueR f N a).at_ true false := by
     unfold moM1
     rw [e1, hb]
     exact ck_stop (k := .rd (ueR f N a).at_ true false) rfl _
    have h2 : moM f N Mo.zero (.rd a false false) = .rd (ueR f N a).at_ true false := by
     have h3 : moM2 f N Mo.zero (.rd a false false) = .rd (ueR f N a).at_ true false := by
      unfold moM2
      rw [h1]
      split
      ·exact ue_stop f N rfl _
      ·rfl
     unfold moM
     rw [h3]
     split
     ·exact ue_stop f N rfl _
     ·rfl
    have hA : (moA f N ⟨a, false⟩).2.bad = true := by
     unfold moA
     rw [e3']
     split
     ·rw [uS_bad f N rfl]
     ·rfl
    have hB : (moB f N ⟨a, false⟩).2.bad = true := by
     unfold moB
     split
     ·rw [uS_bad f N hA]; exact hA
     ·exact hA
    rw [h2, it_stop (moM f N) (k := .rd (ueR f N a).at_ true false) rfl (mo_stop rfl), mo_bad f N hB]
    exact ⟨.inl ⟨.inr ⟨_, rfl, hB⟩, rfl⟩, fun q => by cases q⟩
  ·obtain ⟨_, hb⟩ := H.bad hk
   rw [mo_stop hk, it_stop (moM f N) hk (mo_stop hk), mo_bad f N hb]
   exact ⟨.inl ⟨H, rfl⟩, fun q => by rw [hk] at q; cases q⟩
end
end Go.Proofs.YtjokibagciehlaaGreat

namespace Go.Proofs.YtjokibagciehlaaGreat
open Go.RowKit
set_option linter.unusedVariables false

theorem wpList_append_rows {P : Program} (w : World) {ops : Array Oper} {rest : List Oper} {o : Oper} {a : Act} {Q : Exit → Act → World → Prop} (hgd : o.guard = none) (s x : Operand) (t : TypeId)
  (ho : o.op = .call { callee := .builtin .append, args := #[s, x], argTypes := #[t, t] })
  (base : Nat) (e : TypeId) (i : TypeInfo) (z : Value) (size bytes : Nat) (ht : P.underlying t = some (.slice e)) (hi : P.info? e = some i) (hz : i.zero = some z)
  (hsize : i.size = size) (hby : i.bytes = bytes) (hzs : z.cells.size = size) (hsz : 0 < size)
  (v : Value) (n : Nat) (xs : List Value) (hs : a.eval s = v) (hown : w.ownsRow base e size v n xs)
  (A : Option Addr) (m c : Nat) (news : List Value) (hx : a.eval x = .slice A m c) (hl : news.length = m * size) (hr : 0 < m → ∃ ad, A = some ad ∧ ∀ j u, news[j]? = some u → w.cell? (ad.add j) = some u) (h0 : A = none → m = 0 ∧ c = 0) (h1 : ∀ u ∈ news, u.oneCell' = true)
  (h63 : n + m ≤ maxLen) (hbytes : (n + m) * bytes ≤ 140737488355328) (hbase : base ≤ w.heap.size)
  (h : ∀ v' w', w'.ownsRow base e size v' (n + m) (xs ++ news) → w.grownBy w' v.ownBlock → wpList P ops Q rest (a.put o.dst v') w') : wpList P ops Q (o :: rest) a w := by
 rcases A with _ | ad
 ·obtain ⟨rfl, rfl⟩ := h0 rfl
  obtain rfl : news = [] := List.eq_nil_of_length_eq_zero (by rw [hl, Nat.zero_mul])
  refine wpList_append_own_none hgd s x t ho base e i size ht hi v n xs hs hown hx ?_
  exact h v w (by simpa using hown) (World.grownBy.refl w _)
 ·refine wpList_append_own w hgd s x t ho base e i z size bytes ht hi hz hsize hby hzs hsz v n xs hs hown ad m c news hx hl ?_ h1 h63 hbytes hbase (fun v' w' g1 g2 _ => h v' w' g1 g2)
  intro j u hj
  have hjm := (List.getElem?_eq_some_iff.1 hj).1
  have hm : 0 < m := by
   rcases Nat.eq_zero_or_pos m with q | q
   ·rw [hl, q, Nat.zero_mul] at hjm; omega
   ·exact q
  obtain ⟨ad', e', hc⟩ := hr hm
  obtain rfl : ad = ad' := by injection e'
  exact hc j u hj
end Go.Proofs.YtjokibagciehlaaGreat

namespace Go.Proofs.YtjokibagciehlaaGreat
open Go.RowKit
set_option linter.unusedVariables false
set_option linter.unusedSimpArgs false

section
variable {α : Type} {C : Nat} {f : α → Nat → Value}
def cellsL (C : Nat) (f : α → Nat → Value) (l : List α) : List Value := l.flatMap fun x => (List.range C).map (f x)
theorem cellsL_len : ∀ l : List α, (cellsL C f l).length = l.length * C
 | [] => by simp [cellsL]
 | x :: l => by
  have := cellsL_len l
  unfold cellsL at this ⊢
  rw [List.flatMap_cons, List.length_append, this, List.length_map, List.length_range, List.length_cons, Nat.add_mul]
  omega
theorem cellsL_append (l k : List α) : cellsL C f (l ++ k) = cellsL C f l ++ cellsL C f k := by unfold cellsL; rw [List.flatMap_append]
theorem cellsL_get : ∀ (l : List α) (k i : Nat) (hk : k < l.length), i < C → (cellsL C f l)[k * C + i]? = some (f l[k] i)
 | x :: l, 0, i, hk, hi => by
  unfold cellsL
  rw [List.flatMap_cons, Nat.zero_mul, Nat.zero_add, List.getElem?_append_left (by simpa using hi)]
  simp [hi]
 | x :: l, k + 1, i, hk, hi => by
  have := cellsL_get l k i (by simpa using hk) hi
  unfold cellsL at this ⊢
  rw [List.flatMap_cons, List.getElem?_append_right (by simp [Nat.add_mul]; omega), List.length_map, List.length_range, show (k + 1) * C + i - C = k * C + i by rw [Nat.add_mul]; omega, this]
  rfl
theorem RwAt.news {w : World} {B : Nat} {A : Option Addr} {l : List α} (h : RwAt w B A C f l) (hC : 0 < C) : 0 < l.length → ∃ ad, A = some ad ∧ ∀ j u, (cellsL C f l)[j]? = some u → w.cell? (ad.add j) = some u := fun hn => by
 obtain ⟨ad, e, hb, hc⟩ := h hn
 refine ⟨ad, e, fun j u hj => ?_⟩
 have hjl := (List.getElem?_eq_some_iff.1 hj).1
 rw [cellsL_len] at hjl
 have hk : j / C < l.length := by rw [Nat.div_lt_iff_lt_mul hC]; exact hjl
 have hi : j % C < C := Nat.mod_lt _ hC
 have he : j / C * C + j % C = j := by rw [Nat.mul_comm]; exact Nat.div_add_mod j C
 have hg := cellsL_get (f := f) l (j / C) (j % C) hk hi
 rw [he, hj] at hg
 injection hg with hg
 rw [hg]
 obtain ⟨c0, cj⟩ := hc (j / C) hk
 rcases Nat.eq_zero_or_pos (j % C) with h0 | h0
 ·rw [h0] at he ⊢
  rw [Nat.add_zero] at he
  rw [← c0, he]
 ·rw [← cj _ h0 hi]
  have hp : ad.add j = ⟨(ad.add (j / C * C)).block, (ad.add (j / C * C)).off + j % C, none⟩ := by
   rw [← add_off ad (j / C * C) (j % C) h0, he]
  rw [hp]
theorem RwAt.front {w : World} {B : Nat} {A : Option Addr} {l k : List α} (h : RwAt w B A C f (l ++ k)) : RwAt w B A C f l := fun hn => by
 obtain ⟨ad, e, hb, hc⟩ := h (by rw [List.length_append]; omega)
 refine ⟨ad, e, hb, fun j hj => ?_⟩
 have := hc j (by rw [List.length_append]; omega)
 rwa [List.getElem_append_left hj] at this
theorem RwAt.of_row {w : World} {base g n c : Nat} {e : TypeId} {l : List α} (hC : 0 < C) (h : w.ownsRow base e C (.slice (some ⟨g, 0, none⟩) n c) n (cellsL C f l)) (hg : g < w.heap.size) : RwAt w w.heap.size (some ⟨g, 0, none⟩) C f l := fun _ =>
 ⟨⟨g, 0, none⟩, rfl, hg, fun k hk => ⟨by
  rw [add_new, h.cellAt _ (by have hq := h.1; rw [cellsL_len] at hq; rw [← hq]; exact Nat.mul_lt_mul_of_pos_right hk hC)]
  have := cellsL_get (f := f) l k 0 hk hC
  rwa [Nat.add_zero] at this, fun j h0 hj => by
  rw [add_new]
  show w.cell? ⟨g, k * C + j, none⟩ = _
  rw [h.cellAt _ (by
   have hq := h.1
   rw [cellsL_len] at hq
   rw [← hq]
   have : (k + 1) * C ≤ l.length * C := Nat.mul_le_mul_right _ hk
   rw [Nat.add_mul] at this
   omega)]
  exact cellsL_get l k j hk hj⟩⟩
end
/-- a row that was lent: two marks behind it -/
def LentR {α : Type} (w : World) (B : Nat) (A : Option Addr) (c C : Nat) (f : α → Nat → Value) (l : List α) (m : α) : Prop :=
 ∃ g, A = some ⟨g, 0, none⟩ ∧ l.length + 2 ≤ c ∧ c ≤ maxLen ∧ B ≤ g ∧ g < w.heap.size ∧ RwAt w w.heap.size A C f (l ++ [m, m])
theorem LentR.go {α : Type} {w w' : World} {B c C : Nat} {A : Option Addr} {f : α → Nat → Value} {l : List α} {m : α} (h : LentR w B A c C f l m) (hb : Below w.heap.size w w') : LentR w' B A c C f l m := by
 obtain ⟨g, e, h1, h2, h3, h4, h5⟩ := h
 exact ⟨g, e, h1, h2, h3, Nat.lt_of_lt_of_le h4 hb.size, h5.go hb⟩
theorem eq_arr3b (d : Nat) (a b c : Int) (w : World) : (Op.equalIn (d + 2) 114 (.agg #[.int .i64 a, .int .i64 b, .int .i64 c]) (.agg #[.int .i64 a, .int .i64 b, .int .i64 c])).run Tryz.prog w = .ok true w := eq_arr3 d a b c w
attribute [local go_sem] eq_arr3b
def Md.mark : Md := ⟨77777, 0⟩
def Wt.mark : Wt := ⟨77777, 0, 0, 0, 0, 0⟩
def Mo.mark : Mo := ⟨77777, 0, 0⟩
theorem oneMd (l : List Md) : ∀ u ∈ cellsL 2 mdF l, u.oneCell' = true := fun u hu => by
 unfold cellsL at hu
 obtain ⟨x, _, hx⟩ := List.mem_flatMap.1 hu
 obtain ⟨j, _, rfl⟩ := List.mem_map.1 hx
 unfold mdF
 split <;> rfl
theorem oneWt (l : List Wt) : ∀ u ∈ cellsL 6 wtF l, u.oneCell' = true := fun u hu => by
 unfold cellsL at hu
 obtain ⟨x, _, hx⟩ := List.mem_flatMap.1 hu
 obtain ⟨j, _, rfl⟩ := List.mem_map.1 hx
 unfold wtF
 split <;> rfl
theorem oneMo (l : List Mo) : ∀ u ∈ cellsL 3 moF l, u.oneCell' = true := fun u hu => by
 unfold cellsL at hu
 obtain ⟨x, _, hx⟩ := List.mem_flatMap.1 hu
 obtain ⟨j, _, rfl⟩ := List.mem_map.1 hx
 unfold moF
 split <;> rfl
/-- a header that was lent -/
structure LentH (w : World) (B : Nat) (h : Hd) (q : Ha) : Prop where
 m0 : LentR w B q.m0 q.cm0 2 mdF h.m0 Md.mark
 m1 : LentR w B q.m1 q.cm1 2 mdF h.m1 Md.mark
 w0 : LentR w B q.w0 q.cw0 6 wtF h.w0 Wt.mark
 w1 : LentR w B q.w1 q.cw1 6 wtF h.w1 Wt.mark
 ops : LentR w B q.ops q.cops 3 moF h.ops Mo.mark
theorem LentH.go {w w' : World} {B : Nat} {h : Hd} {q : Ha} (H : LentH w B h q) (hb : Below w.heap.size w w') : LentH w' B h q := ⟨H.m0.go hb, H.m1.go hb, H.w0.go hb, H.w1.go hb, H.ops.go hb⟩
theorem LentR.rw {α : Type} {w : World} {B c C : Nat} {A : Option Addr} {f : α → Nat → Value} {l : List α} {m : α} (h : LentR w B A c C f l m) : RwAt w w.heap.size A C f l := by
 obtain ⟨g, e, h1, h2, h3, h4, h5⟩ := h
 exact h5.front
theorem LentH.hd {w : World} {B : Nat} {h : Hd} {q : Ha} (H : LentH w B h q) : HdAt w w.heap.size h q := ⟨H.m0.rw, H.m1.rw, H.w0.rw, H.w1.rw, H.ops.rw⟩
theorem LentH.lt {w : World} {B : Nat} {h : Hd} {q : Ha} (H : LentH w B h q) : ∀ A, A = q.m0 ∨ A = q.m1 ∨ A = q.w0 ∨ A = q.w1 ∨ A = q.ops → ∀ ad, A = some ad → ad.block < w.heap.size := by
 have key : ∀ {α : Type} {c C : Nat} {A : Option Addr} {f : α → Nat → Value} {l : List α} {m : α}, LentR w B A c C f l m → ∀ ad, A = some ad → ad.block < w.heap.size := fun h ad e => by
  obtain ⟨g, e', _, _, _, h4, _⟩ := h
  rw [e'] at e
  injection e with e
  rw [← e]
  exact h4
 rintro A (rfl | rfl | rfl | rfl | rfl) ad e
 ·exact key H.m0 ad e
 ·exact key H.m1 ad e
 ·exact key H.w0 ad e
 ·exact key H.w1 ad e
 ·exact key H.ops ad e
/-- rows that may be lent: none leads nowhere, and there is room -/
structure HdGive (h : Hd) (q : Ha) : Prop where
 m0 : (q.m0 = none → h.m0.length = 0 ∧ q.cm0 = 0) ∧ (h.m0.length + 2) * 16 ≤ 140737488355328
 m1 : (q.m1 = none → h.m1.length = 0 ∧ q.cm1 = 0) ∧ (h.m1.length + 2) * 16 ≤ 140737488355328
 w0 : (q.w0 = none → h.w0.length = 0 ∧ q.cw0 = 0) ∧ (h.w0.length + 2) * 48 ≤ 140737488355328
 w1 : (q.w1 = none → h.w1.length = 0 ∧ q.cw1 = 0) ∧ (h.w1.length + 2) * 48 ≤ 140737488355328
 ops : (q.ops = none → h.ops.length = 0 ∧ q.cops = 0) ∧ (h.ops.length + 2) * 24 ≤ 140737488355328
end Go.Proofs.YtjokibagciehlaaGreat

namespace Go.Proofs.YtjokibagciehlaaGreat
open Go.RowKit
set_option linter.unusedVariables false
set_option linter.unusedSimpArgs false

section
variable {w w' : World} {r g gB N : Nat} {f : Nat → Bool} {t : St}
theorem dg_u (H : DG w r g gB N f t) (hN : N ≤ 1125899906842624) (ha : t.a ≤ N) : Calls Tryz.prog 90 #[.pointer (some ⟨r, 0, none⟩)] w fun e w' => e = .returned (.int .i64 (uV f N t)) ∧ DG w' r g gB N f (uS f N t) ∧ Touch (RGS r g) w w' := dg_ue H hN ha
theorem dg_s (H : DG w r g gB N f t) (hN : N ≤ 1125899906842624) (ha : t.a ≤ N) : Calls Tryz.prog 116 #[.pointer (some ⟨r, 0, none⟩)] w fun e w' => e = .returned (.int .i64 (sV f N t)) ∧ DG w' r g gB N f (uS f N t) ∧ Touch (RGS r g) w w' := dg_se H hN ha
theorem dg_b (H : DG w r g gB N f t) (hN : N ≤ 1125899906842624) (ha : t.a ≤ N) {n : Int} (h0 : 0 ≤ n) : Calls Tryz.prog 91 #[.pointer (some ⟨r, 0, none⟩), .int .i64 n] w fun e w' => e = .returned (.int .i64 (bV f N n t)) ∧ DG w' r g gB N f (bS f N n t) ∧ Touch (RGS r g) w w' := by
 have := dg_bits H hN ha n.toNat
 rwa [show ((n.toNat : Nat) : Int) = n by omega] at this
theorem uS_le (ha : t.a ≤ N) : (uS f N t).a ≤ N := dS_le ha (ueS_le ha)
theorem bS_le (n : Int) (ha : t.a ≤ N) : (bS f N n t).a ≤ N := dS_le ha (btS_le n ha)
theorem uV_bd (ha : t.a ≤ N) : 0 ≤ uV f N t ∧ uV f N t ≤ 2147483646 := dX_bd (ueR_bd f N t.a ha).1 (ueR_bd f N t.a ha).2.1
theorem DG.bad (H : DG w r g gB N f t) : w.cell? ⟨r, 1, none⟩ = some (.bool t.bad) := by
 have := H.1.cell 1
 simpa using this
end
theorem it_len {α : Type} (S : St → St) (X : St → α) : ∀ (n : Nat) (t : St), (itG S X n t).1.length ≤ n
 | 0, t => Nat.zero_le _
 | n + 1, t => by
  unfold itG
  split
  ·exact Nat.zero_le _
  ·have := it_len S X n (S t)
   simp only [List.length_cons]
   omega
theorem it_more {α : Type} {S : St → St} {X : St → α} {k j : Nat} {t0 t : St} {dn : List α} (h : itG S X k t0 = (dn ++ (itG S X (k - j) t).1, (itG S X (k - j) t).2)) (hj : j < k) (hb : t.bad = false) : itG S X k t0 = ((dn ++ [X t]) ++ (itG S X (k - (j + 1)) (S t)).1, (itG S X (k - (j + 1)) (S t)).2) := by
 rw [h, show k - j = (k - (j + 1)) + 1 by omega]
 have e : itG S X ((k - (j + 1)) + 1) t = (X t :: (itG S X (k - (j + 1)) (S t)).1, (itG S X (k - (j + 1)) (S t)).2) := by
  show (if t.bad = true then _ else _) = _
  rw [hb]
  rfl
 rw [e]
 simp
theorem it_end {α : Type} {S : St → St} {X : St → α} {k j : Nat} {t0 t : St} {dn : List α} (h : itG S X k t0 = (dn ++ (itG S X (k - j) t).1, (itG S X (k - j) t).2)) (hj : t.bad = true ∨ k ≤ j) : itG S X k t0 = (dn, t) := by
 rw [h]
 rcases hj with hb | hj
 ·rw [it_bad S X hb]; simp
 ·rw [show k - j = 0 by omega]; simp [itG]
theorem own_sliceC {w : World} {base C : Nat} {e : TypeId} {v : Value} {n : Nat} {xs : List Value} (h : w.ownsRow base e C v n xs) : ∃ A c, v = .slice A n c ∧ n ≤ c := by
 rcases h.2 with ⟨rfl, rfl⟩ | ⟨g, cap, cur, rfl, _, _, hn, _⟩
 ·exact ⟨none, 0, rfl, Nat.le_refl _⟩
 ·exact ⟨_, cap, rfl, hn⟩
/-- what such a call answers: a list, new; the reader behind it -/
structure LPost {α : Type} (w w' : World) (r g gB N : Nat) (f : Nat → Bool) (t : St) (T : TypeId) (C : Nat) (F : α → Nat → Value) (l : List α) (A : Option Addr) (c : Nat) : Prop where
 rg : DG w' r g gB N f t
 tch : Touch (RGS r g) w w'
 own : w'.ownsRow w.heap.size T C (.slice A l.length c) l.length (cellsL C F l)
 le : t.a ≤ N
theorem LPost.nil {α : Type} {w w' : World} {r g gB N : Nat} {f : Nat → Bool} {t : St} {T : TypeId} {C : Nat} {F : α → Nat → Value} (h1 : DG w' r g gB N f t) (h2 : Touch (RGS r g) w w') (h3 : t.a ≤ N) : LPost w w' r g gB N f t T C F ([] : List α) none 0 :=
 ⟨h1, h2, World.ownsRow_nil _ _ _ _, h3⟩
theorem LPost.call {α : Type} {w w1 w2 : World} {r g gB N : Nat} {f : Nat → Bool} {t t' : St} {T : TypeId} {C : Nat} {F : α → Nat → Value} {l : List α} {A : Option Addr} {c : Nat} (H : LPost w w1 r g gB N f t T C F l A c) (hr : DG w2 r g gB N f t') (ht : Touch (RGS r g) w1 w2) (hl : t'.a ≤ N) (hlt : r < w.heap.size ∧ g < w.heap.size) : LPost w w2 r g gB N f t' T C F l A c :=
 ⟨hr, H.tch.trans ht, own_touch H.own ht (fun k hk q => by have := (H.own.lt k hk).1; rcases q with q | q <;> omega), hl⟩
theorem LPost.go {α : Type} {w w1 w2 : World} {r g gB N : Nat} {f : Nat → Bool} {t : St} {T : TypeId} {C : Nat} {F : α → Nat → Value} {l : List α} {A : Option Addr} {c : Nat} (H : LPost w w1 r g gB N f t T C F l A c) (hb : Below w1.heap.size w1 w2) : LPost w w2 r g gB N f t T C F l A c :=
 ⟨H.rg.go hb, H.tch.trans (Touch.of_new hb), own_go H.own hb, H.le⟩
/-- one more -/
theorem LPost.app {α : Type} {w w1 w2 : World} {r g gB N : Nat} {f : Nat → Bool} {t : St} {T : TypeId} {C : Nat} {F : α → Nat → Value} {l l' : List α} {A : Option Addr} {c : Nat} {v : Value} (H : LPost w w1 r g gB N f t T C F l A c) (hlt : r < w.heap.size ∧ g < w.heap.size ∧ gB < w.heap.size)
  (ho : w2.ownsRow w.heap.size T C v l'.length (cellsL C F l')) (hg : w1.grownBy w2 (Value.slice A l.length c).ownBlock) : ∃ A' c', v = .slice A' l'.length c' ∧ LPost w w2 r g gB N f t T C F l' A' c' := by
 obtain ⟨A', c', rfl, _⟩ := own_sliceC ho
 refine ⟨A', c', rfl, ⟨H.rg.grown hg ?_ ?_ ?_, H.tch.grown hg (fun k e hk => by have := (H.own.lt k e).1; omega), ho, H.le⟩⟩
 ·intro e; have := (H.own.lt _ e.symm).1; omega
 ·intro e; have := (H.own.lt _ e.symm).1; omega
 ·intro e; have := (H.own.lt _ e.symm).1; omega
section
variable {w : World} {r g gB N : Nat} {f : Nat → Bool} {t : St} (H : DG w r g gB N f t) (hN : N ≤ 1125899906842624) (ha : t.a ≤ N)
include H hN ha
set_option maxRecDepth 100000 in
set_option maxHeartbeats 6400000 in
theorem getmods_any : Calls Tryz.prog 113 #[.pointer (some ⟨r, 0, none⟩)] w fun e w' => ∃ A c, e = .returned (.tuple #[.slice A (mdsG f N t).1.length c, .bool (mdsG f N t).2.1]) ∧ LPost w w' r g gB N f (mdsG f N t).2.2 113 2 mdF (mdsG f N t).1 A c := by
 have hlts := H.lts
 have HLT := Lib.hid hlts
 have HC := Lib.hid (dg_u H hN ha)
 have hbd := uV_bd (f := f) ha
 have hle := uS_le (f := f) ha
 have HM : Hid (mdsG f N t = if 16 < uV f N t then ([], false, uS f N t) else ((itG (mdS f N) (mdX f N) (uV f N t).toNat (uS f N t)).1, true, (itG (mdS f N) (mdX f N) (uV f N t).toNat (uS f N t)).2)) := Lib.hid rfl
 obtain ⟨R, hR⟩ : ∃ R, mdsG f N t = R := ⟨_, rfl⟩
 obtain ⟨n, hn⟩ : ∃ n, uV f N t = n := ⟨_, rfl⟩
 obtain ⟨t1, ht1⟩ : ∃ n, uS f N t = n := ⟨_, rfl⟩
 rw [hR, hn, ht1] at HM
 rw [hR]
 rw [hn] at hbd HC
 rw [ht1] at hle HC
 obtain ⟨hbd0, hbd1⟩ := hbd
 have HLE := Lib.hid hle
 clear hlts hR hn ht1 H ha hle
 by_cases h16 : 16 < n
 ·have hRR := HM.out
  rw [if_pos h16] at hRR
  subst hRR
  go_enter Tryz.func113, Tryz.ntmps113
  go_wp2_with fail
  refine HC.out.mono ?_
  rintro e w1 ⟨rfl, hr, ht⟩
  have HF := Lib.hid (LPost.nil (α := Md) (T := 113) (C := 2) (F := mdF) hr ht HLE.out)
  clear hr ht HC
  go_wp2_with fail
  go_ret2
  exact ⟨none, 0, rfl, HF.out⟩
 ·have hRR := HM.out
  rw [if_neg h16] at hRR
  subst hRR
  clear HM
  have hL := it_len (mdS f N) (mdX f N) n.toNat t1
  obtain ⟨R, hR⟩ : ∃ R, itG (mdS f N) (mdX f N) n.toNat t1 = R := ⟨_, rfl⟩
  rw [hR] at hL ⊢
  have HR := Lib.hid hR
  have HL := Lib.hid hL
  clear hR hL
  go_enter Tryz.func113, Tryz.ntmps113
  go_wp2_with fail
  refine HC.out.mono ?_
  rintro e w1 ⟨rfl, hr, ht⟩
  have HF := Lib.hid (LPost.nil (α := Md) (T := 113) (C := 2) (F := mdF) hr ht HLE.out)
  clear hr ht HC
  go_wp2_with fail
  go_loopw [5, 6] (fun s i wr => ∃ (j : Nat) (dn : List Md) (t' : St) (A : Option Addr) (c : Nat), s = .slice A dn.length c ∧ i = .int .i64 j ∧ (j : Int) ≤ n ∧ dn.length ≤ j ∧ LPost w wr r g gB N f t' 113 2 mdF dn A c ∧ R = (dn ++ (itG (mdS f N) (mdX f N) (n.toNat - j) t').1, (itG (mdS f N) (mdX f N) (n.toNat - j) t').2)) (fun _ i _ => 16 - (intOf i).toNat)
  case atStart => exact ⟨0, [], t1, none, 0, rfl, rfl, hbd0, Nat.le_refl _, HF.out, by rw [← HR.out]; simp⟩
  case round =>
   clear HF
   obtain ⟨j, dn, t', A, c, rfl, rfl, hj, hdl, hP, hE⟩ := hrel
   have HP := Lib.hid hP
   have HE := Lib.hid (show itG (mdS f N) (mdX f N) n.toNat t1 = (dn ++ (itG (mdS f N) (mdX f N) (n.toNat - j) t').1, (itG (mdS f N) (mdX f N) (n.toNat - j) t').2) from HR.out.trans hE)
   have c1 := hP.rg.bad
   have hj0 : (0 : Int) ≤ (j : Int) := Int.natCast_nonneg _
   clear hP hE
   obtain ⟨bd, hbd⟩ : ∃ b, t'.bad = b := ⟨_, rfl⟩
   rw [hbd] at c1
   have HBD := Lib.hid hbd
   clear hbd
   by_cases hlt : (j : Int) < n
   ·cases bd
    ·have hjn : j ≤ 16 := by omega
     have HC := Lib.hid (dg_u HP.out.rg hN HP.out.le)
     go_wp2_with fail
     refine HC.out.mono ?_
     rintro e w2 ⟨rfl, hr, ht⟩
     replace HP := Lib.hid (HP.out.call hr ht (uS_le HP.out.le) ⟨HLT.out.1, HLT.out.2.1⟩)
     clear hr ht HC c1
     have HC := Lib.hid (dg_u HP.out.rg hN HP.out.le)
     go_wp2_with fail
     refine HC.out.mono ?_
     rintro e w3 ⟨rfl, hr, ht⟩
     replace HP := Lib.hid (HP.out.call hr ht (uS_le HP.out.le) ⟨HLT.out.1, HLT.out.2.1⟩)
     clear hr ht HC
     obtain ⟨mk, hmk⟩ : ∃ x, x = mdX f N t' := ⟨_, rfl⟩
     obtain ⟨xk, hxk⟩ : ∃ x, x = uV f N t' := ⟨_, rfl⟩
     obtain ⟨xv, hxv⟩ : ∃ x, x = uV f N (uS f N t') := ⟨_, rfl⟩
     rw [← hxk, ← hxv]
     have hmm : mdX f N t' = ⟨xk, xv⟩ := by rw [hxk, hxv]; rfl
     have HMM := Lib.hid hmm
     clear hmk hxk hxv hmm mk
     obtain ⟨i0, hi, hz0, hz1, hz2⟩ := info_parts Md_info
     have HW1 : Hid (∀ (k : Nat) (u : Value), ([.int .i64 xk, .int .i64 xv] : List Value)[k]? = some u → (w3.alloc (.cells #[.int .i64 xk, .int .i64 xv] 113)).cell? ((⟨w3.heap.size, 0, none⟩ : Addr).add k) = some u) := Lib.hid fun k u hk => by
      rw [add_new, (Bk.new w3 113 #[.int .i64 xk, .int .i64 xv]).cell k]
      simpa using hk
     have HBW := Lib.hid HP.out.tch.size
     go_wp2_with (at_builtin; refine wpList_append_rows _ rfl _ _ 22 rfl w.heap.size 113 i0 _ 2 16 Tryz.underlying22 hi hz0 hz1 hz2 rfl (by decide) _ dn.length _ rfl (HP.out.own.alloc _) _ 1 1 [.int .i64 xk, .int .i64 xv] rfl rfl (fun _ => ⟨_, rfl, HW1.out⟩) (fun q => nomatch q) (oneMd [⟨xk, xv⟩]) (by unfold maxLen; omega) (by omega) (by have := HBW.out; simp; omega) ?_; intro v1 wx hown1 hg1)
     have hown2 : wx.ownsRow w.heap.size 113 2 v1 (dn ++ [(⟨xk, xv⟩ : Md)]).length (cellsL 2 mdF (dn ++ [⟨xk, xv⟩])) := by
      rw [cellsL_append, List.length_append]
      exact hown1
     obtain ⟨A', c', rfl, hP'⟩ := (HP.out.go ((Below.refl _ _).alloc (Nat.le_refl _) _)).app HLT.out hown2 hg1
     have hE' := it_more HE.out (by omega) HBD.out
     rw [HMM.out] at hE'
     have HPP := Lib.hid (show LPost w wx r g gB N f (mdS f N t') 113 2 mdF (dn ++ [(⟨xk, xv⟩ : Md)]) A' c' from hP')
     have HEE := Lib.hid hE'
     clear hown1 hown2 hg1 hP' hE' HP HE HW1
     go_roundw
     case rel => exact ⟨j + 1, dn ++ [⟨xk, xv⟩], mdS f N t', A', c', rfl, by go_num, by omega, by rw [List.length_append, List.length_singleton]; omega, HPP.out, HR.out.symm.trans HEE.out⟩
     case measure => simp [intOf]; omega
    ·have hfin := it_end HE.out (.inl HBD.out)
     rw [HR.out] at hfin
     subst hfin
     go_wp2_with fail
     go_ret2
     exact ⟨_, _, rfl, HP.out⟩
   ·have hfin := it_end HE.out (.inr (by omega))
    rw [HR.out] at hfin
    subst hfin
    have hnl : ¬ (j : Int) < n := hlt
    go_wp2_with fail
    go_ret2
    exact ⟨_, _, rfl, HP.out⟩
end
theorem LPost.set {α : Type} {w w1 : World} {r g gB N : Nat} {f : Nat → Bool} {t : St} {T : TypeId} {C : Nat} {F : α → Nat → Value} {l : List α} {A : Option Addr} {c : Nat} (H : LPost w w1 r g gB N f t T C F l A c) (hlt : r < w.heap.size ∧ g < w.heap.size ∧ gB < w.heap.size) {B : Nat} (hB : w.heap.size ≤ B) (hne : (Value.slice A l.length c).ownBlock ≠ some B) (i : Nat) (u : Value) : LPost w (w1.setCell ⟨B, i, none⟩ u) r g gB N f t T C F l A c :=
 ⟨H.rg.far (by omega) (by omega) (by omega) i u, H.tch.setCell (fun h => by have h' : B < w.heap.size := h; omega) u, own_setFar H.own hne u, H.le⟩
section
variable {w : World} {r g gB N : Nat} {f : Nat → Bool} {t : St} (H : DG w r g gB N f t) (hN : N ≤ 1125899906842624) (ha : t.a ≤ N)
include H hN ha
set_option maxRecDepth 100000 in
set_option maxHeartbeats 12800000 in
theorem getwts_any (n : Int) (hn : n ≤ 8) : Calls Tryz.prog 114 #[.pointer (some ⟨r, 0, none⟩), .int .i64 n] w fun e w' => ∃ A c, e = .returned (.slice A (wtG f N n.toNat t).1.length c) ∧ LPost w w' r g gB N f (wtG f N n.toNat t).2 116 6 wtF (wtG f N n.toNat t).1 A c := by
 have hlts := H.lts
 have HLT := Lib.hid hlts
 have HF := Lib.hid (LPost.nil (α := Wt) (T := 116) (C := 6) (F := wtF) H (Touch.refl _ _) ha)
 obtain ⟨R, hR⟩ : ∃ R, wtG f N n.toNat t = R := ⟨_, rfl⟩
 rw [hR]
 have HR := Lib.hid (show itG (wtS f N) (wtX f N) n.toNat t = R from hR)
 clear hlts hR H ha
 go_enter Tryz.func114, Tryz.ntmps114
 go_wp2_with fail
 go_loopw [5, 6] (fun s i wr => ∃ (j : Nat) (dn : List Wt) (t' : St) (A : Option Addr) (c : Nat), s = .slice A dn.length c ∧ i = .int .i64 j ∧ ((j : Int) ≤ n ∨ j = 0) ∧ dn.length ≤ j ∧ LPost w wr r g gB N f t' 116 6 wtF dn A c ∧ R = (dn ++ (itG (wtS f N) (wtX f N) (n.toNat - j) t').1, (itG (wtS f N) (wtX f N) (n.toNat - j) t').2)) (fun _ i _ => 8 - (intOf i).toNat)
 case atStart => exact ⟨0, [], t, none, 0, rfl, rfl, .inr rfl, Nat.le_refl _, HF.out, by rw [← HR.out]; simp⟩
 case round =>
  clear HF
  obtain ⟨j, dn, t', A, c, rfl, rfl, hj, hdl, hP, hE⟩ := hrel
  have HP := Lib.hid hP
  have HE := Lib.hid (show itG (wtS f N) (wtX f N) n.toNat t = (dn ++ (itG (wtS f N) (wtX f N) (n.toNat - j) t').1, (itG (wtS f N) (wtX f N) (n.toNat - j) t').2) from HR.out.trans hE)
  have c1 := hP.rg.bad
  have hj0 : (0 : Int) ≤ (j : Int) := Int.natCast_nonneg _
  have HJ := Lib.hid hj
  clear hP hE hj
  obtain ⟨bd, hbd⟩ : ∃ b, t'.bad = b := ⟨_, rfl⟩
  rw [hbd] at c1
  have HBD := Lib.hid hbd
  clear hbd
  by_cases hlt : (j : Int) < n
  ·cases bd
   ·have hjn : j ≤ 8 := by omega
    have hnew : Below wr.heap.size wr (wr.alloc (.cells #[.int .i64 0, .int .i64 0, .int .i64 0, .int .i64 0, .int .i64 0, .int .i64 0] 116)) := (Below.refl _ _).alloc (Nat.le_refl _) _
    have hKW := Bk.new wr 116 #[.int .i64 0, .int .i64 0, .int .i64 0, .int .i64 0, .int .i64 0, .int .i64 0]
    have hne : (Value.slice A dn.length c).ownBlock ≠ some wr.heap.size := fun e => by have := (HP.out.own.lt _ e).2; omega
    have hwB : w.heap.size ≤ wr.heap.size := HP.out.tch.size
    have hPz := HP.out.go hnew
    obtain ⟨wz, hwz⟩ : ∃ wz, wz = wr.alloc (.cells #[.int .i64 0, .int .i64 0, .int .i64 0, .int .i64 0, .int .i64 0, .int .i64 0] 116) := ⟨_, rfl⟩
    rw [← hwz] at hKW hPz
    obtain ⟨bW, hbW⟩ : ∃ b, wr.heap.size = b := ⟨_, rfl⟩
    rw [hbW] at hKW hne hwB
    have HNE := Lib.hid hne
    have HWB := Lib.hid hwB
    have KW := Lib.hid hKW
    have HQ := Lib.hid hPz
    have HB116 := Lib.hid hbW
    go_upto_region 6 with fail
    rw [← hwz]
    try rw [hbW]
    clear hnew hKW hne hwB hPz hwz hbW c1 HP
    go_wp2_with fail
    refine wp_loop_rounds 4 ?_
    rw [rounds_succ]
    go_wp2_with fail
    have HC := Lib.hid (dg_s HQ.out.rg hN HQ.out.le)
    refine HC.out.mono ?_
    rintro e u0 ⟨rfl, hr, ht⟩
    replace HQ := Lib.hid (HQ.out.call hr ht (uS_le HQ.out.le) ⟨HLT.out.1, HLT.out.2.1⟩)
    replace KW : Hid (Bk u0 bW 116 #[.int .i64 0, .int .i64 0, .int .i64 0, .int .i64 0, .int .i64 0, .int .i64 0]) := Lib.hid (KW.out.touch ht (by have h1 := HLT.out; have h2 := HWB.out; rintro (q | q) <;> omega))
    clear hr ht HC
    obtain ⟨x0, hx0⟩ : ∃ x, sV f N (t') = x := ⟨_, rfl⟩
    rw [hx0]
    have Hx0 := Lib.hid hx0
    have cc := KW.out.cell 0
    have ff := KW.out.frozen 0
    have gg := KW.out.lt
    simp at cc
    clear hx0
    go_wp2_with fail
    obtain ⟨z0, hz⟩ : ∃ z, u0.setCell ⟨bW, 0, none⟩ (.int .i64 x0) = z := ⟨_, rfl⟩
    replace HQ := Lib.hid (hz ▸ HQ.out.set HLT.out HWB.out HNE.out 0 (.int .i64 x0))
    replace KW : Hid (Bk z0 bW 116 #[.int .i64 x0, .int .i64 0, .int .i64 0, .int .i64 0, .int .i64 0, .int .i64 0]) := Lib.hid (hz ▸ KW.out.set_ 0 (.int .i64 x0))
    rw [hz]
    clear hz cc ff gg
    have HC := Lib.hid (dg_s HQ.out.rg hN HQ.out.le)
    refine HC.out.mono ?_
    rintro e u1 ⟨rfl, hr, ht⟩
    replace HQ := Lib.hid (HQ.out.call hr ht (uS_le HQ.out.le) ⟨HLT.out.1, HLT.out.2.1⟩)
    replace KW : Hid (Bk u1 bW 116 #[.int .i64 x0, .int .i64 0, .int .i64 0, .int .i64 0, .int .i64 0, .int .i64 0]) := Lib.hid (KW.out.touch ht (by have h1 := HLT.out; have h2 := HWB.out; rintro (q | q) <;> omega))
    clear hr ht HC
    obtain ⟨x1, hx1⟩ : ∃ x, sV f N (uS f N (t')) = x := ⟨_, rfl⟩
    rw [hx1]
    have Hx1 := Lib.hid hx1
    have cc := KW.out.cell 3
    have ff := KW.out.frozen 3
    have gg := KW.out.lt
    simp at cc
    clear hx1
    go_wp2_with fail
    obtain ⟨z1, hz⟩ : ∃ z, u1.setCell ⟨bW, 3, none⟩ (.int .i64 x1) = z := ⟨_, rfl⟩
    replace HQ := Lib.hid (hz ▸ HQ.out.set HLT.out HWB.out HNE.out 3 (.int .i64 x1))
    replace KW : Hid (Bk z1 bW 116 #[.int .i64 x0, .int .i64 0, .int .i64 0, .int .i64 x1, .int .i64 0, .int .i64 0]) := Lib.hid (hz ▸ KW.out.set_ 3 (.int .i64 x1))
    rw [hz]
    clear hz cc ff gg
    rw [rounds_succ]
    go_wp2_with fail
    have HC := Lib.hid (dg_s HQ.out.rg hN HQ.out.le)
    refine HC.out.mono ?_
    rintro e u2 ⟨rfl, hr, ht⟩
    replace HQ := Lib.hid (HQ.out.call hr ht (uS_le HQ.out.le) ⟨HLT.out.1, HLT.out.2.1⟩)
    replace KW : Hid (Bk u2 bW 116 #[.int .i64 x0, .int .i64 0, .int .i64 0, .int .i64 x1, .int .i64 0, .int .i64 0]) := Lib.hid (KW.out.touch ht (by have h1 := HLT.out; have h2 := HWB.out; rintro (q | q) <;> omega))
    clear hr ht HC
    obtain ⟨x2, hx2⟩ : ∃ x, sV f N (uS f N (uS f N (t'))) = x := ⟨_, rfl⟩
    rw [hx2]
    have Hx2 := Lib.hid hx2
    have cc := KW.out.cell 1
    have ff := KW.out.frozen 1
    have gg := KW.out.lt
    simp at cc
    clear hx2
    go_wp2_with fail
    obtain ⟨z2, hz⟩ : ∃ z, u2.setCell ⟨bW, 1, none⟩ (.int .i64 x2) = z := ⟨_, rfl⟩
    replace HQ := Lib.hid (hz ▸ HQ.out.set HLT.out HWB.out HNE.out 1 (.int .i64 x2))
    replace KW : Hid (Bk z2 bW 116 #[.int .i64 x0, .int .i64 x2, .int .i64 0, .int .i64 x1, .int .i64 0, .int .i64 0]) := Lib.hid (hz ▸ KW.out.set_ 1 (.int .i64 x2))
    rw [hz]
    clear hz cc ff gg
    have HC := Lib.hid (dg_s HQ.out.rg hN HQ.out.le)
    refine HC.out.mono ?_
    rintro e u3 ⟨rfl, hr, ht⟩
    replace HQ := Lib.hid (HQ.out.call hr ht (uS_le HQ.out.le) ⟨HLT.out.1, HLT.out.2.1⟩)
    replace KW : Hid (Bk u3 bW 116 #[.int .i64 x0, .int .i64 x2, .int .i64 0, .int .i64 x1, .int .i64 0, .int .i64 0]) := Lib.hid (KW.out.touch ht (by have h1 := HLT.out; have h2 := HWB.out; rintro (q | q) <;> omega))
    clear hr ht HC
    obtain ⟨x3, hx3⟩ : ∃ x, sV f N (uS f N (uS f N (uS f N (t')))) = x := ⟨_, rfl⟩
    rw [hx3]
    have Hx3 := Lib.hid hx3
    have cc := KW.out.cell 4
    have ff := KW.out.frozen 4
    have gg := KW.out.lt
    simp at cc
    clear hx3
    go_wp2_with fail
    obtain ⟨z3, hz⟩ : ∃ z, u3.setCell ⟨bW, 4, none⟩ (.int .i64 x3) = z := ⟨_, rfl⟩
    replace HQ := Lib.hid (hz ▸ HQ.out.set HLT.out HWB.out HNE.out 4 (.int .i64 x3))
    replace KW : Hid (Bk z3 bW 116 #[.int .i64 x0, .int .i64 x2, .int .i64 0, .int .i64 x1, .int .i64 x3, .int .i64 0]) := Lib.hid (hz ▸ KW.out.set_ 4 (.int .i64 x3))
    rw [hz]
    clear hz cc ff gg
    rw [rounds_succ]
    go_wp2_with fail
    have HC := Lib.hid (dg_s HQ.out.rg hN HQ.out.le)
    refine HC.out.mono ?_
    rintro e u4 ⟨rfl, hr, ht⟩
    replace HQ := Lib.hid (HQ.out.call hr ht (uS_le HQ.out.le) ⟨HLT.out.1, HLT.out.2.1⟩)
    replace KW : Hid (Bk u4 bW 116 #[.int .i64 x0, .int .i64 x2, .int .i64 0, .int .i64 x1, .int .i64 x3, .int .i64 0]) := Lib.hid (KW.out.touch ht (by have h1 := HLT.out; have h2 := HWB.out; rintro (q | q) <;> omega))
    clear hr ht HC
    obtain ⟨x4, hx4⟩ : ∃ x, sV f N (uS f N (uS f N (uS f N (uS f N (t'))))) = x := ⟨_, rfl⟩
    rw [hx4]
    have Hx4 := Lib.hid hx4
    have cc := KW.out.cell 2
    have ff := KW.out.frozen 2
    have gg := KW.out.lt
    simp at cc
    clear hx4
    go_wp2_with fail
    obtain ⟨z4, hz⟩ : ∃ z, u4.setCell ⟨bW, 2, none⟩ (.int .i64 x4) = z := ⟨_, rfl⟩
    replace HQ := Lib.hid (hz ▸ HQ.out.set HLT.out HWB.out HNE.out 2 (.int .i64 x4))
    replace KW : Hid (Bk z4 bW 116 #[.int .i64 x0, .int .i64 x2, .int .i64 x4, .int .i64 x1, .int .i64 x3, .int .i64 0]) := Lib.hid (hz ▸ KW.out.set_ 2 (.int .i64 x4))
    rw [hz]
    clear hz cc ff gg
    have HC := Lib.hid (dg_s HQ.out.rg hN HQ.out.le)
    refine HC.out.mono ?_
    rintro e u5 ⟨rfl, hr, ht⟩
    replace HQ := Lib.hid (HQ.out.call hr ht (uS_le HQ.out.le) ⟨HLT.out.1, HLT.out.2.1⟩)
    replace KW : Hid (Bk u5 bW 116 #[.int .i64 x0, .int .i64 x2, .int .i64 x4, .int .i64 x1, .int .i64 x3, .int .i64 0]) := Lib.hid (KW.out.touch ht (by have h1 := HLT.out; have h2 := HWB.out; rintro (q | q) <;> omega))
    clear hr ht HC
    obtain ⟨x5, hx5⟩ : ∃ x, sV f N (uS f N (uS f N (uS f N (uS f N (uS f N (t')))))) = x := ⟨_, rfl⟩
    rw [hx5]
    have Hx5 := Lib.hid hx5
    have cc := KW.out.cell 5
    have ff := KW.out.frozen 5
    have gg := KW.out.lt
    simp at cc
    clear hx5
    go_wp2_with fail
    obtain ⟨z5, hz⟩ : ∃ z, u5.setCell ⟨bW, 5, none⟩ (.int .i64 x5) = z := ⟨_, rfl⟩
    replace HQ := Lib.hid (hz ▸ HQ.out.set HLT.out HWB.out HNE.out 5 (.int .i64 x5))
    replace KW : Hid (Bk z5 bW 116 #[.int .i64 x0, .int .i64 x2, .int .i64 x4, .int .i64 x1, .int .i64 x3, .int .i64 x5]) := Lib.hid (hz ▸ KW.out.set_ 5 (.int .i64 x5))
    rw [hz]
    clear hz cc ff gg
    rw [rounds_succ]
    have c0 := KW.out.cell 0
    have c1 := KW.out.cell 1
    have c2 := KW.out.cell 2
    have c3 := KW.out.cell 3
    have c4 := KW.out.cell 4
    have c5 := KW.out.cell 5
    have gg := KW.out.lt
    simp at c0 c1 c2 c3 c4 c5
    obtain ⟨i0, hi, hz0, hz1, hz2⟩ := info_parts Wt_info
    have HW1 : Hid (∀ (k : Nat) (u : Value), ([.int .i64 x0, .int .i64 x2, .int .i64 x4, .int .i64 x1, .int .i64 x3, .int .i64 x5] : List Value)[k]? = some u → (z5.alloc (.cells #[.int .i64 x0, .int .i64 x2, .int .i64 x4, .int .i64 x1, .int .i64 x3, .int .i64 x5] 116)).cell? ((⟨z5.heap.size, 0, none⟩ : Addr).add k) = some u) := Lib.hid fun k u hk => by
     rw [add_new, (Bk.new z5 116 #[.int .i64 x0, .int .i64 x2, .int .i64 x4, .int .i64 x1, .int .i64 x3, .int .i64 x5]).cell k]
     simpa using hk
    have HBW := Lib.hid HQ.out.tch.size
    go_wp2_with (at_builtin; refine wpList_append_rows _ rfl _ _ 23 rfl w.heap.size 116 i0 _ 6 48 Tryz.underlying23 hi hz0 hz1 hz2 rfl (by decide) _ dn.length _ rfl (HQ.out.own.alloc _) _ 1 1 [.int .i64 x0, .int .i64 x2, .int .i64 x4, .int .i64 x1, .int .i64 x3, .int .i64 x5] rfl rfl (fun _ => ⟨_, rfl, HW1.out⟩) (fun q => nomatch q) (oneWt [⟨x0, x2, x4, x1, x3, x5⟩]) (by unfold maxLen; omega) (by omega) (by have := HBW.out; simp; omega) ?_; intro v1 wx hown1 hg1)
    have hown2 : wx.ownsRow w.heap.size 116 6 v1 (dn ++ [(⟨x0, x2, x4, x1, x3, x5⟩ : Wt)]).length (cellsL 6 wtF (dn ++ [⟨x0, x2, x4, x1, x3, x5⟩])) := by
     rw [cellsL_append, List.length_append]
     exact hown1
    obtain ⟨A', c', rfl, hP'⟩ := (HQ.out.go ((Below.refl _ _).alloc (Nat.le_refl _) _)).app HLT.out hown2 hg1
    have hmm : wtX f N t' = ⟨x0, x2, x4, x1, x3, x5⟩ := by
     rw [← Hx0.out, ← Hx1.out, ← Hx2.out, ← Hx3.out, ← Hx4.out, ← Hx5.out]
     rfl
    have hE' := it_more HE.out (by omega) HBD.out
    rw [hmm] at hE'
    have HPP := Lib.hid (show LPost w wx r g gB N f (wtS f N t') 116 6 wtF (dn ++ [(⟨x0, x2, x4, x1, x3, x5⟩ : Wt)]) A' c' from hP')
    have HEE := Lib.hid hE'
    clear hown1 hown2 hg1 hP' hE' hmm HE HW1 c0 c1 c2 c3 c4 c5 gg
    go_roundw
    case rel => first | exact ⟨j + 1, dn ++ [⟨x0, x2, x4, x1, x3, x5⟩], wtS f N t', A', c', rfl, by go_num, .inl (by omega), by rw [List.length_append, List.length_singleton]; omega, HPP.out, HR.out.symm.trans HEE.out⟩ | ((repeat apply Exists.intro); exact ⟨⟨j + 1, dn ++ [⟨x0, x2, x4, x1, x3, x5⟩], wtS f N t', A', c', rfl, by go_num, .inl (by omega), by rw [List.length_append, List.length_singleton]; omega, HPP.out, HR.out.symm.trans HEE.out⟩, rfl⟩)
    case measure => simp [intOf]; omega
   ·have hfin := it_end HE.out (.inl HBD.out)
    rw [HR.out] at hfin
    subst hfin
    go_wp2_with fail
    go_ret
    exact ⟨_, _, rfl, HP.out⟩
  ·have hfin := it_end HE.out (.inr (by have := HJ.out; omega))
   rw [HR.out] at hfin
   subst hfin
   have hnl : ¬ (j : Int) < n := hlt
   go_wp2_with fail
   go_ret
   exact ⟨_, _, rfl, HP.out⟩
end
end Go.Proofs.YtjokibagciehlaaGreat

namespace Go.Proofs.YtjokibagciehlaaGreat
open Go.RowKit
set_option linter.unusedVariables false
set_option linter.unusedSimpArgs false

/-- a header's rows, of the call's own -/
structure HOw (w : World) (B0 : Nat) (l : Lst) (q : Ha) : Prop where
 m0 : w.ownsRow B0 113 2 (.slice q.m0 l.m0.length q.cm0) l.m0.length (cellsL 2 mdF l.m0)
 m1 : w.ownsRow B0 113 2 (.slice q.m1 l.m1.length q.cm1) l.m1.length (cellsL 2 mdF l.m1)
 w0 : w.ownsRow B0 116 6 (.slice q.w0 l.w0.length q.cw0) l.w0.length (cellsL 6 wtF l.w0)
 w1 : w.ownsRow B0 116 6 (.slice q.w1 l.w1.length q.cw1) l.w1.length (cellsL 6 wtF l.w1)
 ops : w.ownsRow B0 118 3 (.slice q.ops l.ops.length q.cops) l.ops.length (cellsL 3 moF l.ops)
/-- a block that is no such row -/
def NotRow (w : World) (k : Nat) : Prop := ∃ t cs, Bk w k t cs ∧ t ≠ 113 ∧ t ≠ 116 ∧ t ≠ 118
theorem row_bk {w : World} {base n C : Nat} {e : TypeId} {v : Value} {xs : List Value} (h : w.ownsRow base e C v n xs) {k : Nat} (hk : v.ownBlock = some k) : ∃ cs, Bk w k e cs := by
 rcases h.2 with ⟨rfl, _⟩ | ⟨g, cap, cur, rfl, _, hh, _⟩
 ·cases hk
 ·have : g = k := by simpa [Value.ownBlock] using hk
  subst this
  exact ⟨cur, hh⟩
theorem HOw.touch {S : Nat → Prop} {w w' : World} {B0 : Nat} {l : Lst} {q : Ha} (H : HOw w B0 l q) (ht : Touch S w w') (hs : ∀ k, S k → NotRow w k) : HOw w' B0 l q := by
 refine ⟨own_touch H.m0 ht fun k hk q' => ?_, own_touch H.m1 ht fun k hk q' => ?_, own_touch H.w0 ht fun k hk q' => ?_, own_touch H.w1 ht fun k hk q' => ?_, own_touch H.ops ht fun k hk q' => ?_⟩
 all_goals obtain ⟨t, cs, hb, n1, n2, n3⟩ := hs k q'
 ·exact Bk.ne_own hb H.m0 n1 hk
 ·exact Bk.ne_own hb H.m1 n1 hk
 ·exact Bk.ne_own hb H.w0 n2 hk
 ·exact Bk.ne_own hb H.w1 n2 hk
 ·exact Bk.ne_own hb H.ops n3 hk
theorem HOw.go {w w' : World} {B0 : Nat} {l : Lst} {q : Ha} (H : HOw w B0 l q) (hb : Below w.heap.size w w') : HOw w' B0 l q := ⟨own_go H.m0 hb, own_go H.m1 hb, own_go H.w0 hb, own_go H.w1 hb, own_go H.ops hb⟩
theorem HOw.set {w : World} {B0 : Nat} {l : Lst} {q : Ha} (H : HOw w B0 l q) {p : Addr} (hn : NotRow w p.block) (u : Value) : HOw (w.setCell p u) B0 l q := by
 obtain ⟨t, cs, hb, n1, n2, n3⟩ := hn
 exact ⟨own_setFar H.m0 (Bk.ne_own hb H.m0 n1) u, own_setFar H.m1 (Bk.ne_own hb H.m1 n1) u, own_setFar H.w0 (Bk.ne_own hb H.w0 n2) u, own_setFar H.w1 (Bk.ne_own hb H.w1 n2) u, own_setFar H.ops (Bk.ne_own hb H.ops n3) u⟩
theorem own_rwAt {α : Type} {w : World} {base C n c : Nat} {e : TypeId} {A : Option Addr} {F : α → Nat → Value} {l : List α} (hC : 0 < C) (h : w.ownsRow base e C (.slice A n c) n (cellsL C F l)) (hn : n = l.length) : RwAt w w.heap.size A C F l := by
 rcases h.2 with ⟨hv, h0⟩ | ⟨g, cap, cur, hv, hb, hh, _⟩
 ·intro hl; omega
 ·injection hv with h1 h2 h3
  subst h1 h3
  exact RwAt.of_row hC h (Array.getElem?_eq_some_iff.1 hh).1
theorem HOw.hd {w : World} {B0 : Nat} {h : Hd} {q : Ha} (H : HOw w B0 h.ls q) : HdAt w w.heap.size h q := ⟨own_rwAt (by decide) H.m0 rfl, own_rwAt (by decide) H.m1 rfl, own_rwAt (by decide) H.w0 rfl, own_rwAt (by decide) H.w1 rfl, own_rwAt (by decide) H.ops rfl⟩
theorem HOw.zero (w : World) (B0 : Nat) : HOw w B0 Hd.zero.ls Ha.zero := ⟨World.ownsRow_nil _ _ _ _, World.ownsRow_nil _ _ _ _, World.ownsRow_nil _ _ _ _, World.ownsRow_nil _ _ _ _, World.ownsRow_nil _ _ _ _⟩
/-- what get holds on its way, since w0 -/
structure HG (w0 w : World) (r g gB N : Nat) (f : Nat → Bool) (t : St) (B : Nat) (h : Hd) (q : Ha) : Prop where
 rg : DG w r g gB N f t
 bk : Bk w B 26 (hdV h q)
 own : HOw w w0.heap.size h.ls q
 tch : Touch (RGS r g) w0 w
 nb : w0.heap.size ≤ B
 lt : r < w0.heap.size ∧ g < w0.heap.size ∧ gB < w0.heap.size
 le : t.a ≤ N
section
variable {w0 w w' : World} {r g gB N B : Nat} {f : Nat → Bool} {t t' : St} {h h' : Hd} {q q' : Ha}
theorem DG.rows (H : DG w r g gB N f t) (k : Nat) (hk : RGS r g k) : NotRow w k := by
 rcases hk with rfl | rfl
 ·exact ⟨_, _, H.1, by decide, by decide, by decide⟩
 ·obtain ⟨cp, hb⟩ := H.2.1.bk
  exact ⟨_, _, hb, by decide, by decide, by decide⟩
theorem HG.box (H : HG w0 w r g gB N f t B h q) : NotRow w B := ⟨_, _, H.bk, by decide, by decide, by decide⟩
theorem HG.call (H : HG w0 w r g gB N f t B h q) (hr : DG w' r g gB N f t') (ht : Touch (RGS r g) w w') (hl : t'.a ≤ N) : HG w0 w' r g gB N f t' B h q :=
 ⟨hr, H.bk.touch ht (fun e => by have h1 := H.lt; have h2 := H.nb; rcases e with e | e <;> omega), H.own.touch ht H.rg.rows, H.tch.trans ht, H.nb, H.lt, hl⟩
theorem HG.go (H : HG w0 w r g gB N f t B h q) (hb : Below w.heap.size w w') : HG w0 w' r g gB N f t B h q :=
 ⟨H.rg.go hb, H.bk.go hb, H.own.go hb, H.tch.trans (Touch.of_new hb), H.nb, H.lt, H.le⟩
theorem HG.put (H : HG w0 w r g gB N f t B h q) {i : Nat} {u : Value} (e : (hdV h q).setIfInBounds i u = hdV h' q) (el : h'.ls = h.ls) : HG w0 (w.setCell ⟨B, i, none⟩ u) r g gB N f t B h' q := by
 have h1 := H.lt
 have h2 := H.nb
 exact ⟨H.rg.far (by omega) (by omega) (by omega) i u, e ▸ H.bk.set_ i u, el ▸ H.own.set H.box u, H.tch.setCell (fun hh => by have h' : B < w0.heap.size := hh; omega) u, H.nb, H.lt, H.le⟩
/-- a list is laid down -/
theorem HG.lay (H : HG w0 w r g gB N f t B h q) {i : Nat} {u : Value} (e : (hdV h q).setIfInBounds i u = hdV h' q') (own : HOw w w0.heap.size h'.ls q') : HG w0 (w.setCell ⟨B, i, none⟩ u) r g gB N f t B h' q' := by
 have h1 := H.lt
 have h2 := H.nb
 exact ⟨H.rg.far (by omega) (by omega) (by omega) i u, e ▸ H.bk.set_ i u, own.set H.box u, H.tch.setCell (fun hh => by have h' : B < w0.heap.size := hh; omega) u, H.nb, H.lt, H.le⟩
/-- the marking's row has grown -/
theorem HG.grown {l' : List Mo} {A' : Option Addr} {c' : Nat} {x : Value} (H : HG w0 w r g gB N f t B h q) (ho : w'.ownsRow w0.heap.size 118 3 (.slice A' l'.length c') l'.length (cellsL 3 moF l')) (hg : w.grownBy w' (Value.slice q.ops h.ops.length q.cops).ownBlock) :
  DG w' r g gB N f t ∧ Bk w' B 26 (hdV h q) ∧ HOw w' w0.heap.size { h with ops := l' }.ls { q with ops := A', cops := c' } ∧ Touch (RGS r g) w0 w' := by
 have h1 := H.lt
 have hlt := fun k hk => (H.own.ops.lt k hk).1
 have hne : ∀ k, (Value.slice q.ops h.ops.length q.cops).ownBlock = some k → k ≠ r ∧ k ≠ g ∧ k ≠ gB := fun k hk => by have := hlt k hk; omega
 have ht : Touch (fun k => (Value.slice q.ops h.ops.length q.cops).ownBlock = some k) w w' := (Touch.refl _ w).grown hg (fun k e _ => e)
 have far : ∀ {C : Nat} {e : TypeId} {v : Value} {n : Nat} {xs : List Value}, w.ownsRow w0.heap.size e C v n xs → 118 ≠ e → w'.ownsRow w0.heap.size e C v n xs := fun hq hn => own_touch hq ht (fun k hk q' => by
  obtain ⟨cs, hb⟩ := row_bk H.own.ops q'
  exact Bk.ne_own hb hq hn hk)
 refine ⟨H.rg.grown hg (fun e => (hne r e.symm).1 rfl) (fun e => (hne g e.symm).2.1 rfl) (fun e => (hne gB e.symm).2.2 rfl), H.bk.grown hg (fun e => Bk.ne_own H.bk H.own.ops (by decide) e.symm), ⟨far H.own.m0 (by decide), far H.own.m1 (by decide), far H.own.w0 (by decide), far H.own.w1 (by decide), ho⟩, H.tch.grown hg (fun k e hk => by have := hlt k e; omega)⟩
theorem HG.of (h1 : DG w r g gB N f t) (h2 : Bk w B 26 (hdV h q)) (h3 : HOw w w0.heap.size h.ls q) (h4 : Touch (RGS r g) w0 w) (h5 : w0.heap.size ≤ B) (h6 : r < w0.heap.size ∧ g < w0.heap.size ∧ gB < w0.heap.size) (h7 : t.a ≤ N) : HG w0 w r g gB N f t B h q := ⟨h1, h2, h3, h4, h5, h6, h7⟩
/-- a list that such a call has made, under the header -/
theorem HG.list {α : Type} {T : TypeId} {C : Nat} {F : α → Nat → Value} {l : List α} {A : Option Addr} {c : Nat} (H : HG w0 w r g gB N f t B h q) (P : LPost w w' r g gB N f t' T C F l A c) : HG w0 w' r g gB N f t' B h q ∧ w'.ownsRow w0.heap.size T C (.slice A l.length c) l.length (cellsL C F l) :=
 ⟨H.call P.rg P.tch P.le, own_less P.own H.tch.size⟩
end
theorem mo_len (f : Nat → Bool) (N : Nat) : ∀ (n : Nat) (t : St), (moG f N n t).1.length ≤ n
 | 0, t => Nat.zero_le _
 | n + 1, t => by
  unfold moG
  split
  ·exact Nat.zero_le _
  ·split
   ·exact Nat.zero_le _
   ·have := mo_len f N n (moB f N t).2
    simp only [List.length_cons]
    omega
end Go.Proofs.YtjokibagciehlaaGreat

namespace Go.Proofs.YtjokibagciehlaaGreat
open Go.RowKit
set_option linter.unusedVariables false
set_option linter.unusedSimpArgs false
attribute [local go_sem ↓] Go.wp_at_zero Go.wp_at_succ

def moI (f : Nat → Bool) (N : Nat) (t : St) : Bool := !(uS f N t).bad && !inR 1 6 (uV f N t)
def moX (f : Nat → Bool) (N : Nat) (t : St) : Mo := ⟨uV f N t, (moA f N t).1, (moB f N t).1⟩
theorem mo_succ (f : Nat → Bool) (N n : Nat) {t : St} (hb : t.bad = false) : moG f N (n + 1) t = if moI f N t = true then ([], false, uS f N t) else (moX f N t :: (moG f N n (moB f N t).2).1, (moG f N n (moB f N t).2).2.1, (moG f N n (moB f N t).2).2.2) := by
 show (if t.bad = true then _ else _) = _
 rw [hb]
 rfl
section
variable {f : Nat → Bool} {N k j : Nat} {t0 t : St} {dn : List Mo}
theorem mo_more (h : moG f N k t0 = (dn ++ (moG f N (k - j) t).1, (moG f N (k - j) t).2.1, (moG f N (k - j) t).2.2)) (hj : j < k) (hb : t.bad = false) (hi : moI f N t = false) : moG f N k t0 = ((dn ++ [moX f N t]) ++ (moG f N (k - (j + 1)) (moB f N t).2).1, (moG f N (k - (j + 1)) (moB f N t).2).2.1, (moG f N (k - (j + 1)) (moB f N t).2).2.2) := by
 rw [h, show k - j = (k - (j + 1)) + 1 by omega, mo_succ f N _ hb, hi]
 simp
theorem mo_cut (h : moG f N k t0 = (dn ++ (moG f N (k - j) t).1, (moG f N (k - j) t).2.1, (moG f N (k - j) t).2.2)) (hj : j < k) (hb : t.bad = false) (hi : moI f N t = true) : moG f N k t0 = (dn, false, uS f N t) := by
 rw [h, show k - j = (k - (j + 1)) + 1 by omega, mo_succ f N _ hb, hi]
 simp
theorem mo_end (h : moG f N k t0 = (dn ++ (moG f N (k - j) t).1, (moG f N (k - j) t).2.1, (moG f N (k - j) t).2.2)) (hj : t.bad = true ∨ k ≤ j) : moG f N k t0 = (dn, true, t) := by
 rw [h]
 rcases hj with hb | hj
 ·rw [mo_bad f N hb]; simp
 ·rw [show k - j = 0 by omega]; simp [moG]
end
def HdO (h : Hd) (l : List Mo) : Hd := { h with ops := l }
theorem hdO_self {h : Hd} (h0 : h.ops = []) : HdO h [] = h := by
 cases h
 cases h0
 rfl
theorem hdV_mo (h : Hd) (q : Ha) (l l' : List Mo) (A : Option Addr) (c : Nat) : (hdV (HdO h l) q).setIfInBounds 16 (.slice A l'.length c) = hdV (HdO h l') { q with ops := A, cops := c } := by
 unfold hdV HdO
 simp
/-- a row is laid into the header's block: the rows being the new header's -/
theorem HG.layR {w0 w : World} {r g gB N B : Nat} {f : Nat → Bool} {t : St} {h h' : Hd} {q q' : Ha} {i : Nat} {u : Value} (h1 : DG w r g gB N f t) (h2 : Bk w B 26 (hdV h q)) (h3 : HOw w w0.heap.size h'.ls q') (h4 : Touch (RGS r g) w0 w) (h5 : w0.heap.size ≤ B) (h6 : r < w0.heap.size ∧ g < w0.heap.size ∧ gB < w0.heap.size) (h7 : t.a ≤ N) (e : (hdV h q).setIfInBounds i u = hdV h' q') :
  HG w0 (w.setCell ⟨B, i, none⟩ u) r g gB N f t B h' q' :=
 ⟨h1.far (by omega) (by omega) (by omega) i u, e ▸ h2.set_ i u, h3.set ⟨_, _, h2, by decide, by decide, by decide⟩ u, h4.setCell (fun hh => by have h' : B < w0.heap.size := hh; omega) u, h5, h6, h7⟩
section
variable {w0 w : World} {r g gB N B : Nat} {f : Nat → Bool} {t : St} {h : Hd} {q : Ha}
/-- one operation more, laid down -/
theorem HG.more {w2 w6 : World} {dn : List Mo} {m : Mo} {G C : Nat} (H : HG w0 w2 r g gB N f t B (HdO h dn) q) (ho : w6.ownsRow w0.heap.size 118 3 (.slice (some ⟨G, 0, none⟩) (dn.length + 1) C) (dn.length + 1) (cellsL 3 moF dn ++ cellsL 3 moF [m])) (hg : w2.grownBy w6 (Value.slice q.ops dn.length q.cops).ownBlock) :
  HG w0 (w6.setCell ⟨B, 16, none⟩ (.slice (some ⟨G, 0, none⟩) (dn.length + 1) C)) r g gB N f t B (HdO h (dn ++ [m])) { q with ops := some ⟨G, 0, none⟩, cops := C } := by
 have ho' : w6.ownsRow w0.heap.size 118 3 (.slice (some ⟨G, 0, none⟩) (dn ++ [m]).length C) (dn ++ [m]).length (cellsL 3 moF (dn ++ [m])) := by
  rw [cellsL_append, List.length_append]
  exact ho
 obtain ⟨h1, h2, h3, h4⟩ := H.grown (x := .bool true) ho' hg
 have e := hdV_mo h q dn (dn ++ [m]) (some ⟨G, 0, none⟩) C
 rw [List.length_append] at e
 exact HG.layR h1 h2 h3 h4 H.nb H.lt H.le e
end
theorem HG.bkG {w0 w w' : World} {r g gB N B : Nat} {f : Nat → Bool} {t : St} {h : Hd} {q : Ha} (H : HG w0 w r g gB N f t B h q) (hg : w.grownBy w' (Value.slice q.ops h.ops.length q.cops).ownBlock) : Bk w' B 26 (hdV h q) := H.bk.grown hg (fun e => Bk.ne_own H.bk H.own.ops (by decide) e.symm)
/-- getMarks has written, since wA: the reader's blocks, the header's; the row is its own -/
def MT (wA wr : World) (r g B : Nat) (q : Ha) : Prop := Touch (fun k => RGS r g k ∨ k = B) wA wr ∧ ∀ A, q.ops = some A → wA.heap.size ≤ A.block
section
variable {wA wr wx : World} {r g B : Nat} {q : Ha}
theorem MT.call (H : MT wA wr r g B q) (ht : Touch (RGS r g) wr wx) : MT wA wx r g B q := ⟨H.1.trans (ht.mono fun k _ e => .inl e), H.2⟩
theorem MT.go (H : MT wA wr r g B q) (hb : Below wr.heap.size wr wx) : MT wA wx r g B q := ⟨H.1.trans (Touch.of_new hb), H.2⟩
theorem MT.cell (H : MT wA wr r g B q) {o : Nat} (ho : wA.heap.size ≤ o) (i : Nat) (u : Value) : MT wA (wr.setCell ⟨o, i, none⟩ u) r g B q := ⟨H.1.setCell (fun hh => by have h' : o < wA.heap.size := hh; omega) u, H.2⟩
theorem MT.more (H : MT wA wr r g B q) {n M gk cap : Nat} {u : Value} (hg : wr.grownBy wx (Value.slice q.ops n q.cops).ownBlock) (hat : (Value.slice q.ops n q.cops).ownBlock = some gk ∨ gk = M) (hM : wA.heap.size ≤ M) : MT wA (wx.setCell ⟨B, 16, none⟩ u) r g B { q with ops := some ⟨gk, 0, none⟩, cops := cap } := by
 have hk : ∀ k, (Value.slice q.ops n q.cops).ownBlock = some k → wA.heap.size ≤ k := fun k e => by
  cases h : q.ops with
  | none => rw [h] at e; cases e
  | some A =>
   rw [h] at e
   have e' : A.block = k := by simpa [Value.ownBlock] using e
   exact e' ▸ H.2 A h
 refine ⟨(H.1.grown hg (fun k e hlt => by have := hk k e; omega)).setCell (fun _ => .inr rfl) u, fun A e => ?_⟩
 injection e with e
 subst e
 rcases hat with h | h
 ·exact hk gk h
 ·show wA.heap.size ≤ gk
  omega
end
/-- a cell of an operation's block is written, which is none of the row's -/
theorem HG.setO {w0 w : World} {r g gB N B : Nat} {f : Nat → Bool} {t : St} {h : Hd} {q : Ha} {o : Nat} {cs : Array Value} (H : HG w0 w r g gB N f t B h q) (hb : Bk w o 118 cs) (ho : w0.heap.size ≤ o) (hne : (Value.slice q.ops h.ops.length q.cops).ownBlock ≠ some o) (i : Nat) (u : Value) : HG w0 (w.setCell ⟨o, i, none⟩ u) r g gB N f t B h q := by
 have h1 := H.lt
 have far : ∀ {C : Nat} {e : TypeId} {v : Value} {n : Nat} {xs : List Value}, w.ownsRow w0.heap.size e C v n xs → 118 ≠ e → (w.setCell ⟨o, i, none⟩ u).ownsRow w0.heap.size e C v n xs := fun hq hn => own_setFar hq (Bk.ne_own hb hq hn) u
 refine ⟨H.rg.far (by omega) (by omega) (by omega) i u, H.bk.far (p := ⟨o, i, none⟩) (Bk.ne_ H.bk hb (by decide)) u, ⟨far H.own.m0 (by decide), far H.own.m1 (by decide), far H.own.w0 (by decide), far H.own.w1 (by decide), own_setFar (p := ⟨o, i, none⟩) H.own.ops hne u⟩, H.tch.setCell (fun hh => by have h' : o < w0.heap.size := hh; omega) u, H.nb, H.lt, H.le⟩
section
variable {w0 w : World} {r g gB N B : Nat} {f : Nat → Bool} {t : St} {h : Hd} {q : Ha} (H : HG w0 w r g gB N f t B h q) (hN : N ≤ 1125899906842624)
include H hN
set_option maxRecDepth 100000 in
set_option maxHeartbeats 6400000 in
theorem getmarks_key : Calls Tryz.prog 115 #[.pointer (some ⟨r, 0, none⟩), .pointer (some ⟨B, 0, none⟩), .bool true] w fun e w' => e = .returned (.bool true) ∧ HG w0 w' r g gB N f (reK f N ⟨t, h⟩).t B (reK f N ⟨t, h⟩).h q ∧ Touch (fun k => RGS r g k ∨ k = B) w w' := by
 have HC := Lib.hid (dg_b H.rg hN H.le (n := 1) (by decide))
 have HH := Lib.hid H
 show Calls _ _ _ _ (fun e w' => e = .returned (.bool true) ∧ HG w0 w' r g gB N f (bS f N 1 t) B { h with longKey := bV f N 1 t == 1 } q ∧ Touch (fun k => RGS r g k ∨ k = B) w w')
 have hle := bS_le (f := f) 1 H.le
 obtain ⟨t1, ht1⟩ : ∃ x, bS f N 1 t = x := ⟨_, rfl⟩
 obtain ⟨v1, hv1⟩ : ∃ x, bV f N 1 t = x := ⟨_, rfl⟩
 rw [ht1, hv1] at HC
 rw [ht1] at hle
 rw [ht1, hv1]
 have HLE := Lib.hid hle
 clear ht1 hv1 H hle
 go_enter Tryz.func115, Tryz.ntmps115
 go_wp2_with fail
 refine HC.out.mono ?_
 rintro e w1 ⟨rfl, hr, ht⟩
 replace HH := Lib.hid (HH.out.call hr ht HLE.out)
 have HTT : Hid (Touch (fun k => RGS r g k ∨ k = B) w w1) := Lib.hid (ht.mono fun k _ e => .inl e)
 clear hr ht HC
 have cc := HH.out.bk.cell 15
 have ff := HH.out.bk.frozen 15
 have gg := HH.out.bk.lt
 simp [hdV] at cc
 go_wp2_with fail
 go_ret
 exact ⟨rfl, HH.out.put (h' := { h with longKey := v1 == 1 }) (by unfold hdV; simp) rfl, HTT.out.setCell (fun _ => .inr rfl) _⟩
set_option maxRecDepth 100000 in
set_option maxHeartbeats 25600000 in
theorem getmarks_ops (h0 : h.ops = []) (hq0 : q.ops = none) : Calls Tryz.prog 115 #[.pointer (some ⟨r, 0, none⟩), .pointer (some ⟨B, 0, none⟩), .bool false] w fun e w' => e = .returned (.bool (reO f N ⟨t, h⟩).2) ∧ (∃ q', HG w0 w' r g gB N f (reO f N ⟨t, h⟩).1.t B (reO f N ⟨t, h⟩).1.h q') ∧ Touch (fun k => RGS r g k ∨ k = B) w w' := by
 have HC := Lib.hid (dg_u H.rg hN H.le)
 have HH := Lib.hid H
 have hbd := uV_bd (f := f) H.le
 have hle := uS_le (f := f) H.le
 have HM : Hid (reO f N ⟨t, h⟩ = if 16 < uV f N t then (⟨uS f N t, h⟩, false) else (⟨(moG f N (uV f N t).toNat (uS f N t)).2.2, HdO h (moG f N (uV f N t).toNat (uS f N t)).1⟩, (moG f N (uV f N t).toNat (uS f N t)).2.1)) := Lib.hid rfl
 obtain ⟨R, hR⟩ : ∃ R, reO f N ⟨t, h⟩ = R := ⟨_, rfl⟩
 obtain ⟨n, hn⟩ : ∃ n, uV f N t = n := ⟨_, rfl⟩
 obtain ⟨t1, ht1⟩ : ∃ n, uS f N t = n := ⟨_, rfl⟩
 rw [hR, hn, ht1] at HM
 rw [hR]
 rw [hn] at hbd HC
 rw [ht1] at hle HC
 obtain ⟨hbd0, hbd1⟩ := hbd
 have HLE := Lib.hid hle
 have H00 := Lib.hid h0
 have HMt : Hid (MT w w r g B q) := Lib.hid ⟨Touch.refl _ _, fun A e => by rw [hq0] at e; cases e⟩
 clear hR hn ht1 H hle h0 hq0
 by_cases h16 : 16 < n
 ·have hRR := HM.out
  rw [if_pos h16] at hRR
  subst hRR
  clear HM
  go_enter Tryz.func115, Tryz.ntmps115
  go_wp2_with fail
  refine HC.out.mono ?_
  rintro e w1 ⟨rfl, hr, ht⟩
  replace HH := Lib.hid (HH.out.call hr ht HLE.out)
  replace HMt := Lib.hid (HMt.out.call ht)
  clear hr ht HC
  go_wp2_with fail
  go_ret
  exact ⟨rfl, ⟨_, HH.out⟩, HMt.out.1⟩
 ·have hRR := HM.out
  rw [if_neg h16] at hRR
  subst hRR
  clear HM
  have hL := mo_len f N n.toNat t1
  obtain ⟨R, hR⟩ : ∃ R, moG f N n.toNat t1 = R := ⟨_, rfl⟩
  rw [hR] at hL ⊢
  have HR := Lib.hid hR
  clear hR hL
  go_enter Tryz.func115, Tryz.ntmps115
  go_wp2_with fail
  refine HC.out.mono ?_
  rintro e w1 ⟨rfl, hr, ht⟩
  replace HH := Lib.hid (HH.out.call hr ht HLE.out)
  replace HMt := Lib.hid (HMt.out.call ht)
  clear hr ht HC
  go_wp2_with fail
  go_loopw [8] (fun i wr => ∃ (j : Nat) (dn : List Mo) (t' : St) (q' : Ha), i = .int .i64 j ∧ (j : Int) ≤ n ∧ dn.length ≤ j ∧ HG w0 wr r g gB N f t' B (HdO h dn) q' ∧ MT w wr r g B q' ∧ R = (dn ++ (moG f N (n.toNat - j) t').1, (moG f N (n.toNat - j) t').2.1, (moG f N (n.toNat - j) t').2.2)) (fun i _ => 16 - (intOf i).toNat)
  case atStart => exact ⟨0, [], t1, q, rfl, hbd0, Nat.le_refl _, (hdO_self H00.out).symm ▸ HH.out, HMt.out, by rw [← HR.out]; simp⟩
  case round =>
   clear HH HMt
   obtain ⟨j, dn, t', q', rfl, hj, hdl, hP, hmt, hE⟩ := hrel
   have HMt := Lib.hid hmt
   have HP := Lib.hid hP
   have HE := Lib.hid (show moG f N n.toNat t1 = (dn ++ (moG f N (n.toNat - j) t').1, (moG f N (n.toNat - j) t').2.1, (moG f N (n.toNat - j) t').2.2) from HR.out.trans hE)
   have c1 := hP.rg.bad
   have hj0 : (0 : Int) ≤ (j : Int) := Int.natCast_nonneg _
   clear hP hE hmt
   obtain ⟨bd, hbd⟩ : ∃ b, t'.bad = b := ⟨_, rfl⟩
   rw [hbd] at c1
   have HBD := Lib.hid hbd
   clear hbd
   by_cases hlt : (j : Int) < n
   ·cases bd
    ·have hjn : j ≤ 16 := by omega
     have HC := Lib.hid (dg_u HP.out.rg hN HP.out.le)
     go_wp2_with fail
     refine HC.out.mono ?_
     rintro e w2 ⟨rfl, hr, ht⟩
     replace HP := Lib.hid (HP.out.call hr ht (uS_le HP.out.le))
     replace HMt := Lib.hid (HMt.out.call ht)
     clear hr ht HC c1
     obtain ⟨xk, hxk⟩ : ∃ x, uV f N t' = x := ⟨_, rfl⟩
     rw [hxk]
     have HXK := Lib.hid hxk
     clear hxk
     have hnew : Below w2.heap.size w2 (w2.alloc (.cells #[.int .i64 xk, .int .i64 0, .int .i64 0] 118)) := (Below.refl _ _).alloc (Nat.le_refl _) _
     have hKO := Bk.new w2 118 #[.int .i64 xk, .int .i64 0, .int .i64 0]
     have hne : (Value.slice q'.ops dn.length q'.cops).ownBlock ≠ some w2.heap.size := fun e => by have := (HP.out.own.ops.lt _ e).2; omega
     have hwB : w0.heap.size ≤ w2.heap.size := HP.out.tch.size
     have hPz := HP.out.go hnew
     have hmz := HMt.out.go hnew
     have hwo : w.heap.size ≤ w2.heap.size := HMt.out.1.size
     obtain ⟨wz, hwz⟩ : ∃ wz, wz = w2.alloc (.cells #[.int .i64 xk, .int .i64 0, .int .i64 0] 118) := ⟨_, rfl⟩
     rw [← hwz] at hKO hPz hmz
     obtain ⟨o, ho⟩ : ∃ b, w2.heap.size = b := ⟨_, rfl⟩
     rw [ho] at hKO hne hwB hwo
     replace HMt := Lib.hid hmz
     have HWO := Lib.hid hwo
     have HNE := Lib.hid hne
     have HWB := Lib.hid hwB
     have KO := Lib.hid hKO
     have HQ := Lib.hid hPz
     have HRO : Hid (¬ RGS r g o) := Lib.hid (by have h1 := HQ.out.lt; rintro (e | e) <;> omega)
     go_upto_region 11 with fail
     rw [← hwz]
     try rw [ho]
     clear hnew hKO hne hwB hPz hwz ho HP hmz hwo
     obtain ⟨b2, hb2⟩ : ∃ b, inR 1 6 xk = b := ⟨_, rfl⟩
     obtain ⟨d2, hd2⟩ : ∃ b, (uS f N t').bad = b := ⟨_, rfl⟩
     have HI := Lib.hid (fun w => hb2 ▸ in2R_any xk 1 6 w)
     have hmi : moI f N t' = (!d2 && !b2) := by rw [← hd2, ← hb2, ← HXK.out]; rfl
     have HMI := Lib.hid hmi
     have c1 := HQ.out.rg.bad
     rw [hd2] at c1
     have c0 := KO.out.cell 0
     simp at c0
     clear hmi hb2 hd2
     go_cut [46] from 21 to 68 (fun c wx => c = .bool (!d2 && !b2) ∧ wx = wz)
     case first => as_aux_lemma =>
      cases d2
      ·go_wp2_with fail
       refine (HI.out _).mono ?_
       rintro e w' ⟨rfl, rfl⟩
       go_wp2_with fail
       go_meet
       exact ⟨by cases b2 <;> rfl, rfl⟩
      ·go_wp2_with fail
       go_meet
       exact ⟨rfl, rfl⟩
     case rest =>
      obtain ⟨rfl, rfl⟩ := hcut
      clear c1
      obtain ⟨mi, hmi⟩ : ∃ b, (!d2 && !b2) = b := ⟨_, rfl⟩
      rw [hmi] at HMI ⊢
      clear hmi HI
      cases mi
      ·have hA := Lib.hid (fun w => hasA2_any xk w)
       go_wp2_with fail
       refine (hA.out _).mono ?_
       rintro e w' ⟨rfl, rfl⟩
       clear hA
       go_upto_if 49 with fail
       clear c0
       obtain ⟨ma, hma⟩ : ∃ x, moA f N t' = x := ⟨_, rfl⟩
       have hma' : ma = if hasA2 xk = true then (uV f N (uS f N t'), uS f N (uS f N t')) else (0, uS f N t') := by rw [← hma, ← HXK.out]; rfl
       have HMA := Lib.hid hma
       have HMA' := Lib.hid hma'
       clear hma hma'
       go_cut [] from 21 to 68 (fun wx => HG w0 wx r g gB N f ma.2 B (HdO h dn) q' ∧ Bk wx o 118 #[.int .i64 xk, .int .i64 ma.1, .int .i64 0] ∧ MT w wx r g B q')
       case first => as_aux_lemma =>
        obtain ⟨ba, hba⟩ : ∃ b, hasA2 xk = b := ⟨_, rfl⟩
        rw [hba] at HMA' ⊢
        clear hba
        cases ba
        ·have e := HMA'.out
         rw [if_neg (by simp)] at e
         subst e
         go_wp2_with fail
         go_meet
         exact ⟨HQ.out, KO.out, HMt.out⟩
        ·have e := HMA'.out
         rw [if_pos rfl] at e
         subst e
         have HC := Lib.hid (dg_u HQ.out.rg hN HQ.out.le)
         go_wp2_with fail
         refine HC.out.mono ?_
         rintro e w3 ⟨rfl, hr, ht⟩
         replace HQ := Lib.hid (HQ.out.call hr ht (uS_le HQ.out.le)); replace HMt := Lib.hid (HMt.out.call ht)
         replace KO := Lib.hid (KO.out.touch ht HRO.out)
         clear hr ht HC
         have cc := KO.out.cell 1
         have ff := KO.out.frozen 1
         have gg := KO.out.lt
         simp at cc
         go_wp2_with fail
         go_meet
         exact ⟨HQ.out.setO KO.out HWB.out HNE.out 1 _, KO.out.set_ 1 _, HMt.out.cell HWO.out 1 _⟩
       case rest =>
        obtain ⟨hq1, hq2, hq3⟩ := hcut; replace HMt := Lib.hid hq3
        replace HQ := Lib.hid hq1
        replace KO := Lib.hid hq2
        clear hq1 hq2 hq3 HMA'
        obtain ⟨mb, hmb⟩ : ∃ x, moB f N t' = x := ⟨_, rfl⟩
        have hmb' : mb = if hasB xk = true then (uV f N ma.2, uS f N ma.2) else (0, ma.2) := by rw [← hmb, ← HXK.out, ← HMA.out]; rfl
        have HMB := Lib.hid hmb
        have HMB' := Lib.hid hmb'
        obtain ⟨va, hva⟩ : ∃ x, ma.1 = x := ⟨_, rfl⟩
        rw [hva] at KO
        have HVA := Lib.hid hva
        clear hmb hmb' hva
        have c0 := KO.out.cell 0
        simp at c0
        have hB := Lib.hid (fun w => hasB2_any xk w)
        go_wp2_with fail
        refine (hB.out _).mono ?_
        rintro e w' ⟨rfl, rfl⟩
        clear hB
        go_upto_if 55 with fail
        clear c0
        go_cut [] from 21 to 68 (fun wx => HG w0 wx r g gB N f mb.2 B (HdO h dn) q' ∧ Bk wx o 118 #[.int .i64 xk, .int .i64 va, .int .i64 mb.1] ∧ MT w wx r g B q')
        case first => as_aux_lemma =>
         obtain ⟨ba, hba⟩ : ∃ b, hasB xk = b := ⟨_, rfl⟩
         rw [hba] at HMB' ⊢
         clear hba
         cases ba
         ·have e := HMB'.out
          rw [if_neg (by simp)] at e
          subst e
          go_wp2_with fail
          go_meet
          exact ⟨HQ.out, KO.out, HMt.out⟩
         ·have e := HMB'.out
          rw [if_pos rfl] at e
          subst e
          have HC := Lib.hid (dg_u HQ.out.rg hN HQ.out.le)
          go_wp2_with fail
          refine HC.out.mono ?_
          rintro e w3 ⟨rfl, hr, ht⟩
          replace HQ := Lib.hid (HQ.out.call hr ht (uS_le HQ.out.le)); replace HMt := Lib.hid (HMt.out.call ht)
          replace KO := Lib.hid (KO.out.touch ht HRO.out)
          clear hr ht HC
          have cc := KO.out.cell 2
          have ff := KO.out.frozen 2
          have gg := KO.out.lt
          simp at cc
          go_wp2_with fail
          go_meet
          exact ⟨HQ.out.setO KO.out HWB.out HNE.out 2 _, KO.out.set_ 2 _, HMt.out.cell HWO.out 2 _⟩
        case rest =>
         obtain ⟨hq1, hq2, hq3⟩ := hcut; replace HMt := Lib.hid hq3
         replace HQ := Lib.hid hq1
         replace KO := Lib.hid hq2
         clear hq1 hq2 hq3 HMB'
         obtain ⟨vb, hvb⟩ : ∃ x, mb.1 = x := ⟨_, rfl⟩
         rw [hvb] at KO
         have hmx : moX f N t' = ⟨xk, va, vb⟩ := by rw [← HXK.out, ← HVA.out, ← hvb, ← HMA.out, ← HMB.out]; rfl
         have hE' := mo_more HE.out (by omega) HBD.out HMI.out
         rw [hmx, HMB.out] at hE'
         have HEE := Lib.hid hE'
         clear hmx hE' hvb HE HMI HMA HMB HVA HXK HBD
         have k0 := KO.out.cell 0
         have k1 := KO.out.cell 1
         have k2 := KO.out.cell 2
         have hb16 := HQ.out.bk.cell 16
         have ff := HQ.out.bk.frozen 16
         have hBlt := HQ.out.bk.lt
         have hol := KO.out.lt
         have hBo : B ≠ o := Bk.ne_ HQ.out.bk KO.out (by decide)
         have hgo : some o ≠ (Value.slice q'.ops dn.length q'.cops).ownBlock := fun e => HNE.out e.symm
         have hBg : some B ≠ (Value.slice q'.ops dn.length q'.cops).ownBlock := fun e => Bk.ne_own HQ.out.bk HQ.out.own.ops (by decide) e.symm
         simp [hdV, HdO] at k0 k1 k2 hb16
         obtain ⟨i0, hi, hz0, hz1, hz2⟩ := info_parts Mo_info
         have hbs : w0.heap.size ≤ wc.heap.size := HQ.out.tch.size
         go_upto_region 17 with fail
         go_region_law (
           (refine step_append_lies _ (by rfl) _ _ 24 (by rfl) w0.heap.size 118 i0 _ 3 24 Tryz.underlying24 hi hz0 hz1 hz2 rfl (by decide) _ dn.length _ (by rfl) ((HQ.out.own.ops.alloc _).drew) ⟨wc.heap.size, 0, none⟩ 1 1 [.int .i64 xk, .int .i64 va, .int .i64 vb] (by rfl) (by rfl) (World.news_of_block (cs := #[.int .i64 xk, .int .i64 va, .int .i64 vb]) (t := 118) (fr := (0, 0)) (heap_alloc_new wc _)) (oneMo [⟨xk, va, vb⟩]) (by omega) (by unfold maxLen; omega) (by omega) (by simp; omega) (wc.heap.size + 1) (by simp) ?_; intro gk cap w6 hown1 hg1 hat hlt1; have hk6 := (HQ.out.go (((Below.refl _ _).alloc (Nat.le_refl _) (.cells #[.int .i64 xk, .int .i64 va, .int .i64 vb] 118)).drew)).bkG hg1; have c6 := hk6.cell 16; have f6 := hk6.frozen 16; have g6 := hk6.lt; simp [hdV, HdO] at c6))
         all_goals (
          have H9 := Lib.hid (HG.more (h := h) (m := ⟨xk, va, vb⟩) (HQ.out.go (((Below.refl _ _).alloc (Nat.le_refl _) (.cells #[.int .i64 xk, .int .i64 va, .int .i64 vb] 118)).drew)) hown1 hg1)
          have M9 := Lib.hid (MT.more (cap := cap) (u := .slice (some ⟨gk, 0, none⟩) (dn.length + 1) cap) (HMt.out.go (((Below.refl _ _).alloc (Nat.le_refl _) (.cells #[.int .i64 xk, .int .i64 va, .int .i64 vb] 118)).drew)) hg1 hat (by have := HMt.out.1.size; omega))
          clear hown1 hg1 hat hlt1 hk6 c6 f6 g6 k0 k1 k2 hb16 ff hBlt hol hBo hgo hBg hi hz0 hz1 hz2 hbs HQ KO HMt
          go_wp2_with fail
          go_roundw)
         case rel => exact ⟨j + 1, dn ++ [⟨xk, va, vb⟩], mb.2, { q' with ops := some ⟨gk, 0, none⟩, cops := cap }, by go_num, by omega, by rw [List.length_append, List.length_singleton]; omega, H9.out, M9.out, HR.out.symm.trans HEE.out⟩
         case measure => simp [intOf]; omega
         case rel => exact ⟨j + 1, dn ++ [⟨xk, va, vb⟩], mb.2, { q' with ops := some ⟨gk, 0, none⟩, cops := cap }, by go_num, by omega, by rw [List.length_append, List.length_singleton]; omega, H9.out, M9.out, HR.out.symm.trans HEE.out⟩
         case measure => simp [intOf]; omega
         case rel => exact ⟨j + 1, dn ++ [⟨xk, va, vb⟩], mb.2, { q' with ops := some ⟨gk, 0, none⟩, cops := cap }, by go_num, by omega, by rw [List.length_append, List.length_singleton]; omega, H9.out, M9.out, HR.out.symm.trans HEE.out⟩
         case measure => simp [intOf]; omega
      ·have hfin := mo_cut HE.out (by omega) HBD.out HMI.out
       rw [HR.out] at hfin
       subst hfin
       go_wp2_with fail
       go_ret
       exact ⟨rfl, ⟨_, HQ.out⟩, HMt.out.1⟩
    ·have hfin := mo_end HE.out (.inl HBD.out)
     rw [HR.out] at hfin
     subst hfin
     go_wp2_with fail
     go_ret
     exact ⟨rfl, ⟨_, HP.out⟩, HMt.out.1⟩
   ·have hfin := mo_end HE.out (.inr (by omega))
    rw [HR.out] at hfin
    subst hfin
    have hnl : ¬ (j : Int) < n := hlt
    go_wp2_with fail
    go_ret
    exact ⟨rfl, ⟨_, HP.out⟩, HMt.out.1⟩
end
end Go.Proofs.YtjokibagciehlaaGreat

namespace Go.Proofs.YtjokibagciehlaaGreat
open Go.RowKit
set_option linter.unusedVariables false
set_option linter.unusedSimpArgs false

theorem DG.touch {S : Nat → Prop} {w w' : World} {r g gB N : Nat} {f : Nat → Bool} {t : St} (H : DG w r g gB N f t) (ht : Touch S w w') (h1 : ¬ S r) (h2 : ¬ S g) (h3 : ¬ S gB) : DG w' r g gB N f t := by
 obtain ⟨q1, ⟨⟨c, q2⟩, q3, q4, q5⟩, q6⟩ := H
 exact ⟨q1.touch ht h1, ⟨⟨c, q2.touch ht h2⟩, q3, Nat.lt_of_lt_of_le q4 ht.size, fun k hk => (ht.cell (p := ⟨gB, k, none⟩) q4 h3).trans (q5 k hk)⟩, q6⟩
theorem getmarks_any {w0 w : World} {r g gB N B : Nat} {f : Nat → Bool} {t : St} {h : Hd} {q : Ha} (H : HG w0 w r g gB N f t B h q) (hN : N ≤ 1125899906842624) (h0 : h.ops = []) (hq0 : q.ops = none) (key : Bool) : Calls Tryz.prog 115 #[.pointer (some ⟨r, 0, none⟩), .pointer (some ⟨B, 0, none⟩), .bool key] w fun e w' => e = .returned (.bool (reM f N key ⟨t, h⟩).2) ∧ (∃ q', HG w0 w' r g gB N f (reM f N key ⟨t, h⟩).1.t B (reM f N key ⟨t, h⟩).1.h q') ∧ Touch (fun k => RGS r g k ∨ k = B) w w' := by
 cases key
 ·exact getmarks_ops H hN h0 hq0
 ·exact (getmarks_key H hN).mono fun e w' q1 => ⟨q1.1, ⟨q, q1.2.1⟩, q1.2.2⟩
/-- on rest's way: the header that is read lies at B, the parameters at PB, the answer at RB -/
structure HR (w0 w : World) (r g gB N : Nat) (f : Nat → Bool) (d : Dd) (B PB RB : Nat) (p : Pp) (q : Ha) : Prop where
 hg : HG w0 w r g gB N f d.t B d.h q
 kp : Bk w PB 31 (ppV p)
 kr : Bk w RB 26 (hdV Hd.zero Ha.zero)
 hp : w0.heap.size ≤ PB
 hr : w0.heap.size ≤ RB
 ne : B ≠ RB
section
variable {w0 w w' : World} {r g gB N B PB RB : Nat} {f : Nat → Bool} {d : Dd} {p : Pp} {q q' : Ha} {h' : Hd}
theorem HR.call {t' : St} (H : HR w0 w r g gB N f d B PB RB p q) (hr : DG w' r g gB N f t') (ht : Touch (RGS r g) w w') (hl : t'.a ≤ N) : HR w0 w' r g gB N f ⟨t', d.h⟩ B PB RB p q := by
 have h1 := H.hg.lt
 have h2 := H.hp
 have h3 := H.hr
 exact ⟨H.hg.call hr ht hl, H.kp.touch ht (by rintro (e | e) <;> omega), H.kr.touch ht (by rintro (e | e) <;> omega), h2, h3, H.ne⟩
theorem HR.go (H : HR w0 w r g gB N f d B PB RB p q) (hb : Below w.heap.size w w') : HR w0 w' r g gB N f d B PB RB p q := ⟨H.hg.go hb, H.kp.go hb, H.kr.go hb, H.hp, H.hr, H.ne⟩
theorem HR.put (H : HR w0 w r g gB N f d B PB RB p q) {i : Nat} {u : Value} (e : (hdV d.h q).setIfInBounds i u = hdV h' q) (el : h'.ls = d.h.ls) : HR w0 (w.setCell ⟨B, i, none⟩ u) r g gB N f ⟨d.t, h'⟩ B PB RB p q :=
 ⟨H.hg.put e el, H.kp.far (p := ⟨B, i, none⟩) (Bk.ne_ H.kp H.hg.bk (by decide)) u, H.kr.far (p := ⟨B, i, none⟩) H.ne.symm u, H.hp, H.hr, H.ne⟩
theorem HR.lay (H : HR w0 w r g gB N f d B PB RB p q) {i : Nat} {u : Value} (e : (hdV d.h q).setIfInBounds i u = hdV h' q') (own : HOw w w0.heap.size h'.ls q') : HR w0 (w.setCell ⟨B, i, none⟩ u) r g gB N f ⟨d.t, h'⟩ B PB RB p q' :=
 ⟨H.hg.lay e own, H.kp.far (p := ⟨B, i, none⟩) (Bk.ne_ H.kp H.hg.bk (by decide)) u, H.kr.far (p := ⟨B, i, none⟩) H.ne.symm u, H.hp, H.hr, H.ne⟩
theorem HR.list {α : Type} {T : TypeId} {C : Nat} {F : α → Nat → Value} {l : List α} {A : Option Addr} {c : Nat} {t' : St} (H : HR w0 w r g gB N f d B PB RB p q) (P : LPost w w' r g gB N f t' T C F l A c) : HR w0 w' r g gB N f ⟨t', d.h⟩ B PB RB p q ∧ w'.ownsRow w0.heap.size T C (.slice A l.length c) l.length (cellsL C F l) :=
 ⟨H.call P.rg P.tch P.le, own_less P.own H.hg.tch.size⟩
theorem HR.marks {d' : Dd} (H : HR w0 w r g gB N f d B PB RB p q) (h : HG w0 w' r g gB N f d'.t B d'.h q') (ht : Touch (fun k => RGS r g k ∨ k = B) w w') : HR w0 w' r g gB N f d' B PB RB p q' := by
 have h1 := H.hg.lt
 have h2 := H.hp
 have h3 := H.hr
 exact ⟨h, H.kp.touch ht (by rintro ((e | e) | e) <;> first | omega | exact Bk.ne_ H.kp H.hg.bk (by decide) e), H.kr.touch ht (by rintro ((e | e) | e) <;> first | omega | exact H.ne e.symm), H.hp, H.hr, H.ne⟩
theorem HR.layI {A : Option Addr} {c : Nat} (H : HR w0 w r g gB N f ⟨(wtG f N d.h.a0.toNat d.t).2, d.h⟩ B PB RB p q) (ho : w.ownsRow w0.heap.size 116 6 (.slice A (wtG f N d.h.a0.toNat d.t).1.length c) (wtG f N d.h.a0.toNat d.t).1.length (cellsL 6 wtF (wtG f N d.h.a0.toNat d.t).1)) :
  HR w0 (w.setCell ⟨B, 13, none⟩ (.slice A (wtG f N d.h.a0.toNat d.t).1.length c)) r g gB N f (reI f N d) B PB RB p { q with w0 := A, cw0 := c } := by
 unfold reI
 obtain ⟨x, hx⟩ : ∃ x, wtG f N d.h.a0.toNat d.t = x := ⟨_, rfl⟩
 rw [hx] at H ho ⊢
 exact H.lay (h' := { d.h with w0 := x.1 }) (q' := { q with w0 := A, cw0 := c }) (by unfold hdV; simp) ⟨H.hg.own.m0, H.hg.own.m1, ho, H.hg.own.w1, H.hg.own.ops⟩
theorem HR.layJ {A : Option Addr} {c : Nat} (H : HR w0 w r g gB N f ⟨(wtG f N d.h.a1.toNat d.t).2, d.h⟩ B PB RB p q) (ho : w.ownsRow w0.heap.size 116 6 (.slice A (wtG f N d.h.a1.toNat d.t).1.length c) (wtG f N d.h.a1.toNat d.t).1.length (cellsL 6 wtF (wtG f N d.h.a1.toNat d.t).1)) :
  HR w0 (w.setCell ⟨B, 14, none⟩ (.slice A (wtG f N d.h.a1.toNat d.t).1.length c)) r g gB N f (reJ f N d) B PB RB p { q with w1 := A, cw1 := c } := by
 unfold reJ
 obtain ⟨x, hx⟩ : ∃ x, wtG f N d.h.a1.toNat d.t = x := ⟨_, rfl⟩
 rw [hx] at H ho ⊢
 exact H.lay (h' := { d.h with w1 := x.1 }) (q' := { q with w1 := A, cw1 := c }) (by unfold hdV; simp) ⟨H.hg.own.m0, H.hg.own.m1, H.hg.own.w0, ho, H.hg.own.ops⟩
/-- what rest answers -/
def RPo (w w' : World) (r g gB N : Nat) (f : Nat → Bool) (R : Hd × Int × St) (e : Ending) : Prop := ∃ q, e = .returned (.tuple #[.agg (hdV R.1 q), .int .i64 R.2.1]) ∧ DG w' r g gB N f R.2.2 ∧ HOw w' w.heap.size R.1.ls q ∧ Touch (RGS r g) w w' ∧ R.2.2.a ≤ N
theorem HR.end_ (H : HR w0 w r g gB N f d B PB RB p q) (E : Int) : RPo w0 (w.setRow RB (hdV d.h q)) r g gB N f (d.h, E, d.t) (.returned (.tuple #[.agg (hdV d.h q), .int .i64 E])) := by
 have h1 := H.hg.lt
 have h3 := H.hr
 have ht : Touch (fun k => k = RB) w (w.setRow RB (hdV d.h q)) := touch_setRow (Touch.refl _ w) _ _ (fun _ => rfl)
 refine ⟨q, rfl, H.hg.rg.touch ht (by omega) (by omega) (by omega), H.hg.own.touch ht (fun k hk => ?_), touch_setRow H.hg.tch _ _ (fun h => by omega), H.hg.le⟩
 have e : k = RB := hk
 subst e
 exact ⟨_, _, H.kr, by decide, by decide, by decide⟩
theorem RPo.done {R R' : Hd × Int × St} {e : Ending} (H : RPo w w' r g gB N f R e) (h : R = R') : RPo w w' r g gB N f R' e := h ▸ H
end
section
variable {f : Nat → Bool} {N : Nat} {p : Pp} {ref : Int} {key : Bool} {d : Dd} {e : Dd × Bool}
theorem reA_ty : (reA f N d).h.type = d.h.type := by unfold reA; split <;> rfl
theorem reB_ty : (reB f N d).h.type = d.h.type := by unfold reB; split <;> rfl
theorem reC_ty : (reC f N d).h.type = d.h.type := by unfold reC; split <;> rfl
theorem reE_ty : (reE f N d).1.h.type = d.h.type := by unfold reE; split <;> rfl
theorem reF_ty : (reF f N e).1.h.type = e.1.h.type := by unfold reF; split <;> rfl
theorem reW_ty : (reW f N p e).1.h.type = e.1.h.type := by unfold reW; split <;> rfl
theorem reE_bad (h : d.t.bad = true) : (reE f N d).1.t.bad = true := by
 unfold reE
 split
 ·show (mdsG f N d.t).2.2.bad = true
  rw [mds_bad f N h]; exact h
 ·exact h
theorem reF_bad (h : e.1.t.bad = true) : (reF f N e).1.t.bad = true := by
 unfold reF
 split
 ·show (mdsG f N e.1.t).2.2.bad = true
  rw [mds_bad f N h]; exact h
 ·exact h
theorem reE_as : (reE f N d).1.h.a0 = d.h.a0 ∧ (reE f N d).1.h.a1 = d.h.a1 := by unfold reE; split <;> exact ⟨rfl, rfl⟩
theorem reF_as : (reF f N e).1.h.a0 = e.1.h.a0 ∧ (reF f N e).1.h.a1 = e.1.h.a1 := by unfold reF; split <;> exact ⟨rfl, rfl⟩
/-- where weights are read, both counts are at most eight -/
theorem as_le (hx : reX d = false) (hb : (reF f N (reE f N d)).1.t.bad = false) : (reF f N (reE f N d)).1.h.a0 ≤ 8 ∧ (reF f N (reE f N d)).1.h.a1 ≤ 8 := by
 have hd : d.t.bad = false := by
  cases h : d.t.bad
  ·rfl
  ·rw [reF_bad (reE_bad h)] at hb; cases hb
 rw [reF_as.1, reF_as.2, reE_as.1, reE_as.2]
 unfold reX at hx
 rw [hd] at hx
 simp at hx
 omega
theorem reA_ls : (reA f N d).h.ls = d.h.ls := by unfold reA; split <;> rfl
theorem reB_ls : (reB f N d).h.ls = d.h.ls := by unfold reB; split <;> rfl
theorem reC_ls : (reC f N d).h.ls = d.h.ls := by unfold reC; split <;> rfl
theorem reE_ops : (reE f N d).1.h.ops = d.h.ops := by unfold reE; split <;> rfl
theorem reF_ops : (reF f N e).1.h.ops = e.1.h.ops := by unfold reF; split <;> rfl
theorem reW_ops : (reW f N p e).1.h.ops = e.1.h.ops := by unfold reW; split <;> rfl
end
end Go.Proofs.YtjokibagciehlaaGreat

namespace Go.Proofs.YtjokibagciehlaaGreat
open Go.RowKit
set_option linter.unusedVariables false
set_option linter.unusedSimpArgs false

theorem rest_results (a : Act) (w : World) (B : Nat) (t : TypeId) (cs : Array Value) (E : Int) (h10 : a.tmps.getD 10 undef = .pointer (some ⟨B, 0, none⟩)) (h11 : a.tmps.getD 11 undef = .int .i64 E) (hg : Bk w B t cs) (hs : cs.size = 21) :
  (results Tryz.f92 a.tmps).run Tryz.prog w = .ok (.tuple #[.agg cs, .int .i64 E]) w := by
 have h10' : a.tmps[10]?.getD undef = .pointer (some ⟨B, 0, none⟩) := by simpa using h10
 have h11' : a.tmps[11]?.getD undef = .int .i64 E := by simpa using h11
 have hl := run_loadVar_row (P := Tryz.prog) w B t 26 cs (0, 0) _ hg Tryz.underlying26 rfl (by rw [hs]; kernel_rfl)
 simp [results, Tryz.results92, h10', h11', asAddr, hl, Sem.run_bind]
section
variable {w : World} {r g gB N : Nat} {f : Nat → Bool} {t : St} (H : DG w r g gB N f t) (hN : N ≤ 1125899906842624) (ha : t.a ≤ N) (h : Hd) (hl : h.m0 = [] ∧ h.m1 = [] ∧ h.w0 = [] ∧ h.w1 = [] ∧ h.ops = []) (p : Pp) (ref : Int) (key : Bool)
include H hN ha hl
set_option maxRecDepth 100000 in
set_option maxHeartbeats 25600000 in
theorem rest_any : Calls Tryz.prog 92 #[.pointer (some ⟨r, 0, none⟩), .agg (hdV h Ha.zero), .agg (ppV p), .int .i64 ref, .bool key] w fun e w' => RPo w w' r g gB N f (rest f N p ref key ⟨t, h⟩) e := by
 have hw3 : HR w (((w.alloc (.cells (hdV h Ha.zero) 26)).alloc (.cells (ppV p) 31)).alloc (.cells (hdV Hd.zero Ha.zero) 26)) r g gB N f ⟨t, h⟩ w.heap.size (w.heap.size + 1) (w.heap.size + 1 + 1) p Ha.zero := by
  have lts := H.lts
  have b1 : Below w.heap.size w (w.alloc (.cells (hdV h Ha.zero) 26)) := (Below.refl _ _).alloc (Nat.le_refl _) _
  have hg1 : HG w (w.alloc (.cells (hdV h Ha.zero) 26)) r g gB N f t w.heap.size h Ha.zero := by
   refine HG.of (H.go b1) (Bk.new w _ _) ?_ (Touch.of_new b1) (Nat.le_refl _) lts ha
   obtain ⟨z0, z1, z2, z3, z4⟩ := hl
   exact ⟨(by show World.ownsRow _ _ _ _ (.slice none h.m0.length 0) h.m0.length (cellsL 2 mdF h.m0); rw [z0]; exact World.ownsRow_nil _ _ _ _), (by show World.ownsRow _ _ _ _ (.slice none h.m1.length 0) h.m1.length (cellsL 2 mdF h.m1); rw [z1]; exact World.ownsRow_nil _ _ _ _), (by show World.ownsRow _ _ _ _ (.slice none h.w0.length 0) h.w0.length (cellsL 6 wtF h.w0); rw [z2]; exact World.ownsRow_nil _ _ _ _), (by show World.ownsRow _ _ _ _ (.slice none h.w1.length 0) h.w1.length (cellsL 6 wtF h.w1); rw [z3]; exact World.ownsRow_nil _ _ _ _), (by show World.ownsRow _ _ _ _ (.slice none h.ops.length 0) h.ops.length (cellsL 3 moF h.ops); rw [z4]; exact World.ownsRow_nil _ _ _ _)⟩
  have e1 : (w.alloc (.cells (hdV h Ha.zero) 26)).heap.size = w.heap.size + 1 := by simp
  have e2 : ((w.alloc (.cells (hdV h Ha.zero) 26)).alloc (.cells (ppV p) 31)).heap.size = w.heap.size + 1 + 1 := by simp
  have k2 := Bk.new (w.alloc (.cells (hdV h Ha.zero) 26)) 31 (ppV p)
  have k3 := Bk.new ((w.alloc (.cells (hdV h Ha.zero) 26)).alloc (.cells (ppV p) 31)) 26 (hdV Hd.zero Ha.zero)
  rw [e1] at k2
  rw [e2] at k3
  exact ⟨(hg1.go ((Below.refl _ _).alloc (Nat.le_refl _) _)).go ((Below.refl _ _).alloc (Nat.le_refl _) _), k2.go ((Below.refl _ _).alloc (Nat.le_refl _) _), k3, by omega, by omega, by omega⟩
 have HOP := Lib.hid hl.2.2.2.2
 clear H ha hl
 obtain ⟨d0, hd0⟩ : ∃ d, (⟨t, h⟩ : Dd) = d := ⟨_, rfl⟩
 obtain ⟨R, hR⟩ : ∃ R, rest f N p ref key d0 = R := ⟨_, rfl⟩
 have HRR := Lib.hid hR
 rw [hd0] at hw3
 rw [hd0, hR]
 obtain ⟨T, hT⟩ : ∃ T, h.type = T := ⟨_, rfl⟩
 have HT : Hid (d0.h.type = T) := Lib.hid (by rw [← hd0]; exact hT)
 replace HOP : Hid (d0.h.ops = []) := Lib.hid (by rw [← hd0]; exact HOP.out)
 simp only [hdV, ppV]
 clear hd0 hT hR
 go_enter Tryz.func92, Tryz.ntmps92
 go_upto_region 1 with fail
 refine (fun (k : ∀ w3, HR w w3 r g gB N f d0 w.heap.size (w.heap.size + 1) (w.heap.size + 1 + 1) p Ha.zero → Code.wp _ _ _ _ w3) => k _ hw3) ?_
 clear hw3
 intro w3 hw3
 have HX := Lib.hid hw3
 have h2 : w3.cell? ⟨w.heap.size, 2, none⟩ = some (.int .i64 T) := by
  have := HX.out.hg.bk.cell 2
  simp [hdV] at this
  rw [← HT.out]
  exact this
 have kl := HX.out.hg.bk.lt
 obtain ⟨B, hB⟩ : ∃ B, w.heap.size = B := ⟨_, rfl⟩
 obtain ⟨PB, hPB⟩ : ∃ B, w.heap.size + 1 = B := ⟨_, rfl⟩
 obtain ⟨RB, hRB⟩ : ∃ B, w.heap.size + 1 + 1 = B := ⟨_, rfl⟩
 rw [hRB, hPB, hB] at HX ⊢
 rw [hB] at h2 kl
 clear hB hPB hRB hw3
 go_cut [12, 13] (fun b c wx => b = .bool (T != 2) ∧ c = .bool (T == 1) ∧ HR w wx r g gB N f d0 B PB RB p Ha.zero)
 case first => as_aux_lemma =>
  go_quiet (fail)
  go_wp2_with fail
  go_meet
  exact ⟨by simp, by simp, HX.out.go (((Touch.refl (fun _ => False) w3).drewN _).below (fun _ h => h.elim) (Nat.le_refl _))⟩
 case rest => as_aux_lemma =>
  obtain ⟨rfl, rfl, hq⟩ := hcut
  replace HX := Lib.hid hq
  obtain ⟨n2, hn2⟩ : ∃ b, (T != 2) = b := ⟨_, rfl⟩
  obtain ⟨i1, hi1⟩ : ∃ b, (T == 1) = b := ⟨_, rfl⟩
  rw [hn2, hi1]
  have HN2 : Hid (n2 = true ↔ T ≠ 2) := Lib.hid (by rw [← hn2]; simp)
  have HI1 : Hid (i1 = true ↔ T = 1) := Lib.hid (by rw [← hi1]; simp)
  clear h2 kl hn2 hi1 hq
  go_upto_if 25 with fail
  obtain ⟨d1, hd1⟩ : ∃ d, reA f N d0 = d := ⟨_, rfl⟩
  have HD1 := Lib.hid hd1
  have HT1 : Hid (d1.h.type = T) := Lib.hid (by rw [← hd1, reA_ty]; exact HT.out)
  clear hd1
  go_cut [] (fun wx => HR w wx r g gB N f d1 B PB RB p Ha.zero)
  case first => as_aux_lemma =>
   have e := HD1.out
   unfold reA at e
   cases i1
   ·rw [if_neg (by rw [HT.out]; exact fun h => by have := HI1.out.2 h; cases this)] at e
    subst e
    go_wp2_with fail
    go_meet
    exact HX.out
   ·rw [if_pos (by rw [HT.out]; exact HI1.out.1 rfl)] at e
    subst e
    have HC := Lib.hid (dg_b HX.out.hg.rg hN HX.out.hg.le (n := 1) (by decide))
    go_wp2_with fail
    refine HC.out.mono ?_
    rintro e wc ⟨rfl, hr, ht⟩
    replace HX := Lib.hid (HX.out.call hr ht (bS_le 1 HX.out.hg.le))
    clear hr ht HC
    have cc := HX.out.hg.bk.cell 6
    have ff := HX.out.hg.bk.frozen 6
    have gg := HX.out.hg.bk.lt
    simp [hdV] at cc
    go_wp2_with fail
    go_meet
    exact HX.out.put (h' := { d0.h with spatial := bV f N 1 d0.t == 1 }) (by unfold hdV; simp) rfl
  case rest => as_aux_lemma =>
   replace HX := Lib.hid hcut
   clear hcut
   go_upto_if 30 with fail
   obtain ⟨d2, hd2⟩ : ∃ d, reB f N d1 = d := ⟨_, rfl⟩
   have HD2 := Lib.hid hd2
   have HT2 : Hid (d2.h.type = T) := Lib.hid (by rw [← hd2, reB_ty]; exact HT1.out)
   clear hd2
   go_cut [] (fun wx => HR w wx r g gB N f d2 B PB RB p Ha.zero)
   case first => as_aux_lemma =>
    have e := HD2.out
    unfold reB at e
    cases n2
    ·rw [if_neg (by rw [HT1.out]; exact fun h => by have := HN2.out.2 h; cases this)] at e
     subst e
     go_wp2_with fail
     go_meet
     exact HX.out
    ·rw [if_pos (by rw [HT1.out]; exact HN2.out.1 rfl)] at e
     subst e
     have hbx := uV_bd (f := f) HX.out.hg.le
     have HC := Lib.hid (dg_u HX.out.hg.rg hN HX.out.hg.le)
     go_wp2_with fail
     refine HC.out.mono ?_
     rintro e wc ⟨rfl, hr, ht⟩
     replace HX := Lib.hid (HX.out.call hr ht (uS_le HX.out.hg.le))
     clear hr ht HC
     obtain ⟨x, hx⟩ : ∃ x, uV f N d1.t = x := ⟨_, rfl⟩
     rw [hx] at hbx ⊢
     obtain ⟨hb0, hb1⟩ := hbx
     have cc := HX.out.hg.bk.cell 7
     have ff := HX.out.hg.bk.frozen 7
     have gg := HX.out.hg.bk.lt
     simp [hdV] at cc
     go_wp2_with fail
     go_meet
     subst hx
     exact HX.out.put (h' := { d1.h with a0 := uV f N d1.t + 1 }) (by unfold hdV; simp) rfl
   case rest => as_aux_lemma =>
    replace HX := Lib.hid hcut
    clear hcut
    go_upto_if 35 with fail
    obtain ⟨d3, hd3⟩ : ∃ d, reC f N d2 = d := ⟨_, rfl⟩
    have HD3 := Lib.hid hd3
    have HT3 : Hid (d3.h.type = T) := Lib.hid (by rw [← hd3, reC_ty]; exact HT2.out)
    clear hd3
    go_cut [] (fun wx => HR w wx r g gB N f d3 B PB RB p Ha.zero)
    case first => as_aux_lemma =>
     have e := HD3.out
     unfold reC at e
     cases i1
     ·rw [if_neg (by rw [HT2.out]; exact fun h => by have := HI1.out.2 h; cases this)] at e
      subst e
      go_wp2_with fail
      go_meet
      exact HX.out
     ·rw [if_pos (by rw [HT2.out]; exact HI1.out.1 rfl)] at e
      subst e
      have hbx := uV_bd (f := f) HX.out.hg.le
      have HC := Lib.hid (dg_u HX.out.hg.rg hN HX.out.hg.le)
      go_wp2_with fail
      refine HC.out.mono ?_
      rintro e wc ⟨rfl, hr, ht⟩
      replace HX := Lib.hid (HX.out.call hr ht (uS_le HX.out.hg.le))
      clear hr ht HC
      obtain ⟨x, hx⟩ : ∃ x, uV f N d2.t = x := ⟨_, rfl⟩
      rw [hx] at hbx ⊢
      obtain ⟨hb0, hb1⟩ := hbx
      have cc := HX.out.hg.bk.cell 8
      have ff := HX.out.hg.bk.frozen 8
      have gg := HX.out.hg.bk.lt
      simp [hdV] at cc
      go_wp2_with fail
      go_meet
      subst hx
      exact HX.out.put (h' := { d2.h with a1 := uV f N d2.t + 1 }) (by unfold hdV; simp) rfl
    case rest => as_aux_lemma =>
     replace HX := Lib.hid hcut
     clear hcut
     have HRX : Hid (R = if reX d3 = true then (d3.h, 401, d3.t) else rest2 f N p ref key d3) := Lib.hid (by rw [← HRR.out, ← HD3.out, ← HD2.out, ← HD1.out]; rfl)
     replace HOP : Hid (d3.h.ops = []) := Lib.hid (by rw [← HD3.out, ← HD2.out, ← HD1.out]; exact (congrArg (·.ops) (reC_ls.trans (reB_ls.trans reA_ls))).trans HOP.out)
     clear HRR HD1 HD2 HD3
     have c1 := HX.out.hg.rg.bad
     have c7 := HX.out.hg.bk.cell 7
     have c8 := HX.out.hg.bk.cell 8
     simp [hdV] at c7 c8
     obtain ⟨bd, hbd⟩ : ∃ b, d3.t.bad = b := ⟨_, rfl⟩
     obtain ⟨a0, ha0⟩ : ∃ x, d3.h.a0 = x := ⟨_, rfl⟩
     obtain ⟨a1, ha1⟩ : ∃ x, d3.h.a1 = x := ⟨_, rfl⟩
     have hXX : reX d3 = (!bd && (decide (8 < a0) || decide (8 < a1))) := by rw [← hbd, ← ha0, ← ha1]; rfl
     rw [hbd] at c1
     rw [ha0] at c7
     rw [ha1] at c8
     have HXX := Lib.hid hXX
     clear hXX hbd ha0 ha1
     go_upto_region 8 with fail
     go_cut [54] (fun c wx => c = .bool (!bd && (decide (8 < a0) || decide (8 < a1))) ∧ wx = wc)
     case first => as_aux_lemma =>
      cases bd
      ·by_cases h8 : 8 < a0
       ·go_wp2_with fail
        go_meet
        exact ⟨by rw [decide_eq_true h8]; rfl, rfl⟩
       ·go_wp2_with fail
        go_meet
        exact ⟨by rw [decide_eq_false (show ¬ 8 < a0 by omega)]; rfl, rfl⟩
      ·go_wp2_with fail
       go_meet
       exact ⟨rfl, rfl⟩
     case rest => as_aux_lemma =>
      obtain ⟨rfl, rfl⟩ := hcut
      rw [← HXX.out]
      clear c1 c7 c8 HXX
      obtain ⟨rx, hrx⟩ : ∃ b, reX d3 = b := ⟨_, rfl⟩
      rw [hrx] at HRX ⊢
      have HXF := Lib.hid hrx
      clear hrx
      cases rx
      rotate_left
      ·have e := HRX.out
       rw [if_pos rfl] at e
       subst e
       go_upto_region 9 with fail
       refine wp_region_lit ?_
       refine wpl_val rfl (run_load_row (ty := 26) (x := .tmp 6) rfl rfl (load_head HX.out.hg.bk)) ?_
       simp only [Act.put, List.setIfInBounds_toArray, List.set_cons_zero, List.set_cons_succ]
       refine wpList_store_row rfl _ _ _ rfl RB (hdV d3.h Ha.zero) rfl rfl _ _ HX.out.kr (by kernel_rfl) rfl (hd_one _ _) ?_
       go_wp2_with fail
       exact bodyPost_ret (rest_results _ _ RB 26 (hdV d3.h Ha.zero) 401 rfl rfl (bk_setRow HX.out.kr) rfl) rfl (HX.out.end_ 401)
      have e := HRX.out
      rw [if_neg (by simp)] at e
      replace HRX := Lib.hid e
      clear e
      go_upto_if 56 with fail
      obtain ⟨e4, he4⟩ : ∃ e, reE f N d3 = e := ⟨_, rfl⟩
      have HE4 := Lib.hid he4
      have HT4 : Hid (e4.1.h.type = T) := Lib.hid (by rw [← he4, reE_ty]; exact HT3.out)
      clear he4
      go_cut [14] (fun c wx => ∃ q, q.ops = none ∧ c = .bool e4.2 ∧ HR w wx r g gB N f e4.1 B PB RB p q)
      case first => as_aux_lemma =>
       have e := HE4.out
       unfold reE at e
       cases n2
       ·rw [if_neg (by rw [HT3.out]; exact fun h => by have := HN2.out.2 h; cases this)] at e
        subst e
        go_wp2_with fail
        go_meet
        exact ⟨Ha.zero, rfl, rfl, HX.out⟩
       ·rw [if_pos (by rw [HT3.out]; exact HN2.out.1 rfl)] at e
        subst e
        have HC := Lib.hid (getmods_any HX.out.hg.rg hN HX.out.hg.le)
        go_wp2_with fail
        refine HC.out.mono ?_
        rintro e wc ⟨A, cA, rfl, hP⟩
        obtain ⟨hX, hO⟩ := HX.out.list hP
        replace HX := Lib.hid hX
        have HO := Lib.hid hO
        clear hX hO hP HC
        have cc := HX.out.hg.bk.cell 9
        have ff := HX.out.hg.bk.frozen 9
        have gg := HX.out.hg.bk.lt
        simp [hdV] at cc
        go_wp2_with fail
        go_meet
        exact ⟨{ Ha.zero with m0 := A, cm0 := cA }, rfl, rfl, HX.out.lay (h' := { d3.h with m0 := (mdsG f N d3.t).1 }) (by unfold hdV; simp) ⟨HO.out, HX.out.hg.own.m1, HX.out.hg.own.w0, HX.out.hg.own.w1, HX.out.hg.own.ops⟩⟩
      case rest => as_aux_lemma =>
       obtain ⟨q4, hqo, rfl, hq⟩ := hcut
       replace HX := Lib.hid hq
       have HQ := Lib.hid hqo
       clear hq hqo
       replace HRX : Hid (R = out f N (reH f N ref key (reW f N p (reF f N e4))) p) := Lib.hid (by rw [← HE4.out]; exact HRX.out)
       have HAS : Hid ((reF f N e4).1.t.bad = false → (reF f N e4).1.h.a0 ≤ 8 ∧ (reF f N e4).1.h.a1 ≤ 8) := Lib.hid (by rw [← HE4.out]; exact fun h => as_le HXF.out h)
       replace HOP : Hid (e4.1.h.ops = []) := Lib.hid (by rw [← HE4.out, reE_ops]; exact HOP.out)
       clear HE4 HXF
       obtain ⟨k4, hk4⟩ : ∃ b, e4.2 = b := ⟨_, rfl⟩
       rw [hk4]
       have HK4 := Lib.hid hk4
       clear hk4
       go_upto_region 15 with fail
       go_cut [68] (fun c wx => c = .bool (i1 && k4) ∧ wx = wc)
       case first => as_aux_lemma =>
        cases i1
        ·go_wp2_with fail
         go_meet
         exact ⟨rfl, rfl⟩
        ·go_wp2_with fail
         go_meet
         exact ⟨rfl, rfl⟩
       case rest => as_aux_lemma =>
        obtain ⟨rfl, rfl⟩ := hcut
        obtain ⟨b5, hb5⟩ : ∃ b, (i1 && k4) = b := ⟨_, rfl⟩
        rw [hb5]
        have HB5 : Hid (b5 = true ↔ (e4.1.h.type = 1 ∧ e4.2 = true)) := Lib.hid (by rw [← hb5, HT4.out, HK4.out, ← HI1.out]; simp)
        have HK5 : Hid (b5 = false → e4.2 = k4) := Lib.hid (fun _ => HK4.out)
        clear hb5 HK4
        go_upto_if 68 with fail
        obtain ⟨e5, he5⟩ : ∃ e, reF f N e4 = e := ⟨_, rfl⟩
        have HE5 := Lib.hid he5
        have HT5 : Hid (e5.1.h.type = T) := Lib.hid (by rw [← he5, reF_ty]; exact HT4.out)
        clear he5
        go_cut [14] (fun c wx => ∃ q, q.ops = none ∧ c = .bool e5.2 ∧ HR w wx r g gB N f e5.1 B PB RB p q)
        case first => as_aux_lemma =>
         have e := HE5.out
         unfold reF at e
         cases b5
         ·rw [if_neg (fun h => by have := HB5.out.2 h; cases this)] at e
          subst e
          go_wp2_with fail
          go_meet
          exact ⟨q4, HQ.out, congrArg Value.bool (by first | exact (HK5.out rfl).symm | exact (HK5.out trivial).symm), HX.out⟩
         ·rw [if_pos (HB5.out.1 rfl)] at e
          subst e
          have HC := Lib.hid (getmods_any HX.out.hg.rg hN HX.out.hg.le)
          go_wp2_with fail
          refine HC.out.mono ?_
          rintro e wc ⟨A, cA, rfl, hP⟩
          obtain ⟨hX, hO⟩ := HX.out.list hP
          replace HX := Lib.hid hX
          have HO := Lib.hid hO
          clear hX hO hP HC
          have cc := HX.out.hg.bk.cell 10
          have ff := HX.out.hg.bk.frozen 10
          have gg := HX.out.hg.bk.lt
          simp [hdV] at cc
          go_wp2_with fail
          go_meet
          exact ⟨{ q4 with m1 := A, cm1 := cA }, HQ.out, rfl, HX.out.lay (h' := { e4.1.h with m1 := (mdsG f N e4.1.t).1 }) (by unfold hdV; simp) ⟨HX.out.hg.own.m0, HO.out, HX.out.hg.own.w0, HX.out.hg.own.w1, HX.out.hg.own.ops⟩⟩
        case rest => as_aux_lemma =>
         obtain ⟨q5, hqo, rfl, hq⟩ := hcut
         replace HX := Lib.hid hq
         replace HQ := Lib.hid hqo
         clear hq hqo
         replace HRX : Hid (R = out f N (reH f N ref key (reW f N p e5)) p) := Lib.hid (by rw [← HE5.out]; exact HRX.out)
         replace HAS : Hid (e5.1.t.bad = false → e5.1.h.a0 ≤ 8 ∧ e5.1.h.a1 ≤ 8) := Lib.hid (by rw [← HE5.out]; exact HAS.out)
         replace HOP : Hid (e5.1.h.ops = []) := Lib.hid (by rw [← HE5.out, reF_ops]; exact HOP.out)
         clear HE5 HB5 HK5
         obtain ⟨k5, hk5⟩ : ∃ b, e5.2 = b := ⟨_, rfl⟩
         obtain ⟨bd, hbd⟩ : ∃ b, e5.1.t.bad = b := ⟨_, rfl⟩
         obtain ⟨wg, hwg⟩ : ∃ b, wgt T p = b := ⟨_, rfl⟩
         have HWG := Lib.hid (fun w => hwg ▸ wgt2_any T p w)
         have c1 := HX.out.hg.rg.bad
         rw [hbd] at c1
         have c2 := HX.out.hg.bk.cell 2
         simp [hdV] at c2
         rw [HT5.out] at c2
         have HCW : Hid ((e5.2 && !e5.1.t.bad && wgt e5.1.h.type p) = (k5 && !bd && wg)) := Lib.hid (by rw [hk5, hbd, HT5.out, hwg])
         rw [hk5]
         have HK5 := Lib.hid hk5
         clear hk5 hbd hwg
         go_upto_region 19 with fail
         unfold ppV at HWG
         go_cut [90] (fun c wx => c = .bool (k5 && !bd && wg) ∧ HR w wx r g gB N f e5.1 B PB RB p q5)
         case first => as_aux_lemma =>
          cases k5
          ·go_wp2_with fail
           go_meet
           exact ⟨rfl, HX.out⟩
          ·cases bd
           ·have g0 := HX.out.kp.cell 0
            have g1 := HX.out.kp.cell 1
            have g2 := HX.out.kp.cell 2
            have g3 := HX.out.kp.cell 3
            have g4 := HX.out.kp.cell 4
            have g5 := HX.out.kp.cell 5
            have g6 := HX.out.kp.cell 6
            have g7 := HX.out.kp.cell 7
            have g8 := HX.out.kp.cell 8
            simp [ppV] at g0 g1 g2 g3 g4 g5 g6 g7 g8
            go_wp2_with fail
            refine (HWG.out _).mono ?_
            rintro e wx ⟨rfl, hb⟩
            replace HX := Lib.hid (HX.out.go hb)
            clear hb
            go_wp2_with fail
            go_meet
            exact ⟨by cases wg <;> rfl, HX.out⟩
           ·go_wp2_with fail
            go_meet
            exact ⟨rfl, HX.out⟩
         case rest => as_aux_lemma =>
          obtain ⟨rfl, hq⟩ := hcut
          replace HX := Lib.hid hq
          obtain ⟨b6, hb6⟩ : ∃ b, (k5 && !bd && wg) = b := ⟨_, rfl⟩
          rw [hb6] at HCW ⊢
          clear hq hb6 c1 c2 HWG
          go_upto_if 90 with fail
          obtain ⟨e6, he6⟩ : ∃ e, reW f N p e5 = e := ⟨_, rfl⟩
          have HE6 := Lib.hid he6
          have HT6 : Hid (e6.1.h.type = T) := Lib.hid (by rw [← he6, reW_ty]; exact HT5.out)
          clear he6
          go_cut [] (fun wx => ∃ q, q.ops = none ∧ HR w wx r g gB N f e6.1 B PB RB p q)
          case first => as_aux_lemma =>
           have e := HE6.out
           unfold reW at e
           rw [HCW.out] at e
           cases b6
           ·rw [if_neg (by simp)] at e
            subst e
            go_wp2_with fail
            go_meet
            exact ⟨q5, HQ.out, HX.out⟩
           ·rw [if_pos rfl] at e
            have HE := Lib.hid e
            clear e HE6
            have hbf : e5.1.t.bad = false := by have := HCW.out; simp at this; exact this.1.2
            obtain ⟨h80, h81⟩ := HAS.out hbf
            have H80 := Lib.hid h80
            have H81 := Lib.hid h81
            clear hbf h80 h81
            have HC := Lib.hid (dg_u HX.out.hg.rg hN HX.out.hg.le)
            go_wp2_with fail
            refine HC.out.mono ?_
            rintro e wc ⟨rfl, hr, ht⟩
            replace HX := Lib.hid (HX.out.call hr ht (uS_le HX.out.hg.le))
            clear hr ht HC
            have cc := HX.out.hg.bk.cell 11
            have ff := HX.out.hg.bk.frozen 11
            have gg := HX.out.hg.bk.lt
            simp [hdV] at cc
            go_wp2_with fail
            replace HX := Lib.hid (HX.out.put (i := 11) (u := .int .i64 (uV f N e5.1.t)) (h' := { e5.1.h with log := uV f N e5.1.t }) (by unfold hdV; simp) rfl)
            clear cc ff gg
            have HC := Lib.hid (dg_u HX.out.hg.rg hN HX.out.hg.le)
            go_wp2_with fail
            refine HC.out.mono ?_
            rintro e wc ⟨rfl, hr, ht⟩
            replace HX := Lib.hid (HX.out.call hr ht (uS_le HX.out.hg.le))
            clear hr ht HC
            have cc := HX.out.hg.bk.cell 12
            have ff := HX.out.hg.bk.frozen 12
            have gg := HX.out.hg.bk.lt
            simp [hdV] at cc
            go_upto_region 22 with fail
            replace HX : Hid (HR w _ r g gB N f (reL f N e5.1) B PB RB p q5) := Lib.hid (HX.out.put (i := 12) (u := .int .i64 (uV f N (uS f N e5.1.t))) (h' := (reL f N e5.1).h) (by unfold hdV reL; simp) rfl)
            clear cc ff gg
            obtain ⟨dL, hdL⟩ : ∃ d, reL f N e5.1 = d := ⟨_, rfl⟩
            replace H80 : Hid (dL.h.a0 ≤ 8) := Lib.hid (hdL ▸ H80.out)
            replace H81 : Hid (dL.h.a1 ≤ 8) := Lib.hid (hdL ▸ H81.out)
            replace HE : Hid ((reJ f N (reI f N dL), e5.2) = e6) := Lib.hid (hdL ▸ HE.out)
            rw [hdL] at HX
            clear hdL
            have c7 := HX.out.hg.bk.cell 7
            simp [hdV] at c7
            have HC := Lib.hid (getwts_any HX.out.hg.rg hN HX.out.hg.le dL.h.a0 H80.out)
            go_wp2_with fail
            refine HC.out.mono ?_
            rintro e wc ⟨A, cA, rfl, hP⟩
            obtain ⟨hX, hO⟩ := HX.out.list hP
            replace HX := Lib.hid hX
            have HO := Lib.hid hO
            clear hX hO hP HC
            have cc := HX.out.hg.bk.cell 13
            have ff := HX.out.hg.bk.frozen 13
            have gg := HX.out.hg.bk.lt
            simp [hdV] at cc
            go_upto_region 23 with fail
            replace HX : Hid (HR w _ r g gB N f (reI f N dL) B PB RB p { q5 with w0 := A, cw0 := cA }) := Lib.hid (HX.out.layI HO.out)
            clear cc ff gg c7 HO
            obtain ⟨dI, hdI⟩ : ∃ d, reI f N dL = d := ⟨_, rfl⟩
            replace H81 : Hid (dI.h.a1 ≤ 8) := Lib.hid (hdI ▸ H81.out)
            replace HE : Hid ((reJ f N dI, e5.2) = e6) := Lib.hid (hdI ▸ HE.out)
            rw [hdI] at HX
            clear hdI
            obtain ⟨q6, hq6⟩ : ∃ x, ({ q5 with w0 := A, cw0 := cA } : Ha) = x := ⟨_, rfl⟩
            rw [hq6] at HX
            replace HQ : Hid (q6.ops = none) := Lib.hid (by rw [← hq6]; exact HQ.out)
            clear hq6
            have c8 := HX.out.hg.bk.cell 8
            simp [hdV] at c8
            have HC := Lib.hid (getwts_any HX.out.hg.rg hN HX.out.hg.le dI.h.a1 H81.out)
            go_wp2_with fail
            refine HC.out.mono ?_
            rintro e wc ⟨A, cA, rfl, hP⟩
            obtain ⟨hX, hO⟩ := HX.out.list hP
            replace HX := Lib.hid hX
            have HO := Lib.hid hO
            clear hX hO hP HC
            have cc := HX.out.hg.bk.cell 14
            have ff := HX.out.hg.bk.frozen 14
            have gg := HX.out.hg.bk.lt
            simp [hdV] at cc
            go_wp2_with fail
            go_meet
            have e := HE.out
            subst e
            exact ⟨{ q6 with w1 := A, cw1 := cA }, HQ.out, HX.out.layJ HO.out⟩
          case rest => as_aux_lemma =>
           obtain ⟨q6, hqo, hq⟩ := hcut
           replace HX := Lib.hid hq
           replace HQ := Lib.hid hqo
           clear hq hqo
           replace HRX : Hid (R = out f N (reH f N ref key e6) p) := Lib.hid (by rw [← HE6.out]; exact HRX.out)
           replace HOP : Hid (e6.1.h.ops = []) := Lib.hid (by rw [← HE6.out, reW_ops]; exact HOP.out)
           replace HK5 : Hid (e6.2 = k5) := Lib.hid (by rw [← HE6.out]; exact (show (reW f N p e5).2 = e5.2 by unfold reW; split <;> rfl).trans HK5.out)
           clear HE6 HCW HAS
           go_upto_region 24 with fail
           go_cut [111] (fun c wx => c = .bool (k5 && decide (0 < ref)) ∧ wx = wc)
           case first => as_aux_lemma =>
            cases k5
            ·go_wp2_with fail
             go_meet
             exact ⟨rfl, rfl⟩
            ·go_wp2_with fail
             go_meet
             exact ⟨rfl, rfl⟩
           case rest => as_aux_lemma =>
            obtain ⟨rfl, rfl⟩ := hcut
            obtain ⟨b7, hb7⟩ : ∃ b, (k5 && decide (0 < ref)) = b := ⟨_, rfl⟩
            rw [hb7]
            have HB7 : Hid ((e6.2 && decide (0 < ref)) = b7) := Lib.hid (by rw [HK5.out]; exact hb7)
            clear hb7
            obtain ⟨e7, he7⟩ : ∃ e, reH f N ref key e6 = e := ⟨_, rfl⟩
            have HE7 := Lib.hid he7
            clear he7
            go_upto_if 111 with fail
            go_cut [14] (fun c wx => ∃ q, c = .bool e7.2 ∧ HR w wx r g gB N f e7.1 B PB RB p q)
            case first => as_aux_lemma =>
             have e := HE7.out
             unfold reH at e
             rw [HB7.out] at e
             cases b7
             ·rw [if_neg (by simp)] at e
              subst e
              go_wp2_with fail
              go_meet
              exact ⟨q6, congrArg Value.bool HK5.out.symm, HX.out⟩
             ·rw [if_pos rfl] at e
              subst e
              have HC := Lib.hid (getmarks_any HX.out.hg hN HOP.out HQ.out key)
              go_wp2_with fail
              refine HC.out.mono ?_
              rintro e wc ⟨rfl, ⟨q7, hg7⟩, ht⟩
              replace HX := Lib.hid (HX.out.marks hg7 ht)
              clear hg7 ht HC
              go_wp2_with fail
              go_meet
              exact ⟨q7, rfl, HX.out⟩
            case rest => as_aux_lemma =>
             obtain ⟨q7, rfl, hq⟩ := hcut
             replace HX := Lib.hid hq
             replace HRX : Hid (R = out f N e7 p) := Lib.hid (by rw [← HE7.out]; exact HRX.out)
             clear hq HE7 HOP HQ HK5 HB7
             obtain ⟨k7, hk7⟩ : ∃ b, e7.2 = b := ⟨_, rfl⟩
             have e := HRX.out
             unfold out at e
             rw [hk7] at e ⊢
             clear HRX hk7
             cases k7
             ·rw [if_pos rfl] at e
              subst e
              go_upto_region 27 with fail
              refine wp_region_lit ?_
              refine wpl_val rfl (run_load_row (ty := 26) (x := .tmp 6) rfl rfl (load_head HX.out.hg.bk)) ?_
              simp only [Act.put, List.setIfInBounds_toArray, List.set_cons_zero, List.set_cons_succ]
              refine wpList_store_row rfl _ _ _ rfl RB (hdV e7.1.h q7) rfl rfl _ _ HX.out.kr (by kernel_rfl) rfl (hd_one _ _) ?_
              go_wp2_with fail
              exact bodyPost_ret (rest_results _ _ RB 26 (hdV e7.1.h q7) 401 rfl rfl (bk_setRow HX.out.kr) rfl) rfl (HX.out.end_ 401)
             rw [if_neg (by simp)] at e
             have HRY := Lib.hid e
             clear e
             have HC := Lib.hid (dg_u HX.out.hg.rg hN HX.out.hg.le)
             go_wp2_with fail
             refine HC.out.mono ?_
             rintro e wc ⟨rfl, hr, ht⟩
             replace HX := Lib.hid (HX.out.call hr ht (uS_le HX.out.hg.le))
             clear hr ht HC
             have cc := HX.out.hg.bk.cell 17
             have ff := HX.out.hg.bk.frozen 17
             have gg := HX.out.hg.bk.lt
             simp [hdV] at cc
             go_upto_region 29 with fail
             replace HX : Hid (HR w _ r g gB N f (reQ f N e7.1) B PB RB p q7) := Lib.hid (HX.out.put (i := 17) (u := .int .i64 (uV f N e7.1.t)) (h' := (reQ f N e7.1).h) (by unfold hdV reQ; simp) rfl)
             clear cc ff gg
             obtain ⟨d8, hd8⟩ : ∃ d, reQ f N e7.1 = d := ⟨_, rfl⟩
             replace HRY : Hid (R = fin (reD f N p d8)) := Lib.hid (hd8 ▸ HRY.out)
             rw [hd8] at HX
             clear hd8
             obtain ⟨db, hdb⟩ : ∃ b, p.deb = b := ⟨_, rfl⟩
             have c6 := HX.out.kp.cell 6
             simp [ppV] at c6
             rw [hdb] at c6
             obtain ⟨d9, hd9⟩ : ∃ d, reD f N p d8 = d := ⟨_, rfl⟩
             replace HRY : Hid (R = fin d9) := Lib.hid (hd9 ▸ HRY.out)
             have HD9 := Lib.hid hd9
             have HDB := Lib.hid hdb
             clear hd9 hdb
             go_upto_if 122 with fail
             go_cut [] (fun wx => HR w wx r g gB N f d9 B PB RB p q7)
             case first => as_aux_lemma =>
              have e := HD9.out
              unfold reD at e
              rw [HDB.out] at e
              clear HDB HD9
              cases db
              ·rw [if_neg (by simp)] at e
               subst e
               go_wp2_with fail
               go_meet
               exact HX.out
              ·rw [if_pos rfl] at e
               have HE := Lib.hid e
               clear c6 e
               have HC := Lib.hid (dg_b HX.out.hg.rg hN HX.out.hg.le (n := 1) (by decide))
               go_wp2_with fail
               refine HC.out.mono ?_
               rintro e wc ⟨rfl, hr, ht⟩
               replace HX := Lib.hid (HX.out.call hr ht (bS_le 1 HX.out.hg.le))
               clear hr ht HC
               have cc := HX.out.hg.bk.cell 18
               have ff := HX.out.hg.bk.frozen 18
               have gg := HX.out.hg.bk.lt
               simp [hdV] at cc
               go_upto_region 31 with fail
               replace HX : Hid (HR w _ r g gB N f (reZ f N d8) B PB RB p q7) := Lib.hid (HX.out.put (i := 18) (u := .bool (bV f N 1 d8.t == 1)) (h' := (reZ f N d8).h) (by unfold hdV reZ; simp) rfl)
               clear cc ff gg
               obtain ⟨dZ, hdZ⟩ : ∃ d, reZ f N d8 = d := ⟨_, rfl⟩
               rw [hdZ] at HX
               replace HE : Hid (reY f N dZ = d9) := Lib.hid (hdZ ▸ HE.out)
               clear hdZ
               have c18 := HX.out.hg.bk.cell 18
               simp [hdV] at c18
               obtain ⟨of, hof⟩ : ∃ b, dZ.h.off = b := ⟨_, rfl⟩
               rw [hof] at c18
               have e := HE.out
               unfold reY at e
               rw [hof] at e
               clear hof
               cases of
               rotate_left
               ·rw [if_pos rfl] at e
                subst e
                go_wp2_with fail
                go_meet
                exact HX.out
               rw [if_neg (by simp)] at e
               replace HE := Lib.hid e
               clear e
               have HC := Lib.hid (dg_s HX.out.hg.rg hN HX.out.hg.le)
               go_wp2_with fail
               refine HC.out.mono ?_
               rintro e wc ⟨rfl, hr, ht⟩
               replace HX := Lib.hid (HX.out.call hr ht (uS_le HX.out.hg.le))
               clear hr ht HC
               have cc := HX.out.hg.bk.cell 19
               have ff := HX.out.hg.bk.frozen 19
               have gg := HX.out.hg.bk.lt
               simp [hdV] at cc
               go_wp2_with fail
               replace HX := Lib.hid (HX.out.put (i := 19) (u := .int .i64 (sV f N dZ.t)) (h' := { dZ.h with a := sV f N dZ.t }) (by unfold hdV; simp) rfl)
               clear cc ff gg
               have HC := Lib.hid (dg_s HX.out.hg.rg hN HX.out.hg.le)
               go_wp2_with fail
               refine HC.out.mono ?_
               rintro e wc ⟨rfl, hr, ht⟩
               replace HX := Lib.hid (HX.out.call hr ht (uS_le HX.out.hg.le))
               clear hr ht HC
               have cc := HX.out.hg.bk.cell 20
               have ff := HX.out.hg.bk.frozen 20
               have gg := HX.out.hg.bk.lt
               simp [hdV] at cc
               go_wp2_with fail
               go_meet
               have e := HE.out
               subst e
               exact HX.out.put (i := 20) (u := .int .i64 (sV f N (uS f N dZ.t))) (h' := { dZ.h with a := sV f N dZ.t, b := sV f N (uS f N dZ.t) }) (by unfold hdV; simp) rfl
             case rest => as_aux_lemma =>
              replace HX := Lib.hid hcut
              clear hcut c6 HD9 HDB
              have e := HRY.out
              unfold fin at e
              have c1 := HX.out.hg.rg.bad
              obtain ⟨bd, hbd⟩ : ∃ b, d9.t.bad = b := ⟨_, rfl⟩
              rw [hbd] at c1 e
              clear HRY hbd
              cases bd
              ·rw [if_neg (by simp)] at e
               subst e
               go_upto_region 36 with fail
               refine wp_region_lit ?_
               refine wpl_val rfl (run_load_row (ty := 26) (x := .tmp 6) rfl rfl (load_head HX.out.hg.bk)) ?_
               simp only [Act.put, List.setIfInBounds_toArray, List.set_cons_zero, List.set_cons_succ]
               refine wpList_store_row rfl _ _ _ rfl RB (hdV d9.h q7) rfl rfl _ _ HX.out.kr (by kernel_rfl) rfl (hd_one _ _) ?_
               go_wp2_with fail
               exact bodyPost_ret (rest_results _ _ RB 26 (hdV d9.h q7) 0 rfl rfl (bk_setRow HX.out.kr) rfl) rfl (HX.out.end_ 0)
              ·rw [if_pos rfl] at e
               subst e
               go_upto_region 35 with fail
               refine wp_region_lit ?_
               refine wpl_val rfl (run_load_row (ty := 26) (x := .tmp 6) rfl rfl (load_head HX.out.hg.bk)) ?_
               simp only [Act.put, List.setIfInBounds_toArray, List.set_cons_zero, List.set_cons_succ]
               refine wpList_store_row rfl _ _ _ rfl RB (hdV d9.h q7) rfl rfl _ _ HX.out.kr (by kernel_rfl) rfl (hd_one _ _) ?_
               go_wp2_with fail
               exact bodyPost_ret (rest_results _ _ RB 26 (hdV d9.h q7) 400 rfl rfl (bk_setRow HX.out.kr) rfl) rfl (HX.out.end_ 400)
end
end Go.Proofs.YtjokibagciehlaaGreat

namespace Go.Proofs.YtjokibagciehlaaGreat
open Go.RowKit
set_option linter.unusedVariables false
set_option linter.unusedSimpArgs false

theorem dgt_results (a : Act) (w : World) (B : Nat) (t : TypeId) (cs : Array Value) (E : Int) (h10 : a.tmps.getD 10 undef = .pointer (some ⟨B, 0, none⟩)) (h11 : a.tmps.getD 11 undef = .int .i64 E) (hg : Bk w B t cs) (hs : cs.size = 21) :
  (results Tryz.f58 a.tmps).run Tryz.prog w = .ok (.tuple #[.agg cs, .int .i64 E]) w := by
 have h10' : a.tmps[10]?.getD undef = .pointer (some ⟨B, 0, none⟩) := by simpa using h10
 have h11' : a.tmps[11]?.getD undef = .int .i64 E := by simpa using h11
 have hl := run_loadVar_row (P := Tryz.prog) w B t 26 cs (0, 0) _ hg Tryz.underlying26 rfl (by rw [hs]; kernel_rfl)
 simp [results, Tryz.results58, h10', h11', asAddr, hl, Sem.run_bind]
/-- on get's way: rest's state, and the sequence's parameters at SB -/
structure HU (w0 w : World) (r g gB N : Nat) (f : Nat → Bool) (d : Dd) (B SB PB RB : Nat) (s : Sp) (A : Option Addr) (c : Nat) (p : Pp) : Prop where
 hr : HR w0 w r g gB N f d B PB RB p Ha.zero
 ks : Bk w SB 29 (spV s A c)
 hs : w0.heap.size ≤ SB
section
variable {w0 w w' : World} {r g gB N B SB PB RB : Nat} {f : Nat → Bool} {d : Dd} {s : Sp} {A : Option Addr} {c : Nat} {p : Pp} {h' : Hd}
theorem HU.call {t' : St} (H : HU w0 w r g gB N f d B SB PB RB s A c p) (hr : DG w' r g gB N f t') (ht : Touch (RGS r g) w w') (hl : t'.a ≤ N) : HU w0 w' r g gB N f ⟨t', d.h⟩ B SB PB RB s A c p := by
 have h1 := H.hr.hg.lt
 have h2 := H.hs
 exact ⟨H.hr.call hr ht hl, H.ks.touch ht (by rintro (e | e) <;> omega), h2⟩
theorem HU.put (H : HU w0 w r g gB N f d B SB PB RB s A c p) {i : Nat} {u : Value} (e : (hdV d.h Ha.zero).setIfInBounds i u = hdV h' Ha.zero) (el : h'.ls = d.h.ls) : HU w0 (w.setCell ⟨B, i, none⟩ u) r g gB N f ⟨d.t, h'⟩ B SB PB RB s A c p :=
 ⟨H.hr.put e el, H.ks.far (p := ⟨B, i, none⟩) (Bk.ne_ H.ks H.hr.hg.bk (by decide)) u, H.hs⟩
theorem HU.drewN (H : HU w0 w r g gB N f d B SB PB RB s A c p) (n : Nat) : HU w0 (w.drewN n) r g gB N f d B SB PB RB s A c p :=
 have hb : Below w.heap.size w (w.drewN n) := ((Touch.refl (fun _ => False) w).drewN n).below (fun _ h => h.elim) (Nat.le_refl _)
 ⟨H.hr.go hb, H.ks.go hb, H.hs⟩
/-- behind rest's call: the answer laid down -/
theorem HU.end_ {R : Hd × Int × St} {q : Ha} (H : HU w0 w r g gB N f d B SB PB RB s A c p) (h1 : DG w' r g gB N f R.2.2) (h2 : HOw w' w.heap.size R.1.ls q) (h3 : Touch (RGS r g) w w') (h4 : R.2.2.a ≤ N) : RPo w0 (w'.setRow RB (hdV R.1 q)) r g gB N f R (.returned (.tuple #[.agg (hdV R.1 q), .int .i64 R.2.1])) := by
 have l1 := H.hr.hg.lt
 have l3 := H.hr.hr
 have kr : Bk w' RB 26 (hdV Hd.zero Ha.zero) := H.hr.kr.touch h3 (by rintro (e | e) <;> omega)
 have ht : Touch (fun k => k = RB) w' (w'.setRow RB (hdV R.1 q)) := touch_setRow (Touch.refl _ w') _ _ (fun _ => rfl)
 have hsz := H.hr.hg.tch.size
 have ho : HOw w' w0.heap.size R.1.ls q := ⟨own_less h2.m0 hsz, own_less h2.m1 hsz, own_less h2.w0 hsz, own_less h2.w1 hsz, own_less h2.ops hsz⟩
 refine ⟨q, rfl, h1.touch ht (by omega) (by omega) (by omega), ho.touch ht (fun k hk => ?_), touch_setRow (H.hr.hg.tch.trans h3) _ _ (fun h => by omega), h4⟩
 have e : k = RB := hk
 subst e
 exact ⟨_, _, kr, by decide, by decide, by decide⟩
theorem HU.bkr (H : HU w0 w r g gB N f d B SB PB RB s A c p) (h3 : Touch (RGS r g) w w') : Bk w' RB 26 (hdV Hd.zero Ha.zero) := by
 have l1 := H.hr.hg.lt
 have l3 := H.hr.hr
 exact H.hr.kr.touch h3 (by rintro (e | e) <;> omega)
end
theorem no_ls {h h' : Hd} (e : h'.ls = h.ls) (k : h.m0 = [] ∧ h.m1 = [] ∧ h.w0 = [] ∧ h.w1 = [] ∧ h.ops = []) : h'.m0 = [] ∧ h'.m1 = [] ∧ h'.w0 = [] ∧ h'.w1 = [] ∧ h'.ops = [] := by
 injection e with e1 e2 e3 e4 e5
 exact ⟨e1.trans k.1, e2.trans k.2.1, e3.trans k.2.2.1, e4.trans k.2.2.2.1, e5.trans k.2.2.2.2⟩
section
variable {w : World} {r g gB N : Nat} {f : Nat → Bool} {t : St} (H : DG w r g gB N f t) (hN : N ≤ 1125899906842624) (ha : t.a ≤ N) (s : Sp) (A : Option Addr) (c : Nat) (p : Pp) (ref : Int) (key : Bool) (hf : 0 ≤ s.fb) (hp : 0 ≤ s.pb)
include H hN ha hf hp
set_option maxRecDepth 100000 in
set_option maxHeartbeats 25600000 in
theorem dgt_any : Calls Tryz.prog 58 #[.pointer (some ⟨r, 0, none⟩), .agg (spV s A c), .agg (ppV p), .int .i64 ref, .bool key] w fun e w' => RPo w w' r g gB N f (doGet f N s p ref key t) e := by
 have hw4 : HU w ((((w.alloc (.cells (spV s A c) 29)).alloc (.cells (ppV p) 31)).alloc (.cells (hdV Hd.zero Ha.zero) 26)).alloc (.cells (hdV Hd.zero Ha.zero) 26)) r g gB N f ⟨t, Hd.zero⟩ (w.heap.size + 1 + 1 + 1) w.heap.size (w.heap.size + 1) (w.heap.size + 1 + 1) s A c p := by
  have lts := H.lts
  obtain ⟨w1, e1⟩ : ∃ x, x = w.alloc (.cells (spV s A c) 29) := ⟨_, rfl⟩
  obtain ⟨w2, e2⟩ : ∃ x, x = w1.alloc (.cells (ppV p) 31) := ⟨_, rfl⟩
  obtain ⟨w3, e3⟩ : ∃ x, x = w2.alloc (.cells (hdV Hd.zero Ha.zero) 26) := ⟨_, rfl⟩
  obtain ⟨w4, e4⟩ : ∃ x, x = w3.alloc (.cells (hdV Hd.zero Ha.zero) 26) := ⟨_, rfl⟩
  have k1 : Bk w1 w.heap.size 29 (spV s A c) := e1 ▸ Bk.new w _ _
  have k2 : Bk w2 w1.heap.size 31 (ppV p) := e2 ▸ Bk.new w1 _ _
  have k3 : Bk w3 w2.heap.size 26 (hdV Hd.zero Ha.zero) := e3 ▸ Bk.new w2 _ _
  have k4 : Bk w4 w3.heap.size 26 (hdV Hd.zero Ha.zero) := e4 ▸ Bk.new w3 _ _
  have s1 : w1.heap.size = w.heap.size + 1 := by rw [e1]; simp
  have s2 : w2.heap.size = w.heap.size + 1 + 1 := by rw [e2]; simp [s1]
  have s3 : w3.heap.size = w.heap.size + 1 + 1 + 1 := by rw [e3]; simp [s2]
  have b1 : Below w.heap.size w w1 := e1 ▸ (Below.refl _ _).alloc (Nat.le_refl _) _
  have b2 : Below w1.heap.size w1 w2 := e2 ▸ (Below.refl _ _).alloc (Nat.le_refl _) _
  have b3 : Below w2.heap.size w2 w3 := e3 ▸ (Below.refl _ _).alloc (Nat.le_refl _) _
  have b4 : Below w3.heap.size w3 w4 := e4 ▸ (Below.refl _ _).alloc (Nat.le_refl _) _
  have b : Below w.heap.size w w4 := b1.trans ((b2.mono (by omega)).trans ((b3.mono (by omega)).trans (b4.mono (by omega))))
  rw [← e1, ← e2, ← e3, ← e4]
  rw [s1] at k2
  rw [s2] at k3
  rw [s3] at k4
  have hg : HG w w4 r g gB N f t (w.heap.size + 1 + 1 + 1) Hd.zero Ha.zero := HG.of (H.go b) k4 (HOw.zero _ _) (Touch.of_new b) (by omega) lts ha
  exact ⟨⟨hg, (k2.go b3).go b4, k3.go b4, by omega, by omega, by omega⟩, ((k1.go b2).go b3).go b4, Nat.le_refl _⟩
 clear H ha
 obtain ⟨R, hR⟩ : ∃ R, doGet f N s p ref key t = R := ⟨_, rfl⟩
 have HRR := Lib.hid hR
 rw [hR]
 clear hR
 have HF := Lib.hid hf
 have HP := Lib.hid hp
 clear hf hp
 simp only [spV, ppV]
 go_enter Tryz.func58, Tryz.ntmps58
 go_upto_region 2 with fail
 refine (fun (k : ∀ w4, HU w w4 r g gB N f ⟨t, Hd.zero⟩ (w.heap.size + 1 + 1 + 1) w.heap.size (w.heap.size + 1) (w.heap.size + 1 + 1) s A c p → Code.wp _ _ _ _ w4) => k _ hw4) ?_
 clear hw4
 intro w4 hw4
 have HX := Lib.hid hw4
 clear hw4
 obtain ⟨B, hB⟩ : ∃ b, w.heap.size + 1 + 1 + 1 = b := ⟨_, rfl⟩
 obtain ⟨RB, hRB⟩ : ∃ b, w.heap.size + 1 + 1 = b := ⟨_, rfl⟩
 obtain ⟨PB, hPB⟩ : ∃ b, w.heap.size + 1 = b := ⟨_, rfl⟩
 obtain ⟨SB, hSB⟩ : ∃ b, w.heap.size = b := ⟨_, rfl⟩
 rw [hB, hRB, hPB, hSB] at HX
 rw [hB, hRB, hPB, hSB]
 clear hB hRB hPB hSB
 have HC := Lib.hid (dg_u HX.out.hr.hg.rg hN HX.out.hr.hg.le)
 go_wp2_with fail
 refine HC.out.mono ?_
 rintro e wc ⟨rfl, hr, ht⟩
 replace HX := Lib.hid (HX.out.call hr ht (uS_le HX.out.hr.hg.le))
 clear hr ht HC
 have cc := HX.out.hr.hg.bk.cell 0
 have ff := HX.out.hr.hg.bk.frozen 0
 have gg := HX.out.hr.hg.bk.lt
 simp [hdV] at cc
 go_wp2_with fail
 replace HX : Hid (HU w _ r g gB N f ⟨uS f N t, { Hd.zero with first := uV f N t }⟩ B SB PB RB s A c p) := Lib.hid (HX.out.put (i := 0) (u := .int .i64 (uV f N t)) (h' := { Hd.zero with first := uV f N t }) (by unfold hdV; simp) rfl)
 clear cc ff gg
 have hb1 := uV_bd (f := f) (N := N) (t := uS f N t) HX.out.hr.hg.le
 have HB1 := Lib.hid hb1
 clear hb1
 have HC := Lib.hid (dg_u HX.out.hr.hg.rg hN HX.out.hr.hg.le)
 go_wp2_with fail
 refine HC.out.mono ?_
 rintro e wc ⟨rfl, hr, ht⟩
 replace HX := Lib.hid (HX.out.call hr ht (uS_le HX.out.hr.hg.le))
 clear hr ht HC
 obtain ⟨x, hx⟩ : ∃ x, uV f N (uS f N t) = x := ⟨_, rfl⟩
 rw [hx] at HB1 ⊢
 obtain ⟨hb0, hb1⟩ := HB1.out
 clear HB1
 have cc := HX.out.hr.hg.bk.cell 1
 have ff := HX.out.hr.hg.bk.frozen 1
 have gg := HX.out.hr.hg.bk.lt
 simp [hdV] at cc
 go_wp2_with fail
 subst hx
 replace HX : Hid (HU w _ r g gB N f ⟨uS f N (uS f N t), { Hd.zero with first := uV f N t, count := uV f N (uS f N t) + 1 }⟩ B SB PB RB s A c p) := Lib.hid (HX.out.put (i := 1) (u := .int .i64 (uV f N (uS f N t) + 1)) (h' := { Hd.zero with first := uV f N t, count := uV f N (uS f N t) + 1 }) (by unfold hdV; simp) rfl)
 clear cc ff gg hb0 hb1
 have HC := Lib.hid (dg_u HX.out.hr.hg.rg hN HX.out.hr.hg.le)
 go_wp2_with fail
 refine HC.out.mono ?_
 rintro e wc ⟨rfl, hr, ht⟩
 replace HX := Lib.hid (HX.out.call hr ht (uS_le HX.out.hr.hg.le))
 clear hr ht HC
 have cc := HX.out.hr.hg.bk.cell 2
 have ff := HX.out.hr.hg.bk.frozen 2
 have gg := HX.out.hr.hg.bk.lt
 simp [hdV] at cc
 go_upto_region 5 with fail
 replace HX : Hid (HU w _ r g gB N f (doA f N t) B SB PB RB s A c p) := Lib.hid (HX.out.put (i := 2) (u := .int .i64 (uV f N (uS f N (uS f N t)))) (h' := (doA f N t).h) (by unfold hdV doA; simp) rfl)
 clear cc ff gg
 have HL : Hid ((doA f N t).h.m0 = [] ∧ (doA f N t).h.m1 = [] ∧ (doA f N t).h.w0 = [] ∧ (doA f N t).h.w1 = [] ∧ (doA f N t).h.ops = []) := Lib.hid ⟨rfl, rfl, rfl, rfl, rfl⟩
 replace HRR : Hid ((if (!(doA f N t).t.bad && decide (2 < (doA f N t).h.type)) = true then ((doA f N t).h, 401, (doA f N t).t) else rest f N p ref key (doG f N s (doF f N key (doE f N s (doA f N t))))) = R) := Lib.hid HRR.out
 obtain ⟨d1, hd1⟩ : ∃ d, doA f N t = d := ⟨_, rfl⟩
 rw [hd1] at HX HL HRR
 clear hd1
 have c1 := HX.out.hr.hg.rg.bad
 have c2 := HX.out.hr.hg.bk.cell 2
 simp [hdV] at c2
 obtain ⟨bd, hbd⟩ : ∃ b, d1.t.bad = b := ⟨_, rfl⟩
 obtain ⟨ty, hty⟩ : ∃ x, d1.h.type = x := ⟨_, rfl⟩
 rw [hbd] at c1
 rw [hty] at c2
 have hXX : (!d1.t.bad && decide (2 < d1.h.type)) = (!bd && decide (2 < ty)) := by rw [hbd, hty]
 have HXX := Lib.hid hXX
 clear hXX hbd hty
 go_cut [32] (fun x wx => x = .bool (!bd && decide (2 < ty)) ∧ wx = wc.setCell ⟨B, 2, none⟩ (.int .i64 (uV f N (uS f N (uS f N t)))))
 case first => as_aux_lemma =>
  cases bd
  ·go_wp2_with fail
   go_meet
   exact ⟨rfl, rfl⟩
  ·go_wp2_with fail
   go_meet
   exact ⟨rfl, rfl⟩
 case rest => as_aux_lemma =>
  obtain ⟨rfl, rfl⟩ := hcut
  obtain ⟨b1, hb1⟩ : ∃ b, (!bd && decide (2 < ty)) = b := ⟨_, rfl⟩
  rw [hb1]
  have e := HRR.out
  rw [HXX.out, hb1] at e
  clear c1 c2 HXX HRR hb1
  cases b1
  rotate_left
  ·rw [if_pos rfl] at e
   subst e
   go_upto_region 6 with fail
   refine wp_region_lit ?_
   refine wpl_val rfl (run_load_row (ty := 26) (x := .tmp 12) rfl rfl (load_head HX.out.hr.hg.bk)) ?_
   simp only [Act.put, List.setIfInBounds_toArray, List.set_cons_zero, List.set_cons_succ]
   refine wpList_store_row rfl _ _ _ rfl RB (hdV d1.h Ha.zero) rfl rfl _ _ HX.out.hr.kr (by kernel_rfl) rfl (hd_one _ _) ?_
   go_wp2_with fail
   exact bodyPost_ret (dgt_results _ _ RB 26 (hdV d1.h Ha.zero) 401 rfl rfl (bk_setRow HX.out.hr.kr) rfl) rfl (HX.out.hr.end_ 401)
  rw [if_neg (by simp)] at e
  have HRX := Lib.hid e
  clear e
  have c2 := HX.out.ks.cell 2
  simp [spV] at c2
  have HC := Lib.hid (dg_b HX.out.hr.hg.rg hN HX.out.hr.hg.le (n := s.fb) HF.out)
  go_wp2_with fail
  refine HC.out.mono ?_
  rintro e wc ⟨rfl, hr, ht⟩
  replace HX := Lib.hid (HX.out.call hr ht (bS_le s.fb HX.out.hr.hg.le))
  clear hr ht HC
  clear c2
  have cc := HX.out.hr.hg.bk.cell 3
  have ff := HX.out.hr.hg.bk.frozen 3
  have gg := HX.out.hr.hg.bk.lt
  simp [hdV] at cc
  go_upto_if 39 with fail
  replace HX : Hid (HU w _ r g gB N f (doE f N s d1) B SB PB RB s A c p) := Lib.hid (HX.out.put (i := 3) (u := .int .i64 (bV f N s.fb d1.t)) (h' := (doE f N s d1).h) (by unfold hdV doE; simp) rfl)
  clear cc ff gg
  replace HL := Lib.hid (no_ls (h' := (doE f N s d1).h) rfl HL.out)
  obtain ⟨d2, hd2⟩ : ∃ d, doE f N s d1 = d := ⟨_, rfl⟩
  rw [hd2] at HX HL HRX
  clear hd2
  obtain ⟨d3, hd3⟩ : ∃ d, doF f N key d2 = d := ⟨_, rfl⟩
  rw [hd3] at HRX
  replace HL := Lib.hid (no_ls (h' := d3.h) (by rw [← hd3]; unfold doF; split <;> rfl) HL.out)
  have HD3 := Lib.hid hd3
  clear hd3
  go_cut [] (fun wx => HU w wx r g gB N f d3 B SB PB RB s A c p)
  case first => as_aux_lemma =>
   have e := HD3.out
   unfold doF at e
   cases key
   ·rw [if_neg (by simp)] at e
    subst e
    go_wp2_with fail
    go_meet
    exact HX.out
   ·rw [if_pos rfl] at e
    subst e
    have HC := Lib.hid (dg_u HX.out.hr.hg.rg hN HX.out.hr.hg.le)
    go_wp2_with fail
    refine HC.out.mono ?_
    rintro e wc ⟨rfl, hr, ht⟩
    replace HX := Lib.hid (HX.out.call hr ht (uS_le HX.out.hr.hg.le))
    clear hr ht HC
    have cc := HX.out.hr.hg.bk.cell 4
    have ff := HX.out.hr.hg.bk.frozen 4
    have gg := HX.out.hr.hg.bk.lt
    simp [hdV] at cc
    go_wp2_with fail
    go_meet
    exact HX.out.put (i := 4) (u := .int .i64 (uV f N d2.t)) (h' := { d2.h with id := uV f N d2.t }) (by unfold hdV; simp) rfl
  case rest => as_aux_lemma =>
   replace HX := Lib.hid hcut
   clear hcut HD3
   have c3 := HX.out.ks.cell 3
   simp [spV] at c3
   go_upto_if 45 with fail
   obtain ⟨pt0, hpt0⟩ : ∃ b, (s.pt == 0) = b := ⟨_, rfl⟩
   rw [hpt0]
   have HPT : Hid (pt0 = true ↔ s.pt = 0) := Lib.hid (by rw [← hpt0]; simp)
   obtain ⟨d4, hd4⟩ : ∃ d, doG f N s d3 = d := ⟨_, rfl⟩
   rw [hd4] at HRX
   replace HL := Lib.hid (no_ls (h' := d4.h) (by rw [← hd4]; unfold doG; split <;> rfl) HL.out)
   have HD4 := Lib.hid hd4
   clear hd4
   go_cut [] (fun wx => HU w wx r g gB N f d4 B SB PB RB s A c p)
   case first => as_aux_lemma =>
    have e := HD4.out
    unfold doG at e
    cases pt0
    ·rw [if_neg (fun h => by have := HPT.out.2 h; cases this)] at e
     subst e
     go_wp2_with fail
     go_meet
     exact HX.out
    ·rw [if_pos (HPT.out.1 rfl)] at e
     subst e
     have c4 := HX.out.ks.cell 4
     simp [spV] at c4
     have HC := Lib.hid (dg_b HX.out.hr.hg.rg hN HX.out.hr.hg.le (n := s.pb) HP.out)
     go_wp2_with fail
     refine HC.out.mono ?_
     rintro e wc ⟨rfl, hr, ht⟩
     replace HX := Lib.hid (HX.out.call hr ht (bS_le s.pb HX.out.hr.hg.le))
     clear hr ht HC
     have cc := HX.out.hr.hg.bk.cell 5
     have ff := HX.out.hr.hg.bk.frozen 5
     have gg := HX.out.hr.hg.bk.lt
     simp [hdV] at cc
     go_wp2_with fail
     go_meet
     exact HX.out.put (i := 5) (u := .int .i64 (bV f N s.pb d3.t)) (h' := { d3.h with poc := bV f N s.pb d3.t }) (by unfold hdV; simp) rfl
   case rest => as_aux_lemma =>
    replace HX := Lib.hid hcut
    clear hcut HD4 HPT c3 hpt0
    subst R
    have HC := Lib.hid (rest_any HX.out.hr.hg.rg hN HX.out.hr.hg.le d4.h HL.out p ref key)
    go_upto_region 12 with fail
    refine wp_region_lit ?_
    refine wpl_val rfl (run_move rfl rfl) ?_
    simp only [Act.put, List.setIfInBounds_toArray, List.set_cons_zero, List.set_cons_succ]
    refine wpl_val rfl (run_load_row (ty := 26) (x := .tmp 12) rfl rfl (load_head HX.out.hr.hg.bk)) ?_
    simp only [Act.put, List.setIfInBounds_toArray, List.set_cons_zero, List.set_cons_succ]
    refine wpl_val rfl (run_load_row (x := .tmp 7) rfl rfl (load_pps HX.out.hr.kp)) ?_
    simp only [Act.put, List.setIfInBounds_toArray, List.set_cons_zero, List.set_cons_succ]
    refine wpl_val rfl (run_move rfl rfl) ?_
    simp only [Act.put, List.setIfInBounds_toArray, List.set_cons_zero, List.set_cons_succ]
    refine wpl_val rfl (run_move rfl rfl) ?_
    simp only [Act.put, List.setIfInBounds_toArray, List.set_cons_zero, List.set_cons_succ]
    refine wpl_call rfl (f := 92) (args := #[.pointer (some ⟨r, 0, none⟩), .agg (hdV d4.h Ha.zero), .agg (ppV p), .int .i64 ref, .bool key]) (by kernel_rfl) ?_
    refine HC.out.mono ?_
    rintro e wy ⟨q, rfl, hg1, ho1, ht1, hl1⟩
    refine ⟨_, rfl, ?_⟩
    clear HC
    simp only [Act.put, List.setIfInBounds_toArray, List.set_cons_zero, List.set_cons_succ]
    have HE := Lib.hid (HX.out.end_ (R := rest f N p ref key ⟨d4.t, d4.h⟩) hg1 ho1 ht1 hl1)
    have KR := Lib.hid (HX.out.bkr ht1)
    clear hg1 ho1 ht1 hl1
    refine wpl_val rfl (run_ext0 (v := .agg (hdV (rest f N p ref key ⟨d4.t, d4.h⟩).1 q)) (u := .int .i64 (rest f N p ref key ⟨d4.t, d4.h⟩).2.1) rfl rfl) ?_
    simp only [Act.put, List.setIfInBounds_toArray, List.set_cons_zero, List.set_cons_succ]
    refine wpl_val rfl (run_ext1 (v := .agg (hdV (rest f N p ref key ⟨d4.t, d4.h⟩).1 q)) (u := .int .i64 (rest f N p ref key ⟨d4.t, d4.h⟩).2.1) rfl rfl) ?_
    simp only [Act.put, List.setIfInBounds_toArray, List.set_cons_zero, List.set_cons_succ]
    refine wpList_store_row rfl _ _ _ rfl RB (hdV (rest f N p ref key ⟨d4.t, d4.h⟩).1 q) rfl rfl _ _ KR.out (by kernel_rfl) rfl (hd_one _ _) ?_
    go_wp2_with fail
    exact bodyPost_ret (dgt_results _ _ RB 26 (hdV (rest f N p ref key ⟨d4.t, d4.h⟩).1 q) (rest f N p ref key ⟨d4.t, d4.h⟩).2.1 rfl rfl (bk_setRow KR.out) rfl) rfl HE.out
end
end Go.Proofs.YtjokibagciehlaaGreat

namespace Go.Proofs.YtjokibagciehlaaGreat
set_option linter.unusedVariables false
set_option linter.unusedSimpArgs false

section
variable {f : Nat → Bool} {N : Nat}
/-- alike, and what is known of the header while all is well -/
def R2 (E : Hd → Prop) (P : Hw) (d : Dd) (fine : Bool) : Prop := Rl P d fine ∧ (fine = true → d.t.bad = false → E d.h)
/-- a step of both -/
structure Sp2 (E E' : Hd → Prop) (F : Hw → Hw) (G : Dd → Dd) : Prop where
 stop : ∀ P, P.k.stop = true → (F P).k = P.k
 bad : ∀ d, d.t.bad = true → (G d).t.bad = true
 good : ∀ a h, E h → R2 E' (F ⟨.rd a false false, h⟩) (G ⟨⟨a, false⟩, h⟩) true
/-- a step that may find too much -/
structure Sp3 (E E' : Hd → Prop) (F : Hw → Hw) (G : Dd → Dd × Bool) : Prop where
 stop : ∀ P, P.k.stop = true → (F P).k = P.k
 bad : ∀ d, d.t.bad = true → (G d).1.t.bad = true ∧ (G d).2 = true
 good : ∀ a h, E h → R2 E' (F ⟨.rd a false false, h⟩) (G ⟨⟨a, false⟩, h⟩).1 (G ⟨⟨a, false⟩, h⟩).2
theorem Sp2.go {E E' : Hd → Prop} {F : Hw → Hw} {G : Dd → Dd} (S : Sp2 E E' F G) {P : Hw} {d : Dd} {fine : Bool} (H : R2 E P d fine) : R2 E' (F P) (G d) fine := by
 obtain ⟨H, hE⟩ := H
 rcases H with ⟨a, h1, h2, h3⟩ | ⟨a, h1, h2, h3⟩ | ⟨a, h1, h3⟩
 ·subst h3
  cases P with
  | mk k h =>
   cases h1
   subst h2
   exact S.good a h (hE rfl rfl)
 ·subst h3
  have q := S.bad d h2
  exact ⟨Rl.bad ((S.stop P (by rw [h1]; rfl)).trans h1) q, fun _ h => by rw [q] at h; cases h⟩
 ·subst h3
  exact ⟨Rl.many ((S.stop P (by rw [h1]; rfl)).trans h1), fun h => by cases h⟩
theorem Sp3.go {E E' : Hd → Prop} {F : Hw → Hw} {G : Dd → Dd × Bool} (S : Sp3 E E' F G) {P : Hw} {d : Dd} (H : R2 E P d true) : R2 E' (F P) (G d).1 (G d).2 := by
 obtain ⟨H, hE⟩ := H
 rcases H with ⟨a, h1, h2, h3⟩ | ⟨a, h1, h2, h3⟩ | ⟨a, h1, h3⟩
 ·cases P with
  | mk k h =>
   cases h1
   subst h2
   exact S.good a h (hE rfl rfl)
 ·obtain ⟨q, q2⟩ := S.bad d h2
  rw [q2]
  exact ⟨Rl.bad ((S.stop P (by rw [h1]; rfl)).trans h1) q, fun _ h => by rw [q] at h; cases h⟩
 ·cases h3
/-- .. behind another such step -/
theorem Sp3.go2 {E E' : Hd → Prop} {F : Hw → Hw} {G : Dd → Dd × Bool} (S : Sp3 E E' F G) {P : Hw} {e : Dd × Bool} (H : R2 E P e.1 e.2) : R2 E' (F P) (if e.2 = true then G e.1 else e).1 (if e.2 = true then G e.1 else e).2 := by
 obtain ⟨d, fine⟩ := e
 cases fine
 ·rw [if_neg (by simp)]
  obtain ⟨H, hE⟩ := H
  rcases H with ⟨a, h1, h2, h3⟩ | ⟨a, h1, h2, h3⟩ | ⟨a, h1, h3⟩
  ·cases h3
  ·cases h3
  ·exact ⟨Rl.many ((S.stop P (by rw [h1]; rfl)).trans h1), fun h => by cases h⟩
 ·rw [if_pos rfl]
  exact S.go H
theorem Sp2.comp {E E' E'' : Hd → Prop} {F F' : Hw → Hw} {G G' : Dd → Dd} (S : Sp2 E E' F G) (S' : Sp2 E' E'' F' G') : Sp2 E E'' (fun P => F' (F P)) (fun d => G' (G d)) :=
 ⟨fun P h => (S'.stop _ (by rw [S.stop P h]; exact h)).trans (S.stop P h), fun d h => S'.bad _ (S.bad d h), fun a h hE => S'.go (S.good a h hE)⟩
theorem Sp2.ite {E E' : Hd → Prop} {F : Hw → Hw} {G : Dd → Dd} (S : Sp2 E E' F G) (hE : ∀ h, E h → E' h) (c : Hd → Prop) [∀ h, Decidable (c h)] : Sp2 E E' (fun P => if c P.h then F P else P) (fun d => if c d.h then G d else d) := by
 refine ⟨fun P h => ?_, fun d h => ?_, fun a h e => ?_⟩
 ·(try dsimp only)
  split
  ·exact S.stop P h
  ·rfl
 ·(try dsimp only)
  split
  ·exact S.bad d h
  ·exact h
 ·(try dsimp only)
  split
  ·exact S.good a h e
  ·exact ⟨Rl.good a h, fun _ _ => hE h e⟩
theorem Sp2.cond {E E' : Hd → Prop} {F : Hw → Hw} {G : Dd → Dd} (S : Sp2 E E' F G) (hE : ∀ h, E h → E' h) (c : Prop) [Decidable c] : Sp2 E E' (fun P => if c then F P else P) (fun d => if c then G d else d) := S.ite hE (fun _ => c)
theorem Sp2.ue {E E' : Hd → Prop} (x : Hd → Int) (g : Int → Hd → Hd) (hE : ∀ v h, E h → E' (g v h)) : Sp2 E E' (fun P => ⟨ueM f N (x P.h) P.k, g (ueV f N (x P.h) P.k) P.h⟩) (fun d => ⟨uS f N d.t, g (uV f N d.t) d.h⟩) := by
 refine ⟨fun P h => ue_stop f N h _, fun d h => ?_, fun a h e => ?_⟩
 ·show (uS f N d.t).bad = true
  rw [uS_bad f N h]; exact h
 ·obtain ⟨e1, e2, e3, e4⟩ := ue_good f N a (x h)
  exact ⟨Rl.of_num e1 e3 (by show g (ueV f N (x h) (.rd a false false)) h = g (uV f N ⟨a, false⟩) h; rw [e2, e4]), fun _ _ => hE _ _ e⟩
theorem Sp2.se {E E' : Hd → Prop} (x : Hd → Int) (g : Int → Hd → Hd) (hE : ∀ v h, E h → E' (g v h)) : Sp2 E E' (fun P => ⟨seM f N (x P.h) P.k, g (seV f N (x P.h) P.k) P.h⟩) (fun d => ⟨uS f N d.t, g (sV f N d.t) d.h⟩) := by
 refine ⟨fun P h => se_stop f N h _, fun d h => ?_, fun a h e => ?_⟩
 ·show (uS f N d.t).bad = true
  rw [uS_bad f N h]; exact h
 ·obtain ⟨e1, e2, e4⟩ := se_good f N a (x h)
  obtain ⟨_, _, e3, _⟩ := ue_good f N a (x h)
  exact ⟨Rl.of_num e1 e3 (by show g (seV f N (x h) (.rd a false false)) h = g (sV f N ⟨a, false⟩) h; rw [e2, e4]), fun _ _ => hE _ _ e⟩
theorem Sp2.fx {E E' : Hd → Prop} (n : Int) (x : Hd → Int) (g : Int → Hd → Hd) (hE : ∀ v h, E h → E' (g v h)) : Sp2 E E' (fun P => ⟨fxM f N n (x P.h) P.k, g (fxV f N n (x P.h) P.k) P.h⟩) (fun d => ⟨bS f N n d.t, g (bV f N n d.t) d.h⟩) := by
 refine ⟨fun P h => fx_stop f N h _ _, fun d h => ?_, fun a h e => ?_⟩
 ·show (bS f N n d.t).bad = true
  rw [bS_bad f N h]; exact h
 ·obtain ⟨e1, e2, e3, e4⟩ := fx_good f N a n (x h)
  exact ⟨Rl.of_num e1 e3 (by show g (fxV f N n (x h) (.rd a false false)) h = g (bV f N n ⟨a, false⟩) h; rw [e2, e4]), fun _ _ => hE _ _ e⟩
/-- which lists are still empty -/
def E0 (h : Hd) : Prop := h.m0 = [] ∧ h.m1 = [] ∧ h.w0 = [] ∧ h.w1 = [] ∧ h.ops = []
def E1 (h : Hd) : Prop := h.m1 = [] ∧ h.w0 = [] ∧ h.w1 = [] ∧ h.ops = []
def E2 (h : Hd) : Prop := h.w0 = [] ∧ h.w1 = [] ∧ h.ops = []
def E3 (h : Hd) : Prop := h.w1 = [] ∧ h.ops = []
def E4 (h : Hd) : Prop := h.ops = []
def E5 (h : Hd) : Prop := True
theorem sp_doA : Sp2 E0 E0 (fun P => alC f N (alB f N (alA f N P))) (fun d => ⟨uS f N (uS f N (uS f N d.t)), { d.h with first := uV f N d.t, count := uV f N (uS f N d.t) + 1, type := uV f N (uS f N (uS f N d.t)) }⟩) :=
 ((Sp2.ue (f := f) (N := N) (E := E0) (E' := E0) (fun h => h.first) (fun v h => { h with first := v }) (fun _ _ e => e)).comp
  (Sp2.ue (f := f) (N := N) (E' := E0) (fun h => h.count - 1) (fun v h => { h with count := v + 1 }) (fun _ _ e => e))).comp
  (Sp2.ue (f := f) (N := N) (E' := E0) (fun h => h.type) (fun v h => { h with type := v }) (fun _ _ e => e))
theorem sp_doE (s : Sp) : Sp2 E0 E0 (alE f N s) (doE f N s) := Sp2.fx (f := f) (N := N) s.fb (fun h => h.fn) (fun v h => { h with fn := v }) (fun _ _ e => e)
theorem sp_doF (key : Bool) : Sp2 E0 E0 (alF f N key) (doF f N key) := Sp2.cond (Sp2.ue (f := f) (N := N) (fun h => h.id) (fun v h => { h with id := v }) (fun _ _ e => e)) (fun _ e => e) (key = true)
theorem sp_doG (s : Sp) : Sp2 E0 E0 (alG f N s) (doG f N s) := Sp2.cond (Sp2.fx (f := f) (N := N) s.pb (fun h => h.poc) (fun v h => { h with poc := v }) (fun _ _ e => e)) (fun _ e => e) (s.pt = 0)
theorem sp_reA : Sp2 E0 E0 (liA f N) (reA f N) := Sp2.ite (Sp2.fx (f := f) (N := N) 1 (fun h => bit01 h.spatial) (fun v h => { h with spatial := v == 1 }) (fun _ _ e => e)) (fun _ e => e) (fun h => h.type = 1)
theorem sp_reB : Sp2 E0 E0 (liB f N) (reB f N) := Sp2.ite (Sp2.ue (f := f) (N := N) (fun h => h.a0 - 1) (fun v h => { h with a0 := v + 1 }) (fun _ _ e => e)) (fun _ e => e) (fun h => h.type ≠ 2)
theorem sp_reC : Sp2 E0 E0 (liC f N) (reC f N) := Sp2.ite (Sp2.ue (f := f) (N := N) (fun h => h.a1 - 1) (fun v h => { h with a1 := v + 1 }) (fun _ _ e => e)) (fun _ e => e) (fun h => h.type = 1)
theorem Rl.of3 {k : Wk} {t : St} {fine : Bool} {h1 h2 : Hd} (h : St3 k t fine) (hv : k.stop = false → h1 = h2) : Rl ⟨k, h1⟩ ⟨t, h2⟩ fine := by
 rcases h with ⟨⟨a, rfl, rfl⟩ | ⟨a, rfl, hb⟩, rfl⟩ | ⟨a, rfl, rfl⟩
 ·rw [hv rfl]
  exact Rl.good a h2
 ·exact Rl.bad rfl hb
 ·exact Rl.many rfl
theorem sp_m0 : Sp3 E0 E1 (liE f N) (reE f N) := by
 refine ⟨fun P h => ?_, fun d h => ?_, fun a h e => ?_⟩
 ·unfold liE
  split
  ·exact rw_stop f N _ _ h _
  ·rfl
 ·unfold reE
  split
  ·rw [mds_bad f N h]; exact ⟨h, rfl⟩
  ·exact ⟨h, rfl⟩
 ·unfold liE reE
  (try dsimp only)
  split
  ·obtain ⟨q1, q2⟩ := St1.mds (f := f) (N := N) (k := .rd a false false) (t := ⟨a, false⟩) (.inl ⟨a, rfl, rfl⟩)
   rw [e.1]
   exact ⟨Rl.of3 q1 (fun hq => by rw [q2 hq]), fun _ _ => ⟨e.2.1, e.2.2.1, e.2.2.2.1, e.2.2.2.2⟩⟩
  ·exact ⟨Rl.good a h, fun _ _ => ⟨e.2.1, e.2.2.1, e.2.2.2.1, e.2.2.2.2⟩⟩
theorem sp_m1 : Sp3 E1 E2 (liF f N) (fun d => reF f N (d, true)) := by
 refine ⟨fun P h => ?_, fun d h => ?_, fun a h e => ?_⟩
 ·unfold liF
  split
  ·exact rw_stop f N _ _ h _
  ·rfl
 ·unfold reF
  (try dsimp only)
  split
  ·rw [mds_bad f N h]; exact ⟨h, rfl⟩
  ·exact ⟨h, rfl⟩
 ·unfold liF reF
  (try dsimp only)
  by_cases hc : h.type = 1
  ·rw [if_pos hc, if_pos ⟨hc, rfl⟩]
   obtain ⟨q1, q2⟩ := St1.mds (f := f) (N := N) (k := .rd a false false) (t := ⟨a, false⟩) (.inl ⟨a, rfl, rfl⟩)
   rw [e.1]
   exact ⟨Rl.of3 q1 (fun hq => by rw [q2 hq]), fun _ _ => ⟨e.2.1, e.2.2.1, e.2.2.2⟩⟩
  ·rw [if_neg hc, if_neg (fun q => hc q.1)]
   exact ⟨Rl.good a h, fun _ _ => ⟨e.2.1, e.2.2.1, e.2.2.2⟩⟩
theorem reF_if (e : Dd × Bool) : reF f N e = if e.2 = true then reF f N (e.1, true) else e := by
 obtain ⟨d, fine⟩ := e
 cases fine
 ·rw [if_neg (by simp)]
  unfold reF
  rw [if_neg (fun q => by cases q.2)]
 ·rw [if_pos rfl]
theorem Rl.of1 {k : Wk} {t : St} {h1 h2 : Hd} (h : St1 k t) (hv : k.stop = false → h1 = h2) : Rl ⟨k, h1⟩ ⟨t, h2⟩ true := Rl.of3 (.inl ⟨h, rfl⟩) hv
theorem ws_read (l : List Wt) (hl : l = []) (m : Int) (a : Nat) : wtL l m (.rd a false false) = List.replicate m.toNat Wt.zero := by
 subst hl
 unfold wtL
 show (if (!false && decide (0 < m)) = true then _ else _) = _
 rw [Bool.not_false, Bool.true_and]
 by_cases h : 0 < m
 ·rw [if_pos (by simpa using h)]
 ·rw [if_neg (by simpa using h), show m.toNat = 0 by omega]
  rfl
theorem sp_wt {a : Nat} (m : Int) : St1 (itM (wtM f N) (List.replicate m.toNat Wt.zero) (.rd a false false)) (wtG f N m.toNat ⟨a, false⟩).2 ∧ ((itM (wtM f N) (List.replicate m.toNat Wt.zero) (.rd a false false)).stop = false → itV (wtM f N) (wtV f N) (List.replicate m.toNat Wt.zero) (.rd a false false) = (wtG f N m.toNat ⟨a, false⟩).1) :=
 St1.it (S := wtS f N) (X := wtX f N) (v := wtV f N) (fun k hk x => wt_stop hk x) (fun k t h => h.wt) m.toNat _ _ (.inl ⟨a, rfl, rfl⟩)
theorem wtL_stop {k : Wk} (h : k.stop = true) (l : List Wt) (m : Int) : wsM f N l m k = k := it_stop (wtM f N) h (fun x => wt_stop h x) _
theorem sp_reI : Sp2 E2 E3 (liI f N) (reI f N) := by
 refine ⟨fun P h => wtL_stop h _ _, fun d h => ?_, fun a h e => ?_⟩
 ·show (wtG f N d.h.a0.toNat d.t).2.bad = true
  unfold wtG
  rw [it_bad _ _ h]; exact h
 ·unfold liI reI wsM wsV
  (try dsimp only)
  rw [ws_read _ e.1]
  obtain ⟨q1, q2⟩ := sp_wt (f := f) (N := N) (a := a) h.a0
  exact ⟨Rl.of1 q1 (fun hq => by rw [q2 hq]), fun _ _ => e.2⟩
theorem sp_reJ : Sp2 E3 E4 (liJ f N) (reJ f N) := by
 refine ⟨fun P h => wtL_stop h _ _, fun d h => ?_, fun a h e => ?_⟩
 ·show (wtG f N d.h.a1.toNat d.t).2.bad = true
  unfold wtG
  rw [it_bad _ _ h]; exact h
 ·unfold liJ reJ wsM wsV
  (try dsimp only)
  rw [ws_read _ e.1]
  obtain ⟨q1, q2⟩ := sp_wt (f := f) (N := N) (a := a) h.a1
  exact ⟨Rl.of1 q1 (fun hq => by rw [q2 hq]), fun _ _ => e.2⟩
theorem sp_reL : Sp2 E2 E2 (fun P => liH f N (liG f N P)) (reL f N) :=
 (Sp2.ue (f := f) (N := N) (E := E2) (E' := E2) (fun h => h.log) (fun v h => { h with log := v }) (fun _ _ e => e)).comp
  (Sp2.ue (f := f) (N := N) (E' := E2) (fun h => h.logC) (fun v h => { h with logC := v }) (fun _ _ e => e))
theorem sp_reW (p : Pp) : Sp3 E2 E4 (liW f N p) (fun d => reW f N p (d, true)) := by
 have S := (sp_reL (f := f) (N := N)).comp ((sp_reI (f := f) (N := N)).comp (sp_reJ (f := f) (N := N)))
 refine ⟨fun P h => ?_, fun d h => ?_, fun a h e => ?_⟩
 ·unfold liW
  rw [h]
  simp
 ·unfold reW
  (try dsimp only)
  rw [h]
  simp [h]
 ·unfold liW reW
  (try dsimp only)
  show R2 E4 (if (wgt h.type p && !(false || false)) = true then _ else _) (if (true && !false && wgt h.type p) = true then _ else (_ : Dd × Bool)).1 (if (true && !false && wgt h.type p) = true then _ else (_ : Dd × Bool)).2
  simp only [Bool.or_false, Bool.not_false, Bool.and_true, Bool.true_and]
  split
  ·exact S.good a h e
  ·exact ⟨Rl.good a h, fun _ _ => e.2.2⟩
theorem reW_if (p : Pp) (e : Dd × Bool) : reW f N p e = if e.2 = true then reW f N p (e.1, true) else e := by
 obtain ⟨d, fine⟩ := e
 cases fine
 ·rw [if_neg (by simp)]
  unfold reW
  rw [if_neg (by simp)]
 ·rw [if_pos rfl]
theorem sp_reK : Sp2 E4 E5 (alK f N) (reK f N) := Sp2.fx (f := f) (N := N) 1 (fun h => bit01 h.longKey) (fun v h => { h with longKey := v == 1 }) (fun _ _ _ => trivial)
theorem sp_reO : Sp3 E4 E5 (alO f N) (reO f N) := by
 refine ⟨fun P h => rw_stop f N _ _ h _, fun d h => ?_, fun a h e => ?_⟩
 ·unfold reO
  rw [uV_bad f N h, if_neg (by omega), uS_bad f N h, mo_bad f N h]
  exact ⟨h, rfl⟩
 ·refine ⟨?_, fun _ _ => trivial⟩
  obtain ⟨q1, q2⟩ := St1.rw_ (f := f) (N := N) (m := moM f N) (v := moV f N) (z := Mo.zero) (k := .rd a false false) (t := ⟨a, false⟩) (.inl ⟨a, rfl, rfl⟩) (fun k hk x => mo_stop hk x) (moG f N) (fun n k t h => St1.mos n k t h)
  have e' : h.ops = [] := e
  unfold alO reO
  (try dsimp only)
  rw [e']
  by_cases hc : 16 < uV f N ⟨a, false⟩
  ·rw [if_pos hc] at q1 q2 ⊢
   refine Rl.of3 q1 (fun hq => ?_)
   rw [q2 hq]
   cases h
   subst e'
   rfl
  ·rw [if_neg hc] at q1 q2 ⊢
   exact Rl.of3 q1 (fun hq => by rw [q2 hq])
theorem sp_reH (ref : Int) (key : Bool) : Sp3 E4 E5 (alH f N ref key) (fun d => reH f N ref key (d, true)) := by
 have SK := sp_reK (f := f) (N := N)
 have SO := sp_reO (f := f) (N := N)
 by_cases hr : 0 < ref
 ·cases key
  ·have e1 : alH f N ref false = alO f N := by funext t; unfold alH; rw [if_pos hr, if_neg (by simp)]
   have e2 : (fun d => reH f N ref false (d, true)) = reO f N := by funext d; unfold reH reM; rw [if_pos (by simpa using hr), if_neg (by simp)]
   rw [e1, e2]
   exact SO
  ·have e1 : alH f N ref true = alK f N := by funext t; unfold alH; rw [if_pos hr, if_pos rfl]
   have e2 : (fun d => reH f N ref true (d, true)) = fun d => (reK f N d, true) := by funext d; unfold reH reM; rw [if_pos (by simpa using hr), if_pos rfl]
   rw [e1, e2]
   exact ⟨SK.stop, fun d h => ⟨SK.bad d h, rfl⟩, SK.good⟩
 ·have e1 : alH f N ref key = fun t => t := by funext t; unfold alH; rw [if_neg hr]
  have e2 : (fun d => reH f N ref key (d, true)) = fun d => (d, true) := by funext d; unfold reH; rw [if_neg (by simpa using hr)]
  rw [e1, e2]
  exact ⟨fun _ _ => rfl, fun _ h => ⟨h, rfl⟩, fun a h _ => ⟨Rl.good a h, fun _ _ => trivial⟩⟩
theorem reH_if (ref : Int) (key : Bool) (e : Dd × Bool) : reH f N ref key e = if e.2 = true then reH f N ref key (e.1, true) else e := by
 obtain ⟨d, fine⟩ := e
 cases fine
 ·rw [if_neg (by simp)]
  unfold reH
  rw [if_neg (by simp)]
 ·rw [if_pos rfl]
theorem sp_reQ : Sp2 E5 E5 (alQ f N) (reQ f N) := Sp2.ue (f := f) (N := N) (fun h => h.qp) (fun v h => { h with qp := v }) (fun _ _ e => e)
theorem sp_reZ : Sp2 E5 E5 (alX f N) (reZ f N) := Sp2.fx (f := f) (N := N) 1 (fun h => bit01 h.off) (fun v h => { h with off := v == 1 }) (fun _ _ e => e)
theorem sp_reY : Sp2 E5 E5 (alV f N) (reY f N) := by
 have S := (Sp2.se (f := f) (N := N) (E := E5) (E' := E5) (fun h => h.a) (fun v h => { h with a := v }) (fun _ _ e => e)).comp
  (Sp2.se (f := f) (N := N) (E' := E5) (fun h => h.b) (fun v h => { h with b := v }) (fun _ _ e => e))
 have T := S.ite (fun _ e => e) (fun h => ¬ h.off = true)
 have e1 : alV f N = fun P => if ¬ P.h.off = true then alZ f N (alY f N P) else P := by
  funext P
  unfold alV
  by_cases h : P.h.off = true
  ·rw [if_pos h, if_neg (fun q => q h)]
  ·rw [if_neg h, if_pos h]
 have e2 : reY f N = fun d => if ¬ d.h.off = true then ⟨uS f N (uS f N d.t), { d.h with a := sV f N d.t, b := sV f N (uS f N d.t) }⟩ else d := by
  funext d
  unfold reY
  by_cases h : d.h.off = true
  ·rw [if_pos h, if_neg (fun q => q h)]
  ·rw [if_neg h, if_pos h]
 rw [e1, e2]
 exact T
theorem sp_reD (p : Pp) : Sp2 E5 E5 (alI f N p) (reD f N p) := (sp_reZ.comp sp_reY).cond (fun _ e => e) (p.deb = true)
-- the program's walk behind a stop
theorem liS_stop (p : Pp) {P : Hw} (h : P.k.stop = true) : (liW f N p (liF f N (liE f N P))).k = P.k := by
 have h1 := (sp_m0 (f := f) (N := N)).stop P h
 have h2 := (sp_m1 (f := f) (N := N)).stop (liE f N P) (by rw [h1]; exact h)
 have h3 := (sp_reW (f := f) (N := N) p).stop (liF f N (liE f N P)) (by rw [h2, h1]; exact h)
 rw [h3, h2, h1]
theorem end_stop (p : Pp) (ref : Int) (key : Bool) {P : Hw} (h : P.k.stop = true) : (alI f N p (alQ f N (alH f N ref key P))).k = P.k := by
 have h1 := (sp_reH (f := f) (N := N) ref key).stop P h
 have h2 := (sp_reQ (f := f) (N := N)).stop _ (by rw [h1]; exact h)
 have h3 := (sp_reD (f := f) (N := N) p).stop _ (by rw [h2, h1]; exact h)
 rw [h3, h2, h1]
/-- what the program's walk comes to, told by the document's answer -/
def Same (s : Sp) (p : Pp) (ref : Int) (key : Bool) (P : Hw) (r : Hd × Int × St) : Prop :=
 (∃ a, P.k = .rd a false false ∧ r = (P.h, 0, ⟨a, false⟩)) ∨ (∃ a, P.k = .rd a true false ∧ r.2.1 = 400) ∨ (∃ a, P.k = .rd a false true ∧ r.2.1 = 401)
theorem same_rest (s : Sp) (p : Pp) (ref : Int) (key : Bool) {P : Hw} {d : Dd} (H : R2 E0 P d true) : Same s p ref key (alI f N p (alQ f N (alH f N ref key (liS f N p P)))) (rest f N p ref key d) := by
 have H3 := (sp_reC (f := f) (N := N)).go ((sp_reB (f := f) (N := N)).go ((sp_reA (f := f) (N := N)).go H))
 unfold liS rest
 obtain ⟨P3, hP3⟩ : ∃ P3, liC f N (liB f N (liA f N P)) = P3 := ⟨_, rfl⟩
 obtain ⟨d3, hd3⟩ : ∃ d3, reC f N (reB f N (reA f N d)) = d3 := ⟨_, rfl⟩
 rw [hP3, hd3] at H3
 rw [hP3, hd3]
 have far : ∀ (Q : Hw) (a : Nat) (hD : Hd), Q.k = .rd a false true → Same s p ref key (alI f N p (alQ f N (alH f N ref key (liW f N p (liF f N (liE f N Q)))))) (d3.h, 401, d3.t) := fun Q a hD hQ => by
  have hs : Q.k.stop = true := by rw [hQ]; rfl
  have e1 := liS_stop (f := f) (N := N) p hs
  have e2 := end_stop (f := f) (N := N) p ref key (P := liW f N p (liF f N (liE f N Q))) (by rw [e1]; exact hs)
  exact .inr (.inr ⟨a, by rw [e2, e1, hQ], rfl⟩)
 by_cases hx : reX d3 = true
 ·rw [if_pos hx]
  obtain ⟨H3, _⟩ := H3
  rcases H3 with ⟨a, h1, h2, h3⟩ | ⟨a, h1, h2, h3⟩ | ⟨a, h1, h3⟩
  ·refine far _ a P3.h ?_
   unfold liD
   rw [h1]
   subst h2
   have : (decide (P3.h.a0 ≤ 8) && decide (P3.h.a1 ≤ 8)) = false := by
    unfold reX at hx
    simp at hx ⊢
    omega
   (try dsimp only)
   rw [this]
   rfl
  ·unfold reX at hx
   rw [h2] at hx
   cases hx
  ·cases h3
 ·rw [if_neg hx]
  have H4 : R2 E0 (liD P3) d3 true := by
   obtain ⟨H3, hE⟩ := H3
   refine ⟨?_, hE⟩
   rcases H3 with ⟨a, h1, h2, h3⟩ | ⟨a, h1, h2, h3⟩ | ⟨a, h1, h3⟩
   ·refine .inl ⟨a, ?_, h2, rfl⟩
    unfold liD
    rw [h1]
    have : (decide (P3.h.a0 ≤ 8) && decide (P3.h.a1 ≤ 8)) = true := by
     subst h2
     unfold reX at hx
     simp at hx ⊢
     omega
    (try dsimp only)
    rw [this]
    rfl
   ·refine Rl.bad (a := a) ?_ h2
    unfold liD
    rw [h1]
    exact ck_stop (k := .rd a true false) rfl _
   ·cases h3
  have H5 := (sp_m0 (f := f) (N := N)).go H4
  have H6 := (sp_m1 (f := f) (N := N)).go2 H5
  rw [← reF_if] at H6
  have H7 := (sp_reW (f := f) (N := N) p).go2 H6
  rw [← reW_if] at H7
  have H8 := (sp_reH (f := f) (N := N) ref key).go2 H7
  rw [← reH_if] at H8
  unfold rest2
  obtain ⟨Q, hQ⟩ : ∃ Q, alH f N ref key (liW f N p (liF f N (liE f N (liD P3)))) = Q := ⟨_, rfl⟩
  obtain ⟨e, he⟩ : ∃ e, reH f N ref key (reW f N p (reF f N (reE f N d3))) = e := ⟨_, rfl⟩
  rw [hQ, he] at H8
  rw [hQ, he]
  unfold out
  cases hf : e.2
  ·rw [if_pos rfl]
   rw [hf] at H8
   rcases H8.1 with ⟨a, h1, h2, h3⟩ | ⟨a, h1, h2, h3⟩ | ⟨a, h1, h3⟩
   ·cases h3
   ·cases h3
   ·have hs : Q.k.stop = true := by rw [h1]; rfl
    have e1 := (sp_reQ (f := f) (N := N)).stop _ hs
    have e2 := (sp_reD (f := f) (N := N) p).stop _ (by rw [e1]; exact hs)
    exact .inr (.inr ⟨a, by rw [e2, e1, h1], rfl⟩)
  ·rw [if_neg (by simp)]
   rw [hf] at H8
   have H9 := (sp_reD (f := f) (N := N) p).go ((sp_reQ (f := f) (N := N)).go H8)
   unfold fin
   rcases H9.1 with ⟨a, h1, h2, h3⟩ | ⟨a, h1, h2, h3⟩ | ⟨a, h1, h3⟩
   ·refine .inl ⟨a, h1, ?_⟩
    rw [h2]
    rfl
   ·refine .inr (.inl ⟨a, h1, ?_⟩)
    rw [h2]
    rfl
   ·cases h3
theorem same_get (s : Sp) (p : Pp) (ref : Int) (key : Bool) (a : Nat) : Same s p ref key (alS f N s p ref key ⟨.rd a false false, Hd.zero⟩) (doGet f N s p ref key ⟨a, false⟩) := by
 have H0 : R2 E0 ⟨.rd a false false, Hd.zero⟩ ⟨⟨a, false⟩, Hd.zero⟩ true := ⟨Rl.good a _, fun _ _ => ⟨rfl, rfl, rfl, rfl, rfl⟩⟩
 have H1 := (sp_doA (f := f) (N := N)).go H0
 unfold alS al1 doGet
 obtain ⟨P1, hP1⟩ : ∃ P1, alC f N (alB f N (alA f N ⟨.rd a false false, Hd.zero⟩)) = P1 := ⟨_, rfl⟩
 have hd1 : doA f N ⟨a, false⟩ = ⟨uS f N (uS f N (uS f N ⟨a, false⟩)), { Hd.zero with first := uV f N ⟨a, false⟩, count := uV f N (uS f N ⟨a, false⟩) + 1, type := uV f N (uS f N (uS f N ⟨a, false⟩)) }⟩ := rfl
 have hT : 0 ≤ (doA f N ⟨a, false⟩).h.type := by
  show 0 ≤ uV f N (uS f N (uS f N ⟨a, false⟩))
  unfold uV dX ueX
  split
  ·exact Int.le_refl _
  ·exact ueR_ge _
 rw [← hd1] at H1
 obtain ⟨d1, hd1'⟩ : ∃ d1, doA f N ⟨a, false⟩ = d1 := ⟨_, rfl⟩
 rw [hP1, hd1'] at H1
 rw [hd1'] at hT
 rw [hP1, hd1']
 clear hd1 hd1' hP1
 by_cases hx : (!d1.t.bad && decide (2 < d1.h.type)) = true
 ·rw [if_pos hx]
  rcases H1.1 with ⟨b, h1, h2, h3⟩ | ⟨b, h1, h2, h3⟩ | ⟨b, h1, h3⟩
  ·have hD : (alD P1).k = .rd b false true := by
    unfold alD
    rw [h1]
    have : inR 0 2 P1.h.type = false := by
     subst h2
     simp at hx
     unfold inR
     simp
     omega
    (try dsimp only)
    rw [this]
    rfl
   have hs : (alD P1).k.stop = true := by rw [hD]; rfl
   have e1 := (sp_doE (f := f) (N := N) s).stop _ hs
   have e2 := (sp_doF (f := f) (N := N) key).stop _ (by rw [e1]; exact hs)
   have e3 := (sp_doG (f := f) (N := N) s).stop _ (by rw [e2, e1]; exact hs)
   have e4 := (sp_reA (f := f) (N := N)).stop _ (by rw [e3, e2, e1]; exact hs)
   have e5 := (sp_reB (f := f) (N := N)).stop _ (by rw [e4, e3, e2, e1]; exact hs)
   have e6 := (sp_reC (f := f) (N := N)).stop _ (by rw [e5, e4, e3, e2, e1]; exact hs)
   obtain ⟨Q, hQ⟩ : ∃ Q, liC f N (liB f N (liA f N (alG f N s (alF f N key (alE f N s (alD P1)))))) = Q := ⟨_, rfl⟩
   have hq : Q.k = .rd b false true := by rw [← hQ, e6, e5, e4, e3, e2, e1, hD]
   have e7 : (liD Q).k = .rd b false true := by unfold liD; rw [hq]; exact ck_stop (k := .rd b false true) rfl _
   have hs7 : (liD Q).k.stop = true := by rw [e7]; rfl
   have e8 := liS_stop (f := f) (N := N) p hs7
   have e9 := end_stop (f := f) (N := N) p ref key (P := liW f N p (liF f N (liE f N (liD Q)))) (by rw [e8]; exact hs7)
   refine .inr (.inr ⟨b, ?_, rfl⟩)
   unfold liS
   rw [hQ, e9, e8, e7]
  ·rw [h2] at hx
   cases hx
  ·cases h3
 ·rw [if_neg hx]
  refine same_rest s p ref key ((sp_doG (f := f) (N := N) s).go ((sp_doF (f := f) (N := N) key).go ((sp_doE (f := f) (N := N) s).go ?_)))
  obtain ⟨H1, hE⟩ := H1
  refine ⟨?_, hE⟩
  rcases H1 with ⟨b, h1, h2, h3⟩ | ⟨b, h1, h2, h3⟩ | ⟨b, h1, h3⟩
  ·refine .inl ⟨b, ?_, h2, rfl⟩
   unfold alD
   rw [h1]
   have : inR 0 2 P1.h.type = true := by
    subst h2
    simp at hx
    dsimp only at hT
    exact inR_iff.2 ⟨hT, hx⟩
   (try dsimp only)
   rw [this]
   rfl
  ·refine Rl.bad (a := b) ?_ h2
   unfold alD
   rw [h1]
   exact ck_stop (k := .rd b true false) rfl _
  ·cases h3
/-- the document's Get is the program's -/
theorem getHd_same (s : Sp) (p : Pp) (ref : Int) (key : Bool) (a : Nat) : getHd2 f N s p ref key a = getHd f N s p ref key a := by
 have H := same_get (f := f) (N := N) s p ref key a
 unfold getHd2 getHd
 split
 ·obtain ⟨P, hP⟩ : ∃ P, alS f N s p ref key ⟨.rd a false false, Hd.zero⟩ = P := ⟨_, rfl⟩
  obtain ⟨r, hr⟩ : ∃ r, doGet f N s p ref key ⟨a, false⟩ = r := ⟨_, rfl⟩
  rw [hP, hr] at H
  rw [hP, hr]
  rcases H with ⟨b, h1, h2⟩ | ⟨b, h1, h2⟩ | ⟨b, h1, h2⟩
  ·rw [h1]
   subst h2
   (try dsimp only)
   cases hm : mayHd P.h s p ref key <;> simp
  ·rw [h1]
   (try dsimp only)
   rw [h2]
   simp
  ·rw [h1]
   (try dsimp only)
   rw [h2]
   simp
 ·rfl
end
end Go.Proofs.YtjokibagciehlaaGreat

namespace Go.Proofs.YtjokibagciehlaaGreat
open Go.RowKit
set_option linter.unusedVariables false
set_option linter.unusedSimpArgs false

/-- numbers that may be written stay such -/
def Nums (w w' : World) : Prop := ∀ p x, w.cell? p = some (.int .i64 x) → w.frozen? p = false → ∃ y, w'.cell? p = some (.int .i64 y) ∧ w'.frozen? p = false
theorem Nums.refl (w : World) : Nums w w := fun p x h1 h2 => ⟨x, h1, h2⟩
theorem Nums.trans {a b c : World} (h : Nums a b) (k : Nums b c) : Nums a c := fun p x h1 h2 => by
 obtain ⟨y, h3, h4⟩ := h p x h1 h2
 exact k p y h3 h4
theorem Nums.put {a w : World} (h : Nums a w) {q : Addr} {z : Int} (hz : w.cell? q = some (.int .i64 z)) (y : Int) : Nums a (w.setCell q (.int .i64 y)) := h.trans fun p x h1 h2 => by
 by_cases e : p = q
 ·subst e
  exact ⟨y, World.cell?_setCell_same _ _ _ hz, by rw [World.frozen?_setCell]; exact h2⟩
 ·exact ⟨x, (World.cell?_setCell_other _ _ _ _ (fun h => e h.symm)).trans h1, by rw [World.frozen?_setCell]; exact h2⟩
/-- the numbers of a row of structs, each at place i of C cells -/
def SpG (w : World) (g C i n : Nat) : Prop := ∀ j, j < n → ∃ x, w.cell? ⟨g, j * C + i, none⟩ = some (.int .i64 x) ∧ w.frozen? ⟨g, j * C + i, none⟩ = false
theorem SpG.go {w w' : World} {g C i n : Nat} (h : SpG w g C i n) (k : Nums w w') : SpG w' g C i n := fun j hj => by
 obtain ⟨x, h1, h2⟩ := h j hj
 exact k _ x h1 h2

set_option maxRecDepth 100000 in
set_option maxHeartbeats 3200000 in
theorem spmods (A : Option Addr) (n c : Nat) (w : World) (h : 0 < n → ∃ g, A = some ⟨g, 0, none⟩ ∧ SpG w g 2 1 n) (hn : n ≤ 2147483647) :
  Calls Tryz.prog 62 #[.slice A n c] w fun e w' => e = .returned (.tuple #[]) ∧ Touch (fun k => A = some ⟨k, 0, none⟩ ∧ 0 < n) w w' ∧ Nums w w' := by
 go_enter Tryz.func62, Tryz.ntmps62
 go_wp2_with fail
 go_loopw [2] (fun i wr => ∃ k : Nat, k ≤ n ∧ i = .int .i64 k ∧ Touch (fun k => A = some ⟨k, 0, none⟩ ∧ 0 < n) w wr ∧ Nums w wr ∧ (0 < n → ∃ g, A = some ⟨g, 0, none⟩ ∧ SpG wr g 2 1 n)) (fun i _ => n - (intOf i).toNat)
 case atStart => exact ⟨0, Nat.zero_le _, rfl, Touch.refl _ _, Nums.refl _, h⟩
 case round =>
  clear h
  obtain ⟨k, hk, rfl, ht, hu, hp⟩ := hrel
  by_cases hlt : k < n
  ·obtain ⟨g, rfl, hpo⟩ := hp (by omega)
   obtain ⟨x, hx, hfr⟩ := hpo k hlt
   have HP := Lib.hid hpo
   have HT := Lib.hid ht
   have HU := Lib.hid hu
   have HC := Lib.hid hx
   clear hp hpo ht hu
   have hi0 : (0 : Int) ≤ (k : Int) := Int.natCast_nonneg _
   have hi1 : (k : Int) < (n : Int) := by omega
   go_wp2_with fail
   go_roundw
   case rel => exact ⟨k + 1, by omega, by go_num, HT.out.setCell (fun _ => ⟨rfl, by omega⟩) _, HU.out.put HC.out _, fun _ => ⟨g, rfl, HP.out.go ((Nums.refl _).put HC.out _)⟩⟩
   case measure => simp [intOf]; omega
  ·have HT := Lib.hid ht
   have HU := Lib.hid hu
   clear hp ht hu
   go_wp2_with fail
   go_end0
   exact ⟨rfl, HT.out, HU.out⟩

set_option maxRecDepth 100000 in
set_option maxHeartbeats 3200000 in
theorem spops (A : Option Addr) (n c : Nat) (w : World) (h : 0 < n → ∃ g, A = some ⟨g, 0, none⟩ ∧ SpG w g 3 1 n) (hn : n ≤ 2147483647) :
  Calls Tryz.prog 64 #[.slice A n c] w fun e w' => e = .returned (.tuple #[]) ∧ Touch (fun k => A = some ⟨k, 0, none⟩ ∧ 0 < n) w w' ∧ Nums w w' := by
 go_enter Tryz.func64, Tryz.ntmps64
 go_wp2_with fail
 go_loopw [2] (fun i wr => ∃ k : Nat, k ≤ n ∧ i = .int .i64 k ∧ Touch (fun k => A = some ⟨k, 0, none⟩ ∧ 0 < n) w wr ∧ Nums w wr ∧ (0 < n → ∃ g, A = some ⟨g, 0, none⟩ ∧ SpG wr g 3 1 n)) (fun i _ => n - (intOf i).toNat)
 case atStart => exact ⟨0, Nat.zero_le _, rfl, Touch.refl _ _, Nums.refl _, h⟩
 case round =>
  clear h
  obtain ⟨k, hk, rfl, ht, hu, hp⟩ := hrel
  by_cases hlt : k < n
  ·obtain ⟨g, rfl, hpo⟩ := hp (by omega)
   obtain ⟨x, hx, hfr⟩ := hpo k hlt
   have HP := Lib.hid hpo
   have HT := Lib.hid ht
   have HU := Lib.hid hu
   have HC := Lib.hid hx
   clear hp hpo ht hu
   have hi0 : (0 : Int) ≤ (k : Int) := Int.natCast_nonneg _
   have hi1 : (k : Int) < (n : Int) := by omega
   go_wp2_with fail
   go_roundw
   case rel => exact ⟨k + 1, by omega, by go_num, HT.out.setCell (fun _ => ⟨rfl, by omega⟩) _, HU.out.put HC.out _, fun _ => ⟨g, rfl, HP.out.go ((Nums.refl _).put HC.out _)⟩⟩
   case measure => simp [intOf]; omega
  ·have HT := Lib.hid ht
   have HU := Lib.hid hu
   clear hp ht hu
   go_wp2_with fail
   go_end0
   exact ⟨rfl, HT.out, HU.out⟩

set_option maxRecDepth 100000 in
set_option maxHeartbeats 3200000 in
theorem spwts (A : Option Addr) (n c : Nat) (w : World) (h : 0 < n → ∃ g, A = some ⟨g, 0, none⟩ ∧ SpG w g 6 3 n) (hn : n ≤ 2147483647) :
  Calls Tryz.prog 63 #[.slice A n c] w fun e w' => e = .returned (.tuple #[]) ∧ Touch (fun k => A = some ⟨k, 0, none⟩ ∧ 0 < n) w w' ∧ Nums w w' := by
 go_enter Tryz.func63, Tryz.ntmps63
 go_wp2_with fail
 go_loopw [2] (fun i wr => ∃ k : Nat, k ≤ n ∧ i = .int .i64 k ∧ Touch (fun k => A = some ⟨k, 0, none⟩ ∧ 0 < n) w wr ∧ Nums w wr ∧ (0 < n → ∃ g, A = some ⟨g, 0, none⟩ ∧ SpG wr g 6 3 n)) (fun i _ => n - (intOf i).toNat)
 case atStart => exact ⟨0, Nat.zero_le _, rfl, Touch.refl _ _, Nums.refl _, h⟩
 case round =>
  clear h
  obtain ⟨k, hk, rfl, ht, hu, hp⟩ := hrel
  by_cases hlt : k < n
  ·obtain ⟨g, rfl, hpo⟩ := hp (by omega)
   obtain ⟨x, hx, hfr⟩ := hpo k hlt
   have HP := Lib.hid hpo
   have HT := Lib.hid ht
   have HU := Lib.hid hu
   have HC := Lib.hid hx
   clear hp hpo ht hu
   have hi0 : (0 : Int) ≤ (k : Int) := Int.natCast_nonneg _
   have hi1 : (k : Int) < (n : Int) := by omega
   go_upto_region 3 with fail
   go_big_region
   go_wp2_with fail
   go_roundw
   case rel => exact ⟨k + 1, by omega, by go_num, (HT.out.setCell (p := ⟨g, k * 6 + 3, none⟩) (fun _ => ⟨rfl, by omega⟩) _).drew, HU.out.put HC.out _, fun _ => ⟨g, rfl, HP.out.go ((Nums.refl _).put HC.out _)⟩⟩
   case measure => simp [intOf]; omega
  ·have HT := Lib.hid ht
   have HU := Lib.hid hu
   clear hp ht hu
   go_wp2_with fail
   go_end0
   exact ⟨rfl, HT.out, HU.out⟩

/-- a row of such numbers, in a block from lo to hi -/
def SpR (w : World) (lo hi : Nat) (A : Option Addr) (C i n : Nat) : Prop := 0 < n → ∃ g, A = some ⟨g, 0, none⟩ ∧ lo ≤ g ∧ g < hi ∧ SpG w g C i n
theorem SpR.go {w w' : World} {lo hi C i n : Nat} {A : Option Addr} (h : SpR w lo hi A C i n) (k : Nums w w') : SpR w' lo hi A C i n := fun hn => by
 obtain ⟨g, h1, h2, h3, h4⟩ := h hn
 exact ⟨g, h1, h2, h3, h4.go k⟩
structure SpHd (w : World) (lo hi : Nat) (h : Hd) (q : Ha) : Prop where
 m0 : SpR w lo hi q.m0 2 1 h.m0.length
 m1 : SpR w lo hi q.m1 2 1 h.m1.length
 w0 : SpR w lo hi q.w0 6 3 h.w0.length
 w1 : SpR w lo hi q.w1 6 3 h.w1.length
 ops : SpR w lo hi q.ops 3 1 h.ops.length
 len : h.m0.length ≤ 2147483647 ∧ h.m1.length ≤ 2147483647 ∧ h.w0.length ≤ 2147483647 ∧ h.w1.length ≤ 2147483647 ∧ h.ops.length ≤ 2147483647
theorem SpHd.go {w w' : World} {lo hi : Nat} {h : Hd} {q : Ha} (H : SpHd w lo hi h q) (k : Nums w w') : SpHd w' lo hi h q := ⟨H.m0.go k, H.m1.go k, H.w0.go k, H.w1.go k, H.ops.go k, H.len⟩
theorem Nums.below {w w' : World} (hb : Below w.heap.size w w') : Nums w w' := fun p x h1 h2 => by
 have hl : p.block < w.heap.size := by
  rcases Nat.lt_or_ge p.block w.heap.size with h | h
  ·exact h
  ·unfold World.cell? at h1
   rw [Array.getElem?_eq_none h] at h1
   cases h1
 exact ⟨x, (hb.cell hl).trans h1, (hb.frozen hl).trans h2⟩
/-- a row that lies in a block of the header's call: its numbers -/
theorem RowNew.sp {α : Type} {w0 w : World} {T : TypeId} {A : Option Addr} {C : Nat} {f : α → Nat → Value} {l : List α} {hi i : Nat} (H : RowNew w0 w T A C f l) (hh : w.heap.size ≤ hi) (hi' : i < C) (hf : ∀ x : α, ∃ y, f x i = .int .i64 y) : SpR w w0.heap.size hi A C i l.length := fun hn => by
 rcases H with ⟨e, _⟩ | ⟨Br, cs, e, h1, h2, h3⟩
 ·subst e; simp at hn
 ·refine ⟨Br, e, h1, Nat.lt_of_lt_of_le h2.lt hh, fun j hj => ?_⟩
  obtain ⟨y, hy⟩ := hf l[j]
  exact ⟨y, (h2.cell _).trans ((h3.2 j hj i hi').trans (by rw [hy])), h2.frozen _⟩
theorem RwsR.sp {w0 w : World} {h : Hd} {q : Ha} {n hi : Nat} (H : RwsR w0 w h.ls q n) (hh : w.heap.size ≤ hi) : SpHd w w0.heap.size hi h q :=
 ⟨H.m0.sp hh (by omega) (fun x => ⟨_, rfl⟩), H.m1.sp hh (by omega) (fun x => ⟨_, rfl⟩), H.w0.sp hh (by omega) (fun x => ⟨_, rfl⟩), H.w1.sp hh (by omega) (fun x => ⟨_, rfl⟩), H.ops.sp hh (by omega) (fun x => ⟨_, rfl⟩), H.len⟩
set_option maxRecDepth 100000 in
set_option maxHeartbeats 6400000 in
theorem spoilhd_any {w : World} {lo hi : Nat} {h : Hd} {q : Ha} (H : SpHd w lo hi h q) (hw : hi ≤ w.heap.size) :
  Calls Tryz.prog 27 #[.agg (hdV h q)] w fun e w' => e = .returned (.tuple #[]) ∧ Touch (fun k => lo ≤ k ∧ k < hi) w w' := by
 have hX : Bk (w.alloc (.cells (hdV h q) 26)) w.heap.size 26 (hdV h q) := Bk.new w _ _
 have HX := Lib.hid hX
 have hT : Touch (fun k => lo ≤ k ∧ k < hi) w (w.alloc (.cells (hdV h q) 26)) := (Touch.refl _ w).alloc _
 have HT := Lib.hid hT
 have HH := Lib.hid (H.go ((Nums.below ((Below.refl _ w).alloc (Nat.le_refl _) (.cells (hdV h q) 26)))))
 obtain ⟨w1, hw1⟩ : ∃ w1, w1 = w.alloc (.cells (hdV h q) 26) := ⟨_, rfl⟩
 rw [← hw1] at HX HT HH
 clear H hX hT
 simp only [hdV] at hw1 ⊢
 go_enter Tryz.func27, Tryz.ntmps27
 go_upto_region 1 with fail
 rw [← hw1]
 clear hw1

 have c9 := HX.out.cell 9
 simp [hdV] at c9
 have HC := Lib.hid (spmods q.m0 h.m0.length q.cm0 _ (fun hn => by obtain ⟨g, h1, _, _, h4⟩ := HH.out.m0 hn; exact ⟨g, h1, h4⟩) HH.out.len.1)
 have HS : Hid (∀ k, q.m0 = some ⟨k, 0, none⟩ → 0 < h.m0.length → lo ≤ k ∧ k < hi) := Lib.hid (fun k e hn => by obtain ⟨g, h1, h2, h3, _⟩ := HH.out.m0 hn; rw [h1] at e; injection e with e; injection e with e; omega)
 go_wp2_with fail
 refine HC.out.mono ?_
 rintro e wx ⟨rfl, ht, hu⟩
 have ht' : Touch (fun k => lo ≤ k ∧ k < hi) _ wx := ht.mono fun k _ e => HS.out k e.1 e.2
 replace HX := Lib.hid (HX.out.touch ht' (by omega))
 replace HT := Lib.hid (HT.out.trans ht')
 replace HH := Lib.hid (HH.out.go hu)
 clear ht ht' hu HC HS c9
 have c10 := HX.out.cell 10
 simp [hdV] at c10
 have HC := Lib.hid (spmods q.m1 h.m1.length q.cm1 _ (fun hn => by obtain ⟨g, h1, _, _, h4⟩ := HH.out.m1 hn; exact ⟨g, h1, h4⟩) HH.out.len.2.1)
 have HS : Hid (∀ k, q.m1 = some ⟨k, 0, none⟩ → 0 < h.m1.length → lo ≤ k ∧ k < hi) := Lib.hid (fun k e hn => by obtain ⟨g, h1, h2, h3, _⟩ := HH.out.m1 hn; rw [h1] at e; injection e with e; injection e with e; omega)
 go_wp2_with fail
 refine HC.out.mono ?_
 rintro e wx ⟨rfl, ht, hu⟩
 have ht' : Touch (fun k => lo ≤ k ∧ k < hi) _ wx := ht.mono fun k _ e => HS.out k e.1 e.2
 replace HX := Lib.hid (HX.out.touch ht' (by omega))
 replace HT := Lib.hid (HT.out.trans ht')
 replace HH := Lib.hid (HH.out.go hu)
 clear ht ht' hu HC HS c10
 have c13 := HX.out.cell 13
 simp [hdV] at c13
 have HC := Lib.hid (spwts q.w0 h.w0.length q.cw0 _ (fun hn => by obtain ⟨g, h1, _, _, h4⟩ := HH.out.w0 hn; exact ⟨g, h1, h4⟩) HH.out.len.2.2.1)
 have HS : Hid (∀ k, q.w0 = some ⟨k, 0, none⟩ → 0 < h.w0.length → lo ≤ k ∧ k < hi) := Lib.hid (fun k e hn => by obtain ⟨g, h1, h2, h3, _⟩ := HH.out.w0 hn; rw [h1] at e; injection e with e; injection e with e; omega)
 go_wp2_with fail
 refine HC.out.mono ?_
 rintro e wx ⟨rfl, ht, hu⟩
 have ht' : Touch (fun k => lo ≤ k ∧ k < hi) _ wx := ht.mono fun k _ e => HS.out k e.1 e.2
 replace HX := Lib.hid (HX.out.touch ht' (by omega))
 replace HT := Lib.hid (HT.out.trans ht')
 replace HH := Lib.hid (HH.out.go hu)
 clear ht ht' hu HC HS c13
 have c14 := HX.out.cell 14
 simp [hdV] at c14
 have HC := Lib.hid (spwts q.w1 h.w1.length q.cw1 _ (fun hn => by obtain ⟨g, h1, _, _, h4⟩ := HH.out.w1 hn; exact ⟨g, h1, h4⟩) HH.out.len.2.2.2.1)
 have HS : Hid (∀ k, q.w1 = some ⟨k, 0, none⟩ → 0 < h.w1.length → lo ≤ k ∧ k < hi) := Lib.hid (fun k e hn => by obtain ⟨g, h1, h2, h3, _⟩ := HH.out.w1 hn; rw [h1] at e; injection e with e; injection e with e; omega)
 go_wp2_with fail
 refine HC.out.mono ?_
 rintro e wx ⟨rfl, ht, hu⟩
 have ht' : Touch (fun k => lo ≤ k ∧ k < hi) _ wx := ht.mono fun k _ e => HS.out k e.1 e.2
 replace HX := Lib.hid (HX.out.touch ht' (by omega))
 replace HT := Lib.hid (HT.out.trans ht')
 replace HH := Lib.hid (HH.out.go hu)
 clear ht ht' hu HC HS c14
 have c16 := HX.out.cell 16
 simp [hdV] at c16
 have HC := Lib.hid (spops q.ops h.ops.length q.cops _ (fun hn => by obtain ⟨g, h1, _, _, h4⟩ := HH.out.ops hn; exact ⟨g, h1, h4⟩) HH.out.len.2.2.2.2)
 have HS : Hid (∀ k, q.ops = some ⟨k, 0, none⟩ → 0 < h.ops.length → lo ≤ k ∧ k < hi) := Lib.hid (fun k e hn => by obtain ⟨g, h1, h2, h3, _⟩ := HH.out.ops hn; rw [h1] at e; injection e with e; injection e with e; omega)
 go_wp2_with fail
 refine HC.out.mono ?_
 rintro e wx ⟨rfl, ht, hu⟩
 have ht' : Touch (fun k => lo ≤ k ∧ k < hi) _ wx := ht.mono fun k _ e => HS.out k e.1 e.2
 replace HX := Lib.hid (HX.out.touch ht' (by omega))
 replace HT := Lib.hid (HT.out.trans ht')
 replace HH := Lib.hid (HH.out.go hu)
 clear ht ht' hu HC HS c16
 go_wp2_with fail
 go_end0
 exact ⟨rfl, HT.out⟩
end Go.Proofs.YtjokibagciehlaaGreat
