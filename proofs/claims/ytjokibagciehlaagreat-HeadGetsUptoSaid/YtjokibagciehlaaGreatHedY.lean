/- Headers, plainly: a walk over their fields, which writes bits or reads them. No function of the program. A walk over fields in memory; what a Writer and a Reader make of a number. A walk's numbers: what a Writer and a Reader make of them; stop, check. Printed by gen-hedk.py. A walk's fields: ue, se, fixed, of a field whose block is known, or, in writing, of any cell. Printed by gen-hedq.py. A walk's flags, numbers written one less. A walk over a modification's row, over a marking operation. A walk's lists: a count, and so many rows. Printed by gen-hedh.py. A walk's lists, in reading: a new row. Printed by gen-hedi.py. A walk's weights. Printed by gen-hedw.py. A walk's weights, in reading: a new row. Printed by gen-hedw2.py. A walk and the header under it. Printed by gen-hedu.py. A walk over what a slice has of its lists. Printed by gen-hedv.py. A walk over all fields. Printed by gen-heda.py. -/
import Derived.Test.YtjokibagciehlaaGreatHedP
import Derived.Test.YtjokibagciehlaaGreatHedA
import Derived.Test.YtjokibagciehlaaGreatBitG
import Derived.RegionTactic
import Derived.RegionCalls
import Derived.StillTailTactics
import Derived.Deep.RegionWith
import Derived.Test.YtjokibagciehlaaGreatMake
import Derived.Test.YtjokibagciehlaaGreatHedE
import Derived.Deep.DeepCutAuto
import Derived.Test.YtjokibagciehlaaGreatQuiet
import Derived.Test.YtjokibagciehlaaGreatParF
namespace Go.Proofs.YtjokibagciehlaaGreat
set_option linter.unusedVariables false

/-- a walk: the bits that it has written; or where it reads, whether a number was none, whether a count was too much -/
inductive Wk where
  | wr (b : List Bool)
  | rd (a : Nat) (bad many : Bool)
def Wk.stop : Wk → Bool
  | .wr _ => false
  | .rd _ bad many => bad || many
def Wk.len : Wk → Nat
  | .wr b => b.length
  | .rd _ _ _ => 0
def Wk.isW : Wk → Bool
  | .wr _ => true
  | .rd _ _ _ => false
def mostW : Nat := 100
section
variable (f : Nat → Bool) (N : Nat)
/-- a number that is read -/
def gotM (a : Nat) (bad many : Bool) (r : Got) : Wk := if (bad || many) = true then .rd a bad many else .rd r.at_ (neB r.e) many
def gotV (bad many : Bool) (x : Int) (r : Got) : Int := if (bad || many) = true then x else r.x
def ueW (x : Int) (b : List Bool) : List Bool := if 0 ≤ x ∧ x ≤ 2147483646 then b ++ ueL x.toNat else b
def seW (x : Int) (b : List Bool) : List Bool := if -1073741823 ≤ x ∧ x ≤ 1073741823 then b ++ seL x else b
def fxW (n x : Int) (b : List Bool) : List Bool := if (0 ≤ n ∧ n ≤ 32) ∧ 0 ≤ x ∧ x < 2 ^ n.toNat then b ++ dig x.toNat n.toNat else b
def ueM (x : Int) : Wk → Wk
  | .wr b => .wr (ueW x b)
  | .rd a bad many => gotM a bad many (ueR f N a)
def ueV (x : Int) : Wk → Int
  | .wr _ => x
  | .rd a bad many => gotV bad many x (ueR f N a)
def seM (x : Int) : Wk → Wk
  | .wr b => .wr (seW x b)
  | .rd a bad many => gotM a bad many (seR f N a)
def seV (x : Int) : Wk → Int
  | .wr _ => x
  | .rd a bad many => gotV bad many x (seR f N a)
def fxM (n x : Int) : Wk → Wk
  | .wr b => .wr (fxW n x b)
  | .rd a bad many => gotM a bad many (bitsR f N a n)
def fxV (n x : Int) : Wk → Int
  | .wr _ => x
  | .rd a bad many => gotV bad many x (bitsR f N a n)
def bit01 (x : Bool) : Int := if x = true then 1 else 0
def flM (x : Bool) (k : Wk) : Wk := fxM f N 1 (bit01 x) k
def flV (x : Bool) (k : Wk) : Bool := fxV f N 1 (bit01 x) k == 1
def lsM (x : Int) (k : Wk) : Wk := ueM f N (x - 1) k
def lsV (x : Int) (k : Wk) : Int := ueV f N (x - 1) k + 1
def ckM (fine : Bool) : Wk → Wk
  | .wr b => .wr b
  | .rd a bad many => .rd a bad (many || (!bad && !fine))
/-- one step for each of a row -/
def itM {α : Type} (m : α → Wk → Wk) : List α → Wk → Wk
  | [], k => k
  | x :: l, k => itM m l (m x k)
def itV {α : Type} (m : α → Wk → Wk) (v : α → Wk → α) : List α → Wk → List α
  | [], k => []
  | x :: l, k => v x k :: itV m v l (m x k)
def mdM (x : Md) (k : Wk) : Wk := ueM f N x.v (ueM f N x.k k)
def mdV (x : Md) (k : Wk) : Md := ⟨ueV f N x.k k, ueV f N x.v (ueM f N x.k k)⟩
/-- an operation: its kind, looked at -/
def moM1 (x : Mo) (k : Wk) : Wk := ckM (inR 1 6 (ueV f N x.k k)) (ueM f N x.k k)
def moM2 (x : Mo) (k : Wk) : Wk := if hasA (ueV f N x.k k) = true then ueM f N x.a (moM1 f N x k) else moM1 f N x k
def moM (x : Mo) (k : Wk) : Wk := if hasB (ueV f N x.k k) = true then ueM f N x.b (moM2 f N x k) else moM2 f N x k
def moV (x : Mo) (k : Wk) : Mo := ⟨ueV f N x.k k, if hasA (ueV f N x.k k) = true then ueV f N x.a (moM1 f N x k) else x.a, if hasB (ueV f N x.k k) = true then ueV f N x.b (moM2 f N x k) else x.b⟩
def wtM1 (x : Wt) (k : Wk) : Wk := seM f N x.o0 (seM f N x.s0 k)
def wtM2 (x : Wt) (k : Wk) : Wk := seM f N x.o1 (seM f N x.s1 (wtM1 f N x k))
def wtM (x : Wt) (k : Wk) : Wk := seM f N x.o2 (seM f N x.s2 (wtM2 f N x k))
def wtV (x : Wt) (k : Wk) : Wt := ⟨seV f N x.s0 k, seV f N x.s1 (wtM1 f N x k), seV f N x.s2 (wtM2 f N x k), seV f N x.o0 (seM f N x.s0 k), seV f N x.o1 (seM f N x.s1 (wtM1 f N x k)), seV f N x.o2 (seM f N x.s2 (wtM2 f N x k))⟩
/-- a count, and so many -/
def rwM {α : Type} (m : α → Wk → Wk) (z : α) (l : List α) (k : Wk) : Wk :=
  match ueM f N l.length k with
  | .wr b => itM m l (.wr b)
  | .rd a bad many => if (ckM (decide (ueV f N l.length k ≤ 16)) (.rd a bad many)).stop = true then ckM (decide (ueV f N l.length k ≤ 16)) (.rd a bad many) else itM m (if 0 < ueV f N l.length k then List.replicate (ueV f N l.length k).toNat z else l) (ckM (decide (ueV f N l.length k ≤ 16)) (.rd a bad many))
def rwV {α : Type} (m : α → Wk → Wk) (v : α → Wk → α) (z : α) (l : List α) (k : Wk) : List α :=
  match ueM f N l.length k with
  | .wr b => itV m v l (.wr b)
  | .rd a bad many => if (ckM (decide (ueV f N l.length k ≤ 16)) (.rd a bad many)).stop = true then l else itV m v (if 0 < ueV f N l.length k then List.replicate (ueV f N l.length k).toNat z else l) (ckM (decide (ueV f N l.length k ≤ 16)) (.rd a bad many))
def Md.zero : Md := ⟨0, 0⟩
def Mo.zero : Mo := ⟨0, 0, 0⟩
def Wt.zero : Wt := ⟨0, 0, 0, 0, 0, 0⟩
/-- weights, so many: in reading, a new row -/
def wtL (l : List Wt) (many : Int) (k : Wk) : List Wt := if (!k.isW && decide (0 < many)) = true then List.replicate many.toNat Wt.zero else l
def wsM (l : List Wt) (many : Int) (k : Wk) : Wk := itM (wtM f N) (wtL l many k) k
def wsV (l : List Wt) (many : Int) (k : Wk) : List Wt := itV (wtM f N) (wtV f N) (wtL l many k) k

/-- a walk and the header under it -/
structure Hw where
  k : Wk
  h : Hd
def liA (t : Hw) : Hw := if t.h.type = 1 then ⟨flM f N t.h.spatial t.k, { t.h with spatial := flV f N t.h.spatial t.k }⟩ else t
def liB (t : Hw) : Hw := if t.h.type ≠ 2 then ⟨lsM f N t.h.a0 t.k, { t.h with a0 := lsV f N t.h.a0 t.k }⟩ else t
def liC (t : Hw) : Hw := if t.h.type = 1 then ⟨lsM f N t.h.a1 t.k, { t.h with a1 := lsV f N t.h.a1 t.k }⟩ else t
def liD (t : Hw) : Hw := ⟨ckM (decide (t.h.a0 ≤ 8) && decide (t.h.a1 ≤ 8)) t.k, t.h⟩
def liE (t : Hw) : Hw := if t.h.type ≠ 2 then ⟨rwM f N (mdM f N) Md.zero t.h.m0 t.k, { t.h with m0 := rwV f N (mdM f N) (mdV f N) Md.zero t.h.m0 t.k }⟩ else t
def liF (t : Hw) : Hw := if t.h.type = 1 then ⟨rwM f N (mdM f N) Md.zero t.h.m1 t.k, { t.h with m1 := rwV f N (mdM f N) (mdV f N) Md.zero t.h.m1 t.k }⟩ else t
def liG (t : Hw) : Hw := ⟨ueM f N t.h.log t.k, { t.h with log := ueV f N t.h.log t.k }⟩
def liH (t : Hw) : Hw := ⟨ueM f N t.h.logC t.k, { t.h with logC := ueV f N t.h.logC t.k }⟩
def liI (t : Hw) : Hw := ⟨wsM f N t.h.w0 t.h.a0 t.k, { t.h with w0 := wsV f N t.h.w0 t.h.a0 t.k }⟩
def liJ (t : Hw) : Hw := ⟨wsM f N t.h.w1 t.h.a1 t.k, { t.h with w1 := wsV f N t.h.w1 t.h.a1 t.k }⟩
def liW (p : Pp) (t : Hw) : Hw := if (wgt t.h.type p && !t.k.stop) = true then liJ f N (liI f N (liH f N (liG f N t))) else t
/-- what a slice has of its lists -/
def liS (p : Pp) (t : Hw) : Hw := liW f N p (liF f N (liE f N (liD (liC f N (liB f N (liA f N t))))))
def alA (t : Hw) : Hw := ⟨ueM f N t.h.first t.k, { t.h with first := ueV f N t.h.first t.k }⟩
def alB (t : Hw) : Hw := ⟨lsM f N t.h.count t.k, { t.h with count := lsV f N t.h.count t.k }⟩
def alC (t : Hw) : Hw := ⟨ueM f N t.h.type t.k, { t.h with type := ueV f N t.h.type t.k }⟩
def alD (t : Hw) : Hw := ⟨ckM (inR 0 2 t.h.type) t.k, t.h⟩
def alE (s : Sp) (t : Hw) : Hw := ⟨fxM f N s.fb t.h.fn t.k, { t.h with fn := fxV f N s.fb t.h.fn t.k }⟩
def alF (key : Bool) (t : Hw) : Hw := if key = true then ⟨ueM f N t.h.id t.k, { t.h with id := ueV f N t.h.id t.k }⟩ else t
def alG (s : Sp) (t : Hw) : Hw := if s.pt = 0 then ⟨fxM f N s.pb t.h.poc t.k, { t.h with poc := fxV f N s.pb t.h.poc t.k }⟩ else t
def alK (t : Hw) : Hw := ⟨flM f N t.h.longKey t.k, { t.h with longKey := flV f N t.h.longKey t.k }⟩
def alO (t : Hw) : Hw := ⟨rwM f N (moM f N) Mo.zero t.h.ops t.k, { t.h with ops := rwV f N (moM f N) (moV f N) Mo.zero t.h.ops t.k }⟩
def alH (ref : Int) (key : Bool) (t : Hw) : Hw := if 0 < ref then (if key = true then alK f N t else alO f N t) else t
def alQ (t : Hw) : Hw := ⟨ueM f N t.h.qp t.k, { t.h with qp := ueV f N t.h.qp t.k }⟩
def alX (t : Hw) : Hw := ⟨flM f N t.h.off t.k, { t.h with off := flV f N t.h.off t.k }⟩
def alY (t : Hw) : Hw := ⟨seM f N t.h.a t.k, { t.h with a := seV f N t.h.a t.k }⟩
def alZ (t : Hw) : Hw := ⟨seM f N t.h.b t.k, { t.h with b := seV f N t.h.b t.k }⟩
def alV (t : Hw) : Hw := if t.h.off = true then t else alZ f N (alY f N t)
def alI (p : Pp) (t : Hw) : Hw := if p.deb = true then alV f N (alX f N t) else t
/-- all fields up to the lists -/
def al1 (s : Sp) (key : Bool) (t : Hw) : Hw := alG f N s (alF f N key (alE f N s (alD (alC f N (alB f N (alA f N t))))))
/-- all fields -/
def alS (s : Sp) (p : Pp) (ref : Int) (key : Bool) (t : Hw) : Hw := alI f N p (alQ f N (alH f N ref key (liS f N p (al1 f N s key t))))
end
end Go.Proofs.YtjokibagciehlaaGreat

namespace Go.Proofs.YtjokibagciehlaaGreat
open Go.RowKit
set_option linter.unusedVariables false
set_option linter.unusedSimpArgs false

def wkC (g : Nat) : Wk → Array Value
  | .wr _ => #[.pointer (some ⟨g, 0, none⟩), .pointer none, .bool false, .bool false]
  | .rd _ bad many => #[.pointer none, .pointer (some ⟨g, 0, none⟩), .bool bad, .bool many]
def WkIo (w : World) (base g : Nat) (s : ByteArray) (v : Value) : Wk → Prop
  | .wr b => Wr w base g v b ∧ base ≤ w.heap.size
  | .rd a _ _ => Rr w g s a ∧ v.ownBlock = none ∧ a ≤ 8 * s.size
/-- a walk in memory: its block gk, the Writer's or Reader's block g, the Writer's bytes v, the Reader's text s -/
structure WkAt (w : World) (base g gk : Nat) (s : ByteArray) (v : Value) (k : Wk) : Prop where
  bk : Bk w gk 80 (wkC g k)
  io : WkIo w base g s v k
  far : ¬ WS g v gk
/-- what a step may turn: the walk, the blocks of S -/
def KS (g gk : Nat) (v : Value) (S : Nat → Prop) (i : Nat) : Prop := WS g v i ∨ i = gk ∨ S i
/-- a step of a walk -/
structure WkTo (S : Nat → Prop) (w : World) (base g gk : Nat) (s : ByteArray) (v : Value) (k : Wk) (w' : World) (v' : Value) : Prop where
  at_ : WkAt w' base g gk s v' k
  new : New w v v'
  touch : Touch (KS g gk v S) w w'

section
variable {S T : Nat → Prop} {w w' w1 w2 : World} {base g gk : Nat} {s : ByteArray} {v v' v1 v2 : Value} {k k' k1 k2 : Wk} {b : List Bool}
theorem New.refl (w : World) (v : Value) : New w v v := .inl rfl
theorem WkIo.ws (h : WkIo w base g s v k) {i : Nat} (hi : WS g v i) : i < w.heap.size := by
  cases k with
  | wr b =>
    obtain ⟨⟨c, hk, ho⟩, _⟩ := h
    rcases hi with rfl | hi
    · exact hk.lt
    · exact (ho.lt i hi).2
  | rd a bad many =>
    obtain ⟨hr, hv, _⟩ := h
    rcases hi with rfl | hi
    · exact Bk.lt hr
    · rw [hv] at hi; cases hi
theorem WkAt.ws (h : WkAt w base g gk s v k) {i : Nat} (hi : WS g v i) : i < w.heap.size := h.io.ws hi
theorem WkAt.past (h : WkAt w base g gk s v k) {i : Nat} (hi : w.heap.size ≤ i) : ¬ WS g v i := fun q => by have := h.ws q; omega
theorem WkIo.go (h : WkIo w base g s v k) (hb : Below w.heap.size w w') : WkIo w' base g s v k := by
  cases k with
  | wr b => exact ⟨h.1.go hb, Nat.le_trans h.2 hb.size⟩
  | rd a bad many => exact ⟨Bk.go h.1 hb, h.2⟩
theorem WkAt.go (h : WkAt w base g gk s v k) (hb : Below w.heap.size w w') : WkAt w' base g gk s v k := ⟨h.bk.go hb, h.io.go hb, h.far⟩
theorem Wr.touch (h : Wr w base g v b) (ht : Touch S w w') (hs : ∀ i, WS g v i → ¬ S i) : Wr w' base g v b := by
  obtain ⟨c, hk, ho⟩ := h
  exact ⟨c, hk.touch ht (hs g (.inl rfl)), own_touch ho ht (fun i hi => hs i (.inr hi))⟩
theorem WkIo.touch (h : WkIo w base g s v k) (ht : Touch S w w') (hs : ∀ i, WS g v i → ¬ S i) : WkIo w' base g s v k := by
  cases k with
  | wr b => exact ⟨h.1.touch ht hs, Nat.le_trans h.2 ht.size⟩
  | rd a bad many => exact ⟨Bk.touch h.1 ht (hs g (.inl rfl)), h.2⟩
theorem WkAt.touch_ (h : WkAt w base g gk s v k) (ht : Touch S w w') (hs : ∀ i, WS g v i → ¬ S i) (hk : ¬ S gk) : WkAt w' base g gk s v k := ⟨h.bk.touch ht hk, h.io.touch ht hs, h.far⟩
/-- a Writer's call -/
theorem WkAt.put {b b' : List Bool} (H : WkAt w base g gk s v (.wr b)) (q : PutPost w base g v b' w') : ∃ v', WkTo S w base g gk s v (.wr b') w' v' := by
  obtain ⟨v', hw, ht, hn⟩ := q
  exact ⟨v', ⟨H.bk.touch ht H.far, ⟨hw, Nat.le_trans H.io.2 ht.size⟩, fun q => H.far (ws_new hn H.bk.lt q)⟩, hn, ht.mono fun i _ hi => .inl hi⟩
/-- what a field's step leaves: the walk, the field's block -/
def Fld (w : World) (base g gk : Nat) (s : ByteArray) (v : Value) (k : Wk) (B : Nat) (t : TypeId) (cs : Array Value) (w' : World) : Prop := ∃ v', WkTo (fun i => i = B) w base g gk s v k w' v' ∧ Bk w' B t cs
theorem set_same {cs : Array Value} {i : Nat} {x : Value} (h : cs[i]? = some x) : cs.setIfInBounds i x = cs := by
  apply Array.ext
  · simp
  · intro j h1 h2
    rw [Array.getElem_setIfInBounds]
    split
    · rename_i e
      subst e
      have := Array.getElem?_eq_some_iff.1 h
      exact this.2.symm
    · rfl
/-- in writing no field turns -/
theorem WkAt.fldW {b b' : List Bool} (H : WkAt w base g gk s v (.wr b)) (q : PutPost w base g v b' w') {B i : Nat} {t : TypeId} {cs : Array Value} {x : Value} (K : Bk w B t cs) (hc : cs[i]? = some x) (hB : ¬ WS g v B) : Fld w base g gk s v (.wr b') B t (cs.setIfInBounds i x) w' := by
  obtain ⟨v', hq⟩ := H.put (S := fun i => i = B) q
  obtain ⟨v2, hw, ht, hn⟩ := q
  exact ⟨v', hq, by rw [set_same hc]; exact K.touch ht hB⟩
/-- in reading the field and the walk's flag turn -/
theorem WkAt.fldR {a a' : Nat} {bad bad' many : Bool} (H : WkAt w base g gk s v (.rd a bad many)) (q : RPost w g s a' w1) (ha : a' ≤ 8 * s.size) {B i : Nat} {t : TypeId} {cs : Array Value} {x : Value} (K : Bk w B t cs) (hB : ¬ WS g v B) (hk : B ≠ gk) :
    Fld w base g gk s v (.rd a' bad' many) B t (cs.setIfInBounds i x) ((w1.setCell ⟨B, i, none⟩ x).setCell ⟨gk, 2, none⟩ (.bool bad')) := by
  have hg : g ≠ gk := fun e => H.far (.inl e.symm)
  have hgB : g ≠ B := fun e => hB (.inl e.symm)
  have n1 : ¬ RS g gk := fun e => H.far (.inl e)
  have n2 : ¬ RS g B := fun e => hB (.inl e)
  have ht : Touch (KS g gk v (fun i => i = B)) w w1 := q.2.mono fun j _ hj => .inl (.inl hj)
  have k1 := (((H.bk.touch q.2 n1).far (p := ⟨B, i, none⟩) (fun e => hk e.symm) x).set_ 2 (.bool bad'))
  refine ⟨v, ⟨⟨k1, ⟨Bk.far (Bk.far q.1 hgB x) hg _, H.io.2.1, ha⟩, H.far⟩, .inl rfl, (ht.setCell (fun _ => .inr (.inr rfl)) x).setCell (fun _ => .inr (.inl rfl)) _⟩, ?_⟩
  exact (((K.touch q.2 n2).set_ i x).far hk _)
theorem WkAt.fldS {a : Nat} {bad many : Bool} (H : WkAt w base g gk s v (.rd a bad many)) {B i : Nat} {t : TypeId} {cs : Array Value} {x : Value} (K : Bk w B t cs) (hc : cs[i]? = some x) : Fld w base g gk s v (.rd a bad many) B t (cs.setIfInBounds i x) w :=
  ⟨v, ⟨H, .inl rfl, Touch.refl _ _⟩, by rw [set_same hc]; exact K⟩
end
end Go.Proofs.YtjokibagciehlaaGreat

namespace Go.Proofs.YtjokibagciehlaaGreat
open Go.RowKit
set_option linter.unusedVariables false
set_option linter.unusedSimpArgs false

theorem bitsR_le (f : Nat → Bool) (N a : Nat) (n : Int) (h : a ≤ N) : (bitsR f N a n).at_ ≤ N := by
  unfold bitsR
  split
  · exact h
  · split
    · exact h
    · show a + n.toNat ≤ N
      omega
theorem gotM_stop {a : Nat} {bad many : Bool} {r : Got} (h : (bad || many) = true) : gotM a bad many r = .rd a bad many := if_pos h
theorem gotM_go {a : Nat} {bad many : Bool} {r : Got} (h : (bad || many) = false) : gotM a bad many r = .rd r.at_ (neB r.e) many := if_neg (by rw [h]; simp)
theorem gotV_stop {bad many : Bool} {x : Int} {r : Got} (h : (bad || many) = true) : gotV bad many x r = x := if_pos h
theorem gotV_go {bad many : Bool} {x : Int} {r : Got} (h : (bad || many) = false) : gotV bad many x r = r.x := if_neg (by rw [h]; simp)
theorem PutPost.undrew {w w' : World} {base g : Nat} {v : Value} {b : List Bool} (h : PutPost w.drew base g v b w') : PutPost w base g v b w' := by
  obtain ⟨v', h1, h2, h3⟩ := h
  exact ⟨v', h1, ⟨h2.os, h2.tape, h2.output, h2.size, h2.block⟩, h3⟩
theorem RPost.undrew {w w' : World} {g a : Nat} {s : ByteArray} (h : RPost w.drew g s a w') : RPost w g s a w' := ⟨h.1, ⟨h.2.os, h.2.tape, h.2.output, h.2.size, h.2.block⟩⟩
theorem WkAt.drew {w : World} {base g gk : Nat} {s : ByteArray} {v : Value} {k : Wk} (h : WkAt w base g gk s v k) : WkAt w.drew base g gk s v k := h.touch_ ((Touch.refl (fun _ => False) w).drew) (fun _ _ q => q) (fun q => q)
section
variable {w : World} {base g gk kc nc : Nat} {s : ByteArray} {v : Value} {k : Wk}
set_option maxRecDepth 100000 in
theorem wstop_any (H : WkAt w base g gk s v k) : Calls Tryz.prog 103 #[.pointer (some ⟨gk, 0, none⟩)] w fun e w' => e = .returned (.bool k.stop) ∧ w = w' := by
  have c2 := H.bk.cell 2
  have c3 := H.bk.cell 3
  cases k with
  | wr b =>
    simp [wkC] at c2 c3
    clear H
    go_enter Tryz.func103, Tryz.ntmps103
    go_wp2_with fail
    go_ret
    exact ⟨rfl, rfl⟩
  | rd a bad many =>
    simp [wkC] at c2 c3
    clear H
    have e : (Wk.rd a bad many).stop = (bad || many) := rfl
    rw [e]
    clear e
    cases bad
    all_goals
      go_enter Tryz.func103, Tryz.ntmps103
      go_wp2_with fail
      go_ret
      exact ⟨rfl, rfl⟩
set_option maxRecDepth 100000 in
theorem check_any (fine : Bool) (H : WkAt w base g gk s v k) : Calls Tryz.prog 71 #[.pointer (some ⟨gk, 0, none⟩), .bool fine] w fun e w' => e = .returned (.tuple #[]) ∧ WkTo (fun _ => False) w base g gk s v (ckM fine k) w' v := by
  have c0 := H.bk.cell 0
  have c2 := H.bk.cell 2
  have c3 := H.bk.cell 3
  have f3 := H.bk.frozen 3
  have HH := Lib.hid H
  clear H
  cases k with
  | wr b =>
    simp [wkC] at c0 c2 c3
    go_enter Tryz.func71, Tryz.ntmps71
    go_wp2_with fail
    go_end0
    exact ⟨rfl, HH.out, .inl rfl, Touch.refl _ _⟩
  | rd a bad many =>
    simp [wkC] at c0 c2 c3
    have hsame : WkTo (fun _ => False) w base g gk s v (.rd a bad many) w v := ⟨HH.out, .inl rfl, Touch.refl _ _⟩
    have hset : WkTo (fun _ => False) w base g gk s v (.rd a bad true) (w.setCell ⟨gk, 3, none⟩ (.bool true)) v := by
      have h := HH.out
      have hg : g ≠ gk := fun e => h.far (.inl e.symm)
      exact ⟨⟨h.bk.set_ 3 (.bool true), ⟨Bk.far h.io.1 hg _, h.io.2⟩, h.far⟩, .inl rfl, (Touch.refl _ w).setCell (fun _ => .inr (.inl rfl)) _⟩
    have HS := Lib.hid hsame
    have HT := Lib.hid hset
    clear hsame hset
    have e : ckM fine (Wk.rd a bad many) = Wk.rd a bad (many || (!bad && !fine)) := rfl
    rw [e]
    clear e
    cases bad <;> cases fine
    all_goals
      go_enter Tryz.func71, Tryz.ntmps71
      go_wp2_with fail
      go_end0
      refine ⟨rfl, ?_⟩
      first
        | (rw [show (many || (!false && !false)) = true by cases many <;> rfl]; exact HT.out)
        | (rw [Bool.not_true, Bool.false_and, Bool.or_false]; exact HS.out)
        | (rw [Bool.not_true, Bool.and_false, Bool.or_false]; exact HS.out)

theorem wue_any (base g : Nat) (v : Value) (b : List Bool) (x : Int) (w : World) (h : Wr w base g v b) (hb : b.length ≤ 1000000) (hbs : base ≤ w.heap.size) :
    Calls Tryz.prog 96 #[.pointer (some ⟨g, 0, none⟩), .int .i64 x] w fun e w' => (∃ c, e = .returned (.int .i64 c)) ∧ PutPost w base g v (ueW x b) w' := by
  by_cases hx : 0 ≤ x ∧ x ≤ 2147483646
  · unfold ueW
    rw [if_pos hx]
    exact (ue_yes base g v b x w h hb hx.1 hx.2 hbs).mono fun e w' q => ⟨⟨_, q.1⟩, q.2⟩
  · unfold ueW
    rw [if_neg hx]
    exact (ue_no g x w (by omega)).mono fun e w' q => ⟨⟨_, q.1⟩, q.2 ▸ PutPost.same h⟩
set_option maxRecDepth 100000 in
theorem ue1_any {b : List Bool} (x : Int) (H : WkAt w base g gk s v (.wr b)) (hb : b.length ≤ 1000000) (hc : w.cell? ⟨kc, 0, none⟩ = some (.pointer (some ⟨gk, 0, none⟩))) :
    Calls Tryz.prog 95 (#[.int .i64 x, .pointer (some ⟨kc, 0, none⟩)]) w fun e w' => (∃ c, e = .returned (.int .i64 c)) ∧ PutPost w base g v (ueW x b) w' := by
  have HC := Lib.hid (wue_any base g v b x w H.io.1 hb H.io.2)
  have c0 := H.bk.cell 0
  simp [wkC] at c0
  clear H
  go_enter Tryz.func95, Tryz.ntmps95
  go_wp2_with fail
  refine HC.out.mono ?_
  rintro e w' ⟨⟨c, rfl⟩, hp⟩
  go_wp2_with fail
  go_ret
  exact ⟨⟨c, rfl⟩, hp⟩
set_option maxRecDepth 100000 in
theorem wue2_any {a : Nat} {bad many : Bool} (H : WkAt w base g gk s v (.rd a bad many)) (hs : s.size ≤ 140737488351232) (hc : w.cell? ⟨kc, 0, none⟩ = some (.pointer (some ⟨gk, 0, none⟩))) :
    Calls Tryz.prog 97 #[.pointer (some ⟨kc, 0, none⟩)] w fun e w' => e = .returned (.tuple #[.int .i64 (ueR (sbit s) (8 * s.size) a).x, .int .i64 (ueR (sbit s) (8 * s.size) a).e]) ∧ RPost w g s (ueR (sbit s) (8 * s.size) a).at_ w' := by
  have HC := Lib.hid (rue_any g s a w H.io.1 hs H.io.2.2)
  have c1 := H.bk.cell 1
  simp [wkC] at c1
  clear H
  obtain ⟨r, hr⟩ : ∃ r, ueR (sbit s) (8 * s.size) a = r := ⟨_, rfl⟩
  rw [hr] at HC ⊢
  clear hr
  go_enter Tryz.func97, Tryz.ntmps97
  go_wp2_with fail
  refine HC.out.mono ?_
  rintro e w' ⟨rfl, hp⟩
  go_wp2_with fail
  go_ret2
  exact ⟨rfl, hp⟩
/-- number, in writing -/
theorem numueW {b : List Bool} (x : Int) (ad : Addr) (H : WkAt w base g gk s v (.wr b)) (hb : b.length ≤ 1000000) (hx : w.cell? ad = some (.int .i64 x)) (hc : w.cell? ⟨kc, 0, none⟩ = some (.pointer (some ⟨gk, 0, none⟩))) :
    Calls Tryz.prog 94 #[.pointer (some ⟨gk, 0, none⟩), .pointer (some ad), .func (.func 95) #[] #[.pointer (some ⟨kc, 0, none⟩)], .func (.func 97) #[] #[.pointer (some ⟨kc, 0, none⟩)]] w fun e w' => e = .returned (.tuple #[]) ∧ PutPost w base g v (ueW x b) w' := by
  have HC := Lib.hid (ue1_any x H hb hc)
  have c0 := H.bk.cell 0
  simp [wkC] at c0
  clear H hc
  go_enter Tryz.func94, Tryz.ntmps94
  go_wp2_with fail
  refine HC.out.mono ?_
  rintro e w' ⟨⟨c, rfl⟩, hp⟩
  have HP := Lib.hid hp
  clear hp
  go_wp2_with fail
  go_end0
  exact ⟨rfl, HP.out⟩
/-- number, in reading -/
theorem numueR {a : Nat} {bad many : Bool} (x : Int) (H : WkAt w base g gk s v (.rd a bad many)) (hs : s.size ≤ 140737488351232) {B i : Nat} {t : TypeId} {cs : Array Value} (K : Bk w B t cs) (hx : cs[i]? = some (.int .i64 x)) (hB : ¬ WS g v B) (hk : B ≠ gk) (hc : w.cell? ⟨kc, 0, none⟩ = some (.pointer (some ⟨gk, 0, none⟩))) :
    Calls Tryz.prog 94 #[.pointer (some ⟨gk, 0, none⟩), .pointer (some ⟨B, i, none⟩), .func (.func 95) #[] #[.pointer (some ⟨kc, 0, none⟩)], .func (.func 97) #[] #[.pointer (some ⟨kc, 0, none⟩)]] w fun e w' => e = .returned (.tuple #[]) ∧ Fld w base g gk s v (gotM a bad many (ueR (sbit s) (8 * s.size) a)) B t (cs.setIfInBounds i (.int .i64 (gotV bad many x (ueR (sbit s) (8 * s.size) a)))) w' := by
  have HS := Lib.hid (wstop_any H)
  have HC := Lib.hid (wue2_any H hs hc)
  have c0 := H.bk.cell 0
  have c2 := H.bk.cell 2
  have f2 := H.bk.frozen 2
  simp [wkC] at c0 c2
  have hle : (ueR (sbit s) (8 * s.size) a).at_ ≤ 8 * s.size := (ueR_bd (sbit s) (8 * s.size) a H.io.2.2).2.2.2.1
  obtain ⟨r, hr⟩ : ∃ r, ueR (sbit s) (8 * s.size) a = r := ⟨_, rfl⟩
  rw [hr] at HC hle ⊢
  by_cases hst : (bad || many) = true
  · rw [gotM_stop hst, gotV_stop hst]
    have HT := Lib.hid (H.fldS K hx)
    have e : (Wk.rd a bad many).stop = true := hst
    rw [e] at HS
    clear e hst H hc HC K hx
    go_enter Tryz.func94, Tryz.ntmps94
    go_wp2_with fail
    refine HS.out.mono ?_
    rintro e w' ⟨rfl, rfl⟩
    go_wp2_with fail
    go_end0
    exact ⟨rfl, HT.out⟩
  · have hst' : (bad || many) = false := by simpa using hst
    rw [gotM_go hst', gotV_go hst']
    have HT := Lib.hid (fun (w1 : World) (q : RPost w g s r.at_ w1) => H.fldR (bad' := neB r.e) (x := .int .i64 r.x) (i := i) q hle K hB hk)
    have HK := Lib.hid (fun (w1 : World) (q : RPost w g s r.at_ w1) => (And.intro ((K.touch q.2 (fun e => hB (.inl e))).cell i) ((K.touch q.2 (fun e => hB (.inl e))).frozen i)))
    have HG := Lib.hid (fun (w1 : World) (q : RPost w g s r.at_ w1) => (And.intro ((H.bk.touch q.2 (fun e => H.far (.inl e))).cell 2) ((H.bk.touch q.2 (fun e => H.far (.inl e))).frozen 2)))
    have e : (Wk.rd a bad many).stop = false := hst'
    rw [e] at HS
    clear e hst hst' H hc K hr
    go_enter Tryz.func94, Tryz.ntmps94
    go_wp2_with fail
    refine HS.out.mono ?_
    rintro e w' ⟨rfl, rfl⟩
    go_wp2_with fail
    refine HC.out.mono ?_
    rintro e w1 ⟨rfl, hp⟩
    obtain ⟨d0, d1⟩ := HK.out w1 hp
    obtain ⟨d2, d3⟩ := HG.out w1 hp
    rw [hx] at d0
    simp [wkC] at d2
    have HF := Lib.hid (HT.out w1 hp)
    clear hp c0 c2 f2 HT HK HG HC hx
    have n1 : ¬ B = gk := hk
    have n2 : ¬ gk = B := fun e => hk e.symm
    go_wp2_with fail
    go_end0
    exact ⟨rfl, HF.out⟩

theorem wse_any (base g : Nat) (v : Value) (b : List Bool) (x : Int) (w : World) (h : Wr w base g v b) (hb : b.length ≤ 1000000) (hbs : base ≤ w.heap.size) :
    Calls Tryz.prog 106 #[.pointer (some ⟨g, 0, none⟩), .int .i64 x] w fun e w' => (∃ c, e = .returned (.int .i64 c)) ∧ PutPost w base g v (seW x b) w' := by
  by_cases hx : -1073741823 ≤ x ∧ x ≤ 1073741823
  · unfold seW
    rw [if_pos hx]
    exact (se_yes base g v b x w h hb hx.1 hx.2 hbs).mono fun e w' q => ⟨⟨_, q.1⟩, q.2⟩
  · unfold seW
    rw [if_neg hx]
    exact (se_no g x w (by omega)).mono fun e w' q => ⟨⟨_, q.1⟩, q.2 ▸ PutPost.same h⟩
set_option maxRecDepth 100000 in
theorem se1_any {b : List Bool} (x : Int) (H : WkAt w base g gk s v (.wr b)) (hb : b.length ≤ 1000000) (hc : w.cell? ⟨kc, 0, none⟩ = some (.pointer (some ⟨gk, 0, none⟩))) :
    Calls Tryz.prog 105 (#[.int .i64 x, .pointer (some ⟨kc, 0, none⟩)]) w fun e w' => (∃ c, e = .returned (.int .i64 c)) ∧ PutPost w base g v (seW x b) w' := by
  have HC := Lib.hid (wse_any base g v b x w H.io.1 hb H.io.2)
  have c0 := H.bk.cell 0
  simp [wkC] at c0
  clear H
  go_enter Tryz.func105, Tryz.ntmps105
  go_wp2_with fail
  refine HC.out.mono ?_
  rintro e w' ⟨⟨c, rfl⟩, hp⟩
  go_wp2_with fail
  go_ret
  exact ⟨⟨c, rfl⟩, hp⟩
set_option maxRecDepth 100000 in
theorem wse2_any {a : Nat} {bad many : Bool} (H : WkAt w base g gk s v (.rd a bad many)) (hs : s.size ≤ 140737488351232) (hc : w.cell? ⟨kc, 0, none⟩ = some (.pointer (some ⟨gk, 0, none⟩))) :
    Calls Tryz.prog 107 #[.pointer (some ⟨kc, 0, none⟩)] w fun e w' => e = .returned (.tuple #[.int .i64 (seR (sbit s) (8 * s.size) a).x, .int .i64 (seR (sbit s) (8 * s.size) a).e]) ∧ RPost w g s (seR (sbit s) (8 * s.size) a).at_ w' := by
  have HC := Lib.hid (rse_any g s a w H.io.1 hs H.io.2.2)
  have c1 := H.bk.cell 1
  simp [wkC] at c1
  clear H
  obtain ⟨r, hr⟩ : ∃ r, seR (sbit s) (8 * s.size) a = r := ⟨_, rfl⟩
  rw [hr] at HC ⊢
  clear hr
  go_enter Tryz.func107, Tryz.ntmps107
  go_wp2_with fail
  refine HC.out.mono ?_
  rintro e w' ⟨rfl, hp⟩
  go_wp2_with fail
  go_ret2
  exact ⟨rfl, hp⟩
/-- number, in writing -/
theorem numseW {b : List Bool} (x : Int) (ad : Addr) (H : WkAt w base g gk s v (.wr b)) (hb : b.length ≤ 1000000) (hx : w.cell? ad = some (.int .i64 x)) (hc : w.cell? ⟨kc, 0, none⟩ = some (.pointer (some ⟨gk, 0, none⟩))) :
    Calls Tryz.prog 94 #[.pointer (some ⟨gk, 0, none⟩), .pointer (some ad), .func (.func 105) #[] #[.pointer (some ⟨kc, 0, none⟩)], .func (.func 107) #[] #[.pointer (some ⟨kc, 0, none⟩)]] w fun e w' => e = .returned (.tuple #[]) ∧ PutPost w base g v (seW x b) w' := by
  have HC := Lib.hid (se1_any x H hb hc)
  have c0 := H.bk.cell 0
  simp [wkC] at c0
  clear H hc
  go_enter Tryz.func94, Tryz.ntmps94
  go_wp2_with fail
  refine HC.out.mono ?_
  rintro e w' ⟨⟨c, rfl⟩, hp⟩
  have HP := Lib.hid hp
  clear hp
  go_wp2_with fail
  go_end0
  exact ⟨rfl, HP.out⟩
/-- number, in reading -/
theorem numseR {a : Nat} {bad many : Bool} (x : Int) (H : WkAt w base g gk s v (.rd a bad many)) (hs : s.size ≤ 140737488351232) {B i : Nat} {t : TypeId} {cs : Array Value} (K : Bk w B t cs) (hx : cs[i]? = some (.int .i64 x)) (hB : ¬ WS g v B) (hk : B ≠ gk) (hc : w.cell? ⟨kc, 0, none⟩ = some (.pointer (some ⟨gk, 0, none⟩))) :
    Calls Tryz.prog 94 #[.pointer (some ⟨gk, 0, none⟩), .pointer (some ⟨B, i, none⟩), .func (.func 105) #[] #[.pointer (some ⟨kc, 0, none⟩)], .func (.func 107) #[] #[.pointer (some ⟨kc, 0, none⟩)]] w fun e w' => e = .returned (.tuple #[]) ∧ Fld w base g gk s v (gotM a bad many (seR (sbit s) (8 * s.size) a)) B t (cs.setIfInBounds i (.int .i64 (gotV bad many x (seR (sbit s) (8 * s.size) a)))) w' := by
  have HS := Lib.hid (wstop_any H)
  have HC := Lib.hid (wse2_any H hs hc)
  have c0 := H.bk.cell 0
  have c2 := H.bk.cell 2
  have f2 := H.bk.frozen 2
  simp [wkC] at c0 c2
  have hle : (seR (sbit s) (8 * s.size) a).at_ ≤ 8 * s.size := (ueR_bd (sbit s) (8 * s.size) a H.io.2.2).2.2.2.1
  obtain ⟨r, hr⟩ : ∃ r, seR (sbit s) (8 * s.size) a = r := ⟨_, rfl⟩
  rw [hr] at HC hle ⊢
  by_cases hst : (bad || many) = true
  · rw [gotM_stop hst, gotV_stop hst]
    have HT := Lib.hid (H.fldS K hx)
    have e : (Wk.rd a bad many).stop = true := hst
    rw [e] at HS
    clear e hst H hc HC K hx
    go_enter Tryz.func94, Tryz.ntmps94
    go_wp2_with fail
    refine HS.out.mono ?_
    rintro e w' ⟨rfl, rfl⟩
    go_wp2_with fail
    go_end0
    exact ⟨rfl, HT.out⟩
  · have hst' : (bad || many) = false := by simpa using hst
    rw [gotM_go hst', gotV_go hst']
    have HT := Lib.hid (fun (w1 : World) (q : RPost w g s r.at_ w1) => H.fldR (bad' := neB r.e) (x := .int .i64 r.x) (i := i) q hle K hB hk)
    have HK := Lib.hid (fun (w1 : World) (q : RPost w g s r.at_ w1) => (And.intro ((K.touch q.2 (fun e => hB (.inl e))).cell i) ((K.touch q.2 (fun e => hB (.inl e))).frozen i)))
    have HG := Lib.hid (fun (w1 : World) (q : RPost w g s r.at_ w1) => (And.intro ((H.bk.touch q.2 (fun e => H.far (.inl e))).cell 2) ((H.bk.touch q.2 (fun e => H.far (.inl e))).frozen 2)))
    have e : (Wk.rd a bad many).stop = false := hst'
    rw [e] at HS
    clear e hst hst' H hc K hr
    go_enter Tryz.func94, Tryz.ntmps94
    go_wp2_with fail
    refine HS.out.mono ?_
    rintro e w' ⟨rfl, rfl⟩
    go_wp2_with fail
    refine HC.out.mono ?_
    rintro e w1 ⟨rfl, hp⟩
    obtain ⟨d0, d1⟩ := HK.out w1 hp
    obtain ⟨d2, d3⟩ := HG.out w1 hp
    rw [hx] at d0
    simp [wkC] at d2
    have HF := Lib.hid (HT.out w1 hp)
    clear hp c0 c2 f2 HT HK HG HC hx
    have n1 : ¬ B = gk := hk
    have n2 : ¬ gk = B := fun e => hk e.symm
    go_wp2_with fail
    go_end0
    exact ⟨rfl, HF.out⟩

theorem wfixed_any (base g : Nat) (v : Value) (b : List Bool) (n : Int) (x : Int) (w : World) (h : Wr w base g v b) (hb : b.length ≤ 1000000) (hbs : base ≤ w.heap.size) :
    Calls Tryz.prog 7 #[.pointer (some ⟨g, 0, none⟩), .int .i64 x, .int .i64 n] w fun e w' => (∃ c, e = .returned (.int .i64 c)) ∧ PutPost w base g v (fxW n x b) w' := by
  by_cases hx : (0 ≤ n ∧ n ≤ 32) ∧ 0 ≤ x ∧ x < 2 ^ n.toNat
  · unfold fxW
    rw [if_pos hx]
    have h := bits_yes base g v b x.toNat n.toNat w h hb (by omega) (by
      have e : (((2 : Nat) ^ n.toNat : Nat) : Int) = 2 ^ n.toNat := by simp
      omega) hbs
    rw [show ((x.toNat : Nat) : Int) = x by omega, show ((n.toNat : Nat) : Int) = n by omega] at h
    exact h.mono fun e w' q => ⟨⟨_, q.1⟩, q.2⟩
  · unfold fxW
    rw [if_neg hx]
    exact (bits_no g x n w (by omega)).mono fun e w' q => ⟨⟨_, q.1⟩, q.2 ▸ PutPost.same h⟩
set_option maxRecDepth 100000 in
theorem fixed1_any {b : List Bool} (n : Int) (x : Int) (H : WkAt w base g gk s v (.wr b)) (hb : b.length ≤ 1000000) (hc : w.cell? ⟨kc, 0, none⟩ = some (.pointer (some ⟨gk, 0, none⟩))) (hn : w.cell? ⟨nc, 0, none⟩ = some (.int .i64 n)) :
    Calls Tryz.prog 99 (#[.int .i64 x, .pointer (some ⟨kc, 0, none⟩), .pointer (some ⟨nc, 0, none⟩)]) w fun e w' => (∃ c, e = .returned (.int .i64 c)) ∧ PutPost w base g v (fxW n x b) w' := by
  have HC := Lib.hid (wfixed_any base g v b n x w.drew H.drew.io.1 hb H.drew.io.2)
  have c0 := H.bk.cell 0
  simp [wkC] at c0
  clear H
  go_enter Tryz.func99, Tryz.ntmps99
  go_wp2_with fail
  go_still_tail 6, (by kernel_rfl)
  change wpList _ _ _ _ _ (World.drew _)
  go_wp2_with fail
  refine HC.out.mono ?_
  rintro e w' ⟨⟨c, rfl⟩, hp⟩
  go_wp2_with fail
  go_ret
  exact ⟨⟨c, rfl⟩, hp.undrew⟩
set_option maxRecDepth 100000 in
theorem wfixed2_any {a : Nat} {bad many : Bool} (n : Int) (H : WkAt w base g gk s v (.rd a bad many)) (hs : s.size ≤ 140737488351232) (hc : w.cell? ⟨kc, 0, none⟩ = some (.pointer (some ⟨gk, 0, none⟩))) (hn : w.cell? ⟨nc, 0, none⟩ = some (.int .i64 n)) :
    Calls Tryz.prog 100 #[.pointer (some ⟨kc, 0, none⟩), .pointer (some ⟨nc, 0, none⟩)] w fun e w' => e = .returned (.tuple #[.int .i64 (bitsR (sbit s) (8 * s.size) a n).x, .int .i64 (bitsR (sbit s) (8 * s.size) a n).e]) ∧ RPost w g s (bitsR (sbit s) (8 * s.size) a n).at_ w' := by
  have HC := Lib.hid (rbits_any g s a n w.drew H.drew.io.1 hs H.drew.io.2.2)
  have c1 := H.bk.cell 1
  simp [wkC] at c1
  clear H
  obtain ⟨r, hr⟩ : ∃ r, bitsR (sbit s) (8 * s.size) a n = r := ⟨_, rfl⟩
  rw [hr] at HC ⊢
  clear hr
  go_enter Tryz.func100, Tryz.ntmps100
  go_wp2_with fail
  go_region_with (go_at_call 20; refine HC.out.mono ?_; rintro e w' ⟨rfl, hp⟩)
  all_goals
    go_wp2_with fail
    go_ret2
    exact ⟨rfl, hp.undrew⟩
/-- number, in writing -/
theorem numfixedW {b : List Bool} (n : Int) (x : Int) (ad : Addr) (H : WkAt w base g gk s v (.wr b)) (hb : b.length ≤ 1000000) (hx : w.cell? ad = some (.int .i64 x)) (hc : w.cell? ⟨kc, 0, none⟩ = some (.pointer (some ⟨gk, 0, none⟩))) (hn : w.cell? ⟨nc, 0, none⟩ = some (.int .i64 n)) :
    Calls Tryz.prog 94 #[.pointer (some ⟨gk, 0, none⟩), .pointer (some ad), .func (.func 99) #[] #[.pointer (some ⟨kc, 0, none⟩), .pointer (some ⟨nc, 0, none⟩)], .func (.func 100) #[] #[.pointer (some ⟨kc, 0, none⟩), .pointer (some ⟨nc, 0, none⟩)]] w fun e w' => e = .returned (.tuple #[]) ∧ PutPost w base g v (fxW n x b) w' := by
  have HC := Lib.hid (fixed1_any n x H hb hc hn)
  have c0 := H.bk.cell 0
  simp [wkC] at c0
  clear H hc hn
  go_enter Tryz.func94, Tryz.ntmps94
  go_wp2_with fail
  refine HC.out.mono ?_
  rintro e w' ⟨⟨c, rfl⟩, hp⟩
  have HP := Lib.hid hp
  clear hp
  go_wp2_with fail
  go_end0
  exact ⟨rfl, HP.out⟩
/-- number, in reading -/
theorem numfixedR {a : Nat} {bad many : Bool} (n : Int) (x : Int) (H : WkAt w base g gk s v (.rd a bad many)) (hs : s.size ≤ 140737488351232) {B i : Nat} {t : TypeId} {cs : Array Value} (K : Bk w B t cs) (hx : cs[i]? = some (.int .i64 x)) (hB : ¬ WS g v B) (hk : B ≠ gk) (hc : w.cell? ⟨kc, 0, none⟩ = some (.pointer (some ⟨gk, 0, none⟩))) (hn : w.cell? ⟨nc, 0, none⟩ = some (.int .i64 n)) :
    Calls Tryz.prog 94 #[.pointer (some ⟨gk, 0, none⟩), .pointer (some ⟨B, i, none⟩), .func (.func 99) #[] #[.pointer (some ⟨kc, 0, none⟩), .pointer (some ⟨nc, 0, none⟩)], .func (.func 100) #[] #[.pointer (some ⟨kc, 0, none⟩), .pointer (some ⟨nc, 0, none⟩)]] w fun e w' => e = .returned (.tuple #[]) ∧ Fld w base g gk s v (gotM a bad many (bitsR (sbit s) (8 * s.size) a n)) B t (cs.setIfInBounds i (.int .i64 (gotV bad many x (bitsR (sbit s) (8 * s.size) a n)))) w' := by
  have HS := Lib.hid (wstop_any H)
  have HC := Lib.hid (wfixed2_any n H hs hc hn)
  have c0 := H.bk.cell 0
  have c2 := H.bk.cell 2
  have f2 := H.bk.frozen 2
  simp [wkC] at c0 c2
  have hle : (bitsR (sbit s) (8 * s.size) a n).at_ ≤ 8 * s.size := (bitsR_le (sbit s) (8 * s.size) a n H.io.2.2)
  obtain ⟨r, hr⟩ : ∃ r, bitsR (sbit s) (8 * s.size) a n = r := ⟨_, rfl⟩
  rw [hr] at HC hle ⊢
  by_cases hst : (bad || many) = true
  · rw [gotM_stop hst, gotV_stop hst]
    have HT := Lib.hid (H.fldS K hx)
    have e : (Wk.rd a bad many).stop = true := hst
    rw [e] at HS
    clear e hst H hc HC K hx hn
    go_enter Tryz.func94, Tryz.ntmps94
    go_wp2_with fail
    refine HS.out.mono ?_
    rintro e w' ⟨rfl, rfl⟩
    go_wp2_with fail
    go_end0
    exact ⟨rfl, HT.out⟩
  · have hst' : (bad || many) = false := by simpa using hst
    rw [gotM_go hst', gotV_go hst']
    have HT := Lib.hid (fun (w1 : World) (q : RPost w g s r.at_ w1) => H.fldR (bad' := neB r.e) (x := .int .i64 r.x) (i := i) q hle K hB hk)
    have HK := Lib.hid (fun (w1 : World) (q : RPost w g s r.at_ w1) => (And.intro ((K.touch q.2 (fun e => hB (.inl e))).cell i) ((K.touch q.2 (fun e => hB (.inl e))).frozen i)))
    have HG := Lib.hid (fun (w1 : World) (q : RPost w g s r.at_ w1) => (And.intro ((H.bk.touch q.2 (fun e => H.far (.inl e))).cell 2) ((H.bk.touch q.2 (fun e => H.far (.inl e))).frozen 2)))
    have e : (Wk.rd a bad many).stop = false := hst'
    rw [e] at HS
    clear e hst hst' H hc K hr hn
    go_enter Tryz.func94, Tryz.ntmps94
    go_wp2_with fail
    refine HS.out.mono ?_
    rintro e w' ⟨rfl, rfl⟩
    go_wp2_with fail
    refine HC.out.mono ?_
    rintro e w1 ⟨rfl, hp⟩
    obtain ⟨d0, d1⟩ := HK.out w1 hp
    obtain ⟨d2, d3⟩ := HG.out w1 hp
    rw [hx] at d0
    simp [wkC] at d2
    have HF := Lib.hid (HT.out w1 hp)
    clear hp c0 c2 f2 HT HK HG HC hx
    have n1 : ¬ B = gk := hk
    have n2 : ¬ gk = B := fun e => hk e.symm
    go_wp2_with fail
    go_end0
    exact ⟨rfl, HF.out⟩

end
end Go.Proofs.YtjokibagciehlaaGreat

namespace Go.Proofs.YtjokibagciehlaaGreat
open Go.RowKit
set_option linter.unusedVariables false
set_option linter.unusedSimpArgs false

section
variable {S : Nat → Prop} {w w' w1 : World} {base g gk : Nat} {s : ByteArray} {v v' : Value} {k : Wk}
theorem New.pre {v v' : Value} (h : New w1 v v') (hs : w.heap.size ≤ w1.heap.size) : New w v v' := (New.refl w v).step hs h
theorem PutPost.pre {b : List Bool} (hb : Below w.heap.size w w1) (h : PutPost w1 base g v b w') : PutPost w base g v b w' := by
  obtain ⟨v', h1, h2, h3⟩ := h
  exact ⟨v', h1, (Touch.of_new hb).trans h2, h3.pre hb.size⟩
theorem WkTo.pre (hb : Below w.heap.size w w1) (h : WkTo S w1 base g gk s v k w' v') : WkTo S w base g gk s v k w' v' := ⟨h.at_, h.new.pre hb.size, (Touch.of_new hb).trans h.touch⟩
theorem Fld.pre {B : Nat} {t : TypeId} {cs : Array Value} (hb : Below w.heap.size w w1) (h : Fld w1 base g gk s v k B t cs w') : Fld w base g gk s v k B t cs w' := by
  obtain ⟨v', h1, h2⟩ := h
  exact ⟨v', h1.pre hb, h2⟩
theorem cell_lt {p : Addr} {x : Value} (h : w.cell? p = some x) : p.block < w.heap.size := World.block_lt_of_cell? w _ h
end
section
variable {w : World} {base g gk : Nat} {s : ByteArray} {v : Value} {k : Wk}
set_option maxRecDepth 100000 in
theorem ue_w {b : List Bool} (x : Int) (ad : Addr) (H : WkAt w base g gk s v (.wr b)) (hb : b.length ≤ 1000000) (hx : w.cell? ad = some (.int .i64 x)) :
    Calls Tryz.prog 69 #[.pointer (some ⟨gk, 0, none⟩), .pointer (some ad)] w fun e w' => e = .returned (.tuple #[]) ∧ PutPost w base g v (ueW x b) w' := by
  have hbl : Below w.heap.size w (w.alloc (.cells #[.pointer (some ⟨gk, 0, none⟩)] 78)) := ((Below.refl w.heap.size w).alloc (Nat.le_refl _) _)
  have HC := Lib.hid (numueW x ad (H.go hbl) hb (hbl.cell (cell_lt hx) ▸ hx) ((Bk.new w 78 #[.pointer (some ⟨gk, 0, none⟩)]).cell 0))
  have HB := Lib.hid hbl
  clear hbl H hx
  go_enter Tryz.func69, Tryz.ntmps69
  go_wp2_with fail
  refine HC.out.mono ?_
  rintro e w' ⟨rfl, hp⟩
  have HP := Lib.hid (PutPost.pre HB.out hp)
  clear hp HC HB
  go_wp2_with fail
  go_end0
  exact ⟨rfl, HP.out⟩
set_option maxRecDepth 100000 in
theorem ue_r {a : Nat} {bad many : Bool} (x : Int) (H : WkAt w base g gk s v (.rd a bad many)) (hs : s.size ≤ 140737488351232) {B i : Nat} {t : TypeId} {cs : Array Value} (K : Bk w B t cs) (hx : cs[i]? = some (.int .i64 x)) (hB : ¬ WS g v B) (hk : B ≠ gk) :
    Calls Tryz.prog 69 #[.pointer (some ⟨gk, 0, none⟩), .pointer (some ⟨B, i, none⟩)] w fun e w' => e = .returned (.tuple #[]) ∧ Fld w base g gk s v (ueM (sbit s) (8 * s.size) x (.rd a bad many)) B t (cs.setIfInBounds i (.int .i64 (ueV (sbit s) (8 * s.size) x (.rd a bad many)))) w' := by
  have hbl : Below w.heap.size w (w.alloc (.cells #[.pointer (some ⟨gk, 0, none⟩)] 78)) := ((Below.refl w.heap.size w).alloc (Nat.le_refl _) _)
  have HC := Lib.hid (numueR x (H.go hbl) hs (K.go hbl) hx hB hk ((Bk.new w 78 #[.pointer (some ⟨gk, 0, none⟩)]).cell 0))
  have HB := Lib.hid hbl
  clear hbl H hx K
  go_enter Tryz.func69, Tryz.ntmps69
  go_wp2_with fail
  refine HC.out.mono ?_
  rintro e w' ⟨rfl, hp⟩
  have HP := Lib.hid (Fld.pre HB.out hp)
  clear hp HC HB
  go_wp2_with fail
  go_end0
  exact ⟨rfl, HP.out⟩
theorem ue_k (x : Int) (H : WkAt w base g gk s v k) (hs : s.size ≤ 140737488351232) (hl : k.len ≤ 1000000) {B i : Nat} {t : TypeId} {cs : Array Value} (K : Bk w B t cs) (hx : cs[i]? = some (.int .i64 x)) (hB : ¬ WS g v B) (hk : B ≠ gk) :
    Calls Tryz.prog 69 #[.pointer (some ⟨gk, 0, none⟩), .pointer (some ⟨B, i, none⟩)] w fun e w' => e = .returned (.tuple #[]) ∧ Fld w base g gk s v (ueM (sbit s) (8 * s.size) x k) B t (cs.setIfInBounds i (.int .i64 (ueV (sbit s) (8 * s.size) x k))) w' := by
  cases k with
  | wr b => exact (ue_w x ⟨B, i, none⟩ H hl ((K.cell i).trans hx)).mono fun e w' q => ⟨q.1, H.fldW q.2 K hx hB⟩
  | rd a bad many => exact ue_r x H hs K hx hB hk
set_option maxRecDepth 100000 in
theorem se_w {b : List Bool} (x : Int) (ad : Addr) (H : WkAt w base g gk s v (.wr b)) (hb : b.length ≤ 1000000) (hx : w.cell? ad = some (.int .i64 x)) :
    Calls Tryz.prog 77 #[.pointer (some ⟨gk, 0, none⟩), .pointer (some ad)] w fun e w' => e = .returned (.tuple #[]) ∧ PutPost w base g v (seW x b) w' := by
  have hbl : Below w.heap.size w (w.alloc (.cells #[.pointer (some ⟨gk, 0, none⟩)] 78)) := ((Below.refl w.heap.size w).alloc (Nat.le_refl _) _)
  have HC := Lib.hid (numseW x ad (H.go hbl) hb (hbl.cell (cell_lt hx) ▸ hx) ((Bk.new w 78 #[.pointer (some ⟨gk, 0, none⟩)]).cell 0))
  have HB := Lib.hid hbl
  clear hbl H hx
  go_enter Tryz.func77, Tryz.ntmps77
  go_wp2_with fail
  refine HC.out.mono ?_
  rintro e w' ⟨rfl, hp⟩
  have HP := Lib.hid (PutPost.pre HB.out hp)
  clear hp HC HB
  go_wp2_with fail
  go_end0
  exact ⟨rfl, HP.out⟩
set_option maxRecDepth 100000 in
theorem se_r {a : Nat} {bad many : Bool} (x : Int) (H : WkAt w base g gk s v (.rd a bad many)) (hs : s.size ≤ 140737488351232) {B i : Nat} {t : TypeId} {cs : Array Value} (K : Bk w B t cs) (hx : cs[i]? = some (.int .i64 x)) (hB : ¬ WS g v B) (hk : B ≠ gk) :
    Calls Tryz.prog 77 #[.pointer (some ⟨gk, 0, none⟩), .pointer (some ⟨B, i, none⟩)] w fun e w' => e = .returned (.tuple #[]) ∧ Fld w base g gk s v (seM (sbit s) (8 * s.size) x (.rd a bad many)) B t (cs.setIfInBounds i (.int .i64 (seV (sbit s) (8 * s.size) x (.rd a bad many)))) w' := by
  have hbl : Below w.heap.size w (w.alloc (.cells #[.pointer (some ⟨gk, 0, none⟩)] 78)) := ((Below.refl w.heap.size w).alloc (Nat.le_refl _) _)
  have HC := Lib.hid (numseR x (H.go hbl) hs (K.go hbl) hx hB hk ((Bk.new w 78 #[.pointer (some ⟨gk, 0, none⟩)]).cell 0))
  have HB := Lib.hid hbl
  clear hbl H hx K
  go_enter Tryz.func77, Tryz.ntmps77
  go_wp2_with fail
  refine HC.out.mono ?_
  rintro e w' ⟨rfl, hp⟩
  have HP := Lib.hid (Fld.pre HB.out hp)
  clear hp HC HB
  go_wp2_with fail
  go_end0
  exact ⟨rfl, HP.out⟩
theorem se_k (x : Int) (H : WkAt w base g gk s v k) (hs : s.size ≤ 140737488351232) (hl : k.len ≤ 1000000) {B i : Nat} {t : TypeId} {cs : Array Value} (K : Bk w B t cs) (hx : cs[i]? = some (.int .i64 x)) (hB : ¬ WS g v B) (hk : B ≠ gk) :
    Calls Tryz.prog 77 #[.pointer (some ⟨gk, 0, none⟩), .pointer (some ⟨B, i, none⟩)] w fun e w' => e = .returned (.tuple #[]) ∧ Fld w base g gk s v (seM (sbit s) (8 * s.size) x k) B t (cs.setIfInBounds i (.int .i64 (seV (sbit s) (8 * s.size) x k))) w' := by
  cases k with
  | wr b => exact (se_w x ⟨B, i, none⟩ H hl ((K.cell i).trans hx)).mono fun e w' q => ⟨q.1, H.fldW q.2 K hx hB⟩
  | rd a bad many => exact se_r x H hs K hx hB hk
set_option maxRecDepth 100000 in
theorem fixed_w {b : List Bool} (n : Int) (x : Int) (ad : Addr) (H : WkAt w base g gk s v (.wr b)) (hb : b.length ≤ 1000000) (hx : w.cell? ad = some (.int .i64 x)) :
    Calls Tryz.prog 72 #[.pointer (some ⟨gk, 0, none⟩), .pointer (some ad), .int .i64 n] w fun e w' => e = .returned (.tuple #[]) ∧ PutPost w base g v (fxW n x b) w' := by
  have hbl : Below w.heap.size w ((w.alloc (.cells #[.pointer (some ⟨gk, 0, none⟩)] 78)).alloc (.cells #[.int .i64 n] 3)) := (((Below.refl w.heap.size w).alloc (Nat.le_refl _) (.cells #[.pointer (some ⟨gk, 0, none⟩)] 78)).alloc (by simp) (.cells #[.int .i64 n] 3))
  have HC := Lib.hid (numfixedW (kc := w.heap.size) (nc := (w.alloc (.cells #[.pointer (some ⟨gk, 0, none⟩)] 78)).heap.size) n x ad (H.go hbl) hb (hbl.cell (cell_lt hx) ▸ hx) (((Bk.new w 78 #[.pointer (some ⟨gk, 0, none⟩)]).alloc (.cells #[.int .i64 n] 3)).cell 0) ((Bk.new (w.alloc (.cells #[.pointer (some ⟨gk, 0, none⟩)] 78)) 3 #[.int .i64 n]).cell 0))
  simp only [World.size_alloc] at HC
  have HB := Lib.hid hbl
  clear hbl H hx
  go_enter Tryz.func72, Tryz.ntmps72
  go_wp2_with fail
  refine HC.out.mono ?_
  rintro e w' ⟨rfl, hp⟩
  have HP := Lib.hid (PutPost.pre HB.out hp)
  clear hp HC HB
  go_wp2_with fail
  go_end0
  exact ⟨rfl, HP.out⟩
set_option maxRecDepth 100000 in
theorem fixed_r {a : Nat} {bad many : Bool} (n : Int) (x : Int) (H : WkAt w base g gk s v (.rd a bad many)) (hs : s.size ≤ 140737488351232) {B i : Nat} {t : TypeId} {cs : Array Value} (K : Bk w B t cs) (hx : cs[i]? = some (.int .i64 x)) (hB : ¬ WS g v B) (hk : B ≠ gk) :
    Calls Tryz.prog 72 #[.pointer (some ⟨gk, 0, none⟩), .pointer (some ⟨B, i, none⟩), .int .i64 n] w fun e w' => e = .returned (.tuple #[]) ∧ Fld w base g gk s v (fxM (sbit s) (8 * s.size) n x (.rd a bad many)) B t (cs.setIfInBounds i (.int .i64 (fxV (sbit s) (8 * s.size) n x (.rd a bad many)))) w' := by
  have hbl : Below w.heap.size w ((w.alloc (.cells #[.pointer (some ⟨gk, 0, none⟩)] 78)).alloc (.cells #[.int .i64 n] 3)) := (((Below.refl w.heap.size w).alloc (Nat.le_refl _) (.cells #[.pointer (some ⟨gk, 0, none⟩)] 78)).alloc (by simp) (.cells #[.int .i64 n] 3))
  have HC := Lib.hid (numfixedR (kc := w.heap.size) (nc := (w.alloc (.cells #[.pointer (some ⟨gk, 0, none⟩)] 78)).heap.size) n x (H.go hbl) hs (K.go hbl) hx hB hk (((Bk.new w 78 #[.pointer (some ⟨gk, 0, none⟩)]).alloc (.cells #[.int .i64 n] 3)).cell 0) ((Bk.new (w.alloc (.cells #[.pointer (some ⟨gk, 0, none⟩)] 78)) 3 #[.int .i64 n]).cell 0))
  simp only [World.size_alloc] at HC
  have HB := Lib.hid hbl
  clear hbl H hx K
  go_enter Tryz.func72, Tryz.ntmps72
  go_wp2_with fail
  refine HC.out.mono ?_
  rintro e w' ⟨rfl, hp⟩
  have HP := Lib.hid (Fld.pre HB.out hp)
  clear hp HC HB
  go_wp2_with fail
  go_end0
  exact ⟨rfl, HP.out⟩
theorem fixed_k (n : Int) (x : Int) (H : WkAt w base g gk s v k) (hs : s.size ≤ 140737488351232) (hl : k.len ≤ 1000000) {B i : Nat} {t : TypeId} {cs : Array Value} (K : Bk w B t cs) (hx : cs[i]? = some (.int .i64 x)) (hB : ¬ WS g v B) (hk : B ≠ gk) :
    Calls Tryz.prog 72 #[.pointer (some ⟨gk, 0, none⟩), .pointer (some ⟨B, i, none⟩), .int .i64 n] w fun e w' => e = .returned (.tuple #[]) ∧ Fld w base g gk s v (fxM (sbit s) (8 * s.size) n x k) B t (cs.setIfInBounds i (.int .i64 (fxV (sbit s) (8 * s.size) n x k))) w' := by
  cases k with
  | wr b => exact (fixed_w n x ⟨B, i, none⟩ H hl ((K.cell i).trans hx)).mono fun e w' q => ⟨q.1, H.fldW q.2 K hx hB⟩
  | rd a bad many => exact fixed_r n x H hs K hx hB hk
end
end Go.Proofs.YtjokibagciehlaaGreat

namespace Go.Proofs.YtjokibagciehlaaGreat
open Go.RowKit
set_option linter.unusedVariables false
set_option linter.unusedSimpArgs false

theorem WkTo.store {w w1 w2 : World} {base g gk Bn B i : Nat} {s : ByteArray} {v v' : Value} {k' : Wk} {t : TypeId} {cs : Array Value} {u : Value} (hb : Below w.heap.size w w1) (h : WkTo (fun i => i = Bn) w1 base g gk s v k' w2 v') (hBn : w.heap.size ≤ Bn) (K : Bk w B t cs) (hB : ¬ WS g v B) (hk : B ≠ gk) :
    Fld w base g gk s v k' B t (cs.setIfInBounds i u) (w2.setCell ⟨B, i, none⟩ u) := by
  have hBl := K.lt
  have hBn' : B ≠ Bn := by omega
  have hl1 : B < w1.heap.size := by have := hb.size; omega
  have hB' : ¬ WS g v' B := fun q => hB (ws_new h.new hl1 q)
  have K1 : Bk w2 B t cs := (K.go hb).touch h.touch (by unfold KS; rintro (q | q | q); exact hB q; exact hk q; exact hBn' q)
  have ht : Touch (fun j => j = B) w2 (w2.setCell ⟨B, i, none⟩ u) := (Touch.refl (fun j => j = B) w2).setCell (p := ⟨B, i, none⟩) (fun _ => rfl) u
  have hA := h.at_.touch_ ht (fun j hj e => hB' (e ▸ hj)) (fun e => hk e.symm)
  refine ⟨v', ⟨hA, h.new.pre hb.size, ?_⟩, K1.set_ i u⟩
  have h1 : Touch (KS g gk v (fun j => j = B)) w w2 := (Touch.of_new hb).old h.touch (fun j hj q => by
    rcases q with q | q | q
    · exact .inl q
    · exact .inr (.inl q)
    · exact absurd q (by omega))
  exact h1.setCell (fun _ => .inr (.inr rfl)) u
section
variable {w : World} {base g gk : Nat} {s : ByteArray} {v : Value} {k : Wk}
set_option maxRecDepth 100000 in
theorem flag_k (x : Bool) (H : WkAt w base g gk s v k) (hs : s.size ≤ 140737488351232) (hl : k.len ≤ 1000000) {B i : Nat} {t : TypeId} {cs : Array Value} (K : Bk w B t cs) (hx : cs[i]? = some (.bool x)) (hB : ¬ WS g v B) (hk : B ≠ gk) :
    Calls Tryz.prog 74 #[.pointer (some ⟨gk, 0, none⟩), .pointer (some ⟨B, i, none⟩)] w fun e w' => e = .returned (.tuple #[]) ∧ Fld w base g gk s v (flM (sbit s) (8 * s.size) x k) B t (cs.setIfInBounds i (.bool (flV (sbit s) (8 * s.size) x k))) w' := by
  have hbl : Below w.heap.size w (w.alloc (.cells #[.int .i64 (bit01 x)] 3)) := (Below.refl w.heap.size w).alloc (Nat.le_refl _) _
  have KN := Bk.new w 3 #[.int .i64 (bit01 x)]
  have HC := Lib.hid (fixed_k 1 (bit01 x) (H.go hbl) hs hl KN (i := 0) rfl (H.past (Nat.le_refl _)) (by have := H.bk.lt; omega))
  have c0 := (K.cell i).trans hx
  have hlt := K.lt
  have HB := Lib.hid hbl
  have HK := Lib.hid K
  have HT := Lib.hid (fun (w2 : World) (v' : Value) (q : WkTo (fun i => i = w.heap.size) (w.alloc (.cells #[.int .i64 (bit01 x)] 3)) base g gk s v (fxM (sbit s) (8 * s.size) 1 (bit01 x) k) w2 v') => WkTo.store (i := i) (u := .bool (fxV (sbit s) (8 * s.size) 1 (bit01 x) k == 1)) hbl q (Nat.le_refl _) K hB hk)
  have HF := Lib.hid (fun (w2 : World) (v' : Value) (q : WkTo (fun i => i = w.heap.size) (w.alloc (.cells #[.int .i64 (bit01 x)] 3)) base g gk s v (fxM (sbit s) (8 * s.size) 1 (bit01 x) k) w2 v') => (And.intro ((((K.go hbl).touch q.touch (by unfold KS; rintro (q | q | q); exact hB q; exact hk q; exact absurd q (by omega))).cell i).trans hx) (((K.go hbl).touch q.touch (by unfold KS; rintro (q | q | q); exact hB q; exact hk q; exact absurd q (by omega))).frozen i)))
  have hnb : ¬ B = w.heap.size := by omega
  unfold flM flV
  generalize fxM (sbit s) (8 * s.size) 1 (bit01 x) k = M1 at *
  generalize fxV (sbit s) (8 * s.size) 1 (bit01 x) k = V1 at *
  clear hbl H K KN hB hk hl hs
  cases x
  all_goals
    simp only [bit01, if_true, if_false, Bool.false_eq_true] at *
    go_enter Tryz.func74, Tryz.ntmps74
    go_wp2_with fail
    refine HC.out.mono ?_
    rintro e w2 ⟨rfl, v', q, kn⟩
    have d0 := kn.cell 0
    simp at d0
    obtain ⟨d1, d2⟩ := HF.out w2 v' q
    have HR := Lib.hid (HT.out w2 v' q)
    clear q kn HC HT HF c0 hx
    go_wp2_with fail
    go_end0
    exact ⟨rfl, HR.out⟩
theorem ueV_bd (f : Nat → Bool) (N : Nat) (x : Int) (k : Wk) (ha : ∀ a bad many, k = .rd a bad many → a ≤ N) : ueV f N x k = x ∨ (0 ≤ ueV f N x k ∧ ueV f N x k ≤ 2147483646) := by
  cases k with
  | wr b => exact .inl rfl
  | rd a bad many =>
    unfold ueV gotV
    by_cases h : (bad || many) = true
    · exact .inl (if_pos h)
    · right
      simp only [if_neg h]
      have := ueR_bd f N a (ha a bad many rfl)
      exact ⟨this.1, this.2.1⟩
theorem WkAt.le (H : WkAt w base g gk s v k) : ∀ a bad many, k = .rd a bad many → a ≤ 8 * s.size := fun a bad many e => by subst e; exact H.io.2.2
set_option maxRecDepth 100000 in
theorem less_k (x : Int) (H : WkAt w base g gk s v k) (hs : s.size ≤ 140737488351232) (hl : k.len ≤ 1000000) (x0 : -4611686018427387904 ≤ x) (x1 : x ≤ 4611686018427387904) {B i : Nat} {t : TypeId} {cs : Array Value} (K : Bk w B t cs) (hx : cs[i]? = some (.int .i64 x)) (hB : ¬ WS g v B) (hk : B ≠ gk) :
    Calls Tryz.prog 70 #[.pointer (some ⟨gk, 0, none⟩), .pointer (some ⟨B, i, none⟩)] w fun e w' => e = .returned (.tuple #[]) ∧ Fld w base g gk s v (lsM (sbit s) (8 * s.size) x k) B t (cs.setIfInBounds i (.int .i64 (lsV (sbit s) (8 * s.size) x k))) w' := by
  have hbl : Below w.heap.size w (w.alloc (.cells #[.int .i64 (x - 1)] 3)) := (Below.refl w.heap.size w).alloc (Nat.le_refl _) _
  have KN := Bk.new w 3 #[.int .i64 (x - 1)]
  have HC := Lib.hid (ue_k (x - 1) (H.go hbl) hs hl KN (i := 0) rfl (H.past (Nat.le_refl _)) (by have := H.bk.lt; omega))
  have c0 := (K.cell i).trans hx
  have hlt := K.lt
  have HB := Lib.hid hbl
  have HK := Lib.hid K
  have HT := Lib.hid (fun (w2 : World) (v' : Value) (q : WkTo (fun i => i = w.heap.size) (w.alloc (.cells #[.int .i64 (x - 1)] 3)) base g gk s v (ueM (sbit s) (8 * s.size) (x - 1) k) w2 v') => WkTo.store (i := i) (u := .int .i64 (ueV (sbit s) (8 * s.size) (x - 1) k + 1)) hbl q (Nat.le_refl _) K hB hk)
  have HF := Lib.hid (fun (w2 : World) (v' : Value) (q : WkTo (fun i => i = w.heap.size) (w.alloc (.cells #[.int .i64 (x - 1)] 3)) base g gk s v (ueM (sbit s) (8 * s.size) (x - 1) k) w2 v') => (And.intro ((((K.go hbl).touch q.touch (by unfold KS; rintro (q | q | q); exact hB q; exact hk q; exact absurd q (by omega))).cell i).trans hx) (((K.go hbl).touch q.touch (by unfold KS; rintro (q | q | q); exact hB q; exact hk q; exact absurd q (by omega))).frozen i)))
  have hnb : ¬ B = w.heap.size := by omega
  have hvb := ueV_bd (sbit s) (8 * s.size) (x - 1) k H.le
  unfold lsM lsV
  generalize ueM (sbit s) (8 * s.size) (x - 1) k = M1 at *
  generalize ueV (sbit s) (8 * s.size) (x - 1) k = V1 at *
  have hv0 : -4611686018427387906 ≤ V1 ∧ V1 ≤ 4611686018427387906 := by omega
  clear hbl H K KN hlt hB hk hl hs hvb
  go_enter Tryz.func70, Tryz.ntmps70
  go_wp2_with fail
  refine HC.out.mono ?_
  rintro e w2 ⟨rfl, v', q, kn⟩
  have d0 := kn.cell 0
  simp at d0
  obtain ⟨d1, d2⟩ := HF.out w2 v' q
  have HR := Lib.hid (HT.out w2 v' q)
  clear q kn HC HT HF c0 hx
  go_wp2_with fail
  go_end0
  exact ⟨rfl, HR.out⟩
end
end Go.Proofs.YtjokibagciehlaaGreat

namespace Go.Proofs.YtjokibagciehlaaGreat
open Go.RowKit
set_option linter.unusedVariables false
set_option linter.unusedSimpArgs false

section
variable {S T : Nat → Prop} {w w' w1 w2 : World} {base g gk : Nat} {s : ByteArray} {v v1 v2 : Value} {k k1 k2 : Wk}
theorem WkTo.refl (S : Nat → Prop) (H : WkAt w base g gk s v k) : WkTo S w base g gk s v k w v := ⟨H, .inl rfl, Touch.refl _ _⟩
theorem WkTo.trans (h : WkTo S w base g gk s v k1 w1 v1) (q : WkTo T w1 base g gk s v1 k2 w2 v2) (hT : ∀ i, i < w.heap.size → T i → S i) : WkTo S w base g gk s v k2 w2 v2 :=
  ⟨q.at_, h.new.step h.touch.size q.new, h.touch.old q.touch fun i hi hs => by
    rcases hs with hs | hs | hs
    · exact .inl (ws_new h.new hi hs)
    · exact .inr (.inl hs)
    · exact .inr (.inr (hT i hi hs))⟩
theorem WkTo.mono (h : WkTo S w base g gk s v k1 w1 v1) (hT : ∀ i, i < w.heap.size → S i → T i) : WkTo T w base g gk s v k1 w1 v1 :=
  ⟨h.at_, h.new, h.touch.mono fun i hi hs => by
    rcases hs with hs | hs | hs
    · exact .inl hs
    · exact .inr (.inl hs)
    · exact .inr (.inr (hT i hi hs))⟩
/-- what a step leaves as it was -/
theorem WkTo.cell (h : WkTo S w base g gk s v k1 w1 v1) {p : Addr} {x : Value} (hc : w.cell? p = some x) (h1 : ¬ WS g v p.block) (h2 : p.block ≠ gk) (h3 : ¬ S p.block) : w1.cell? p = some x :=
  (h.touch.cell (cell_lt hc) (by rintro (q | q | q); exact h1 q; exact h2 q; exact h3 q)).trans hc
theorem WkTo.ws (h : WkTo S w base g gk s v k1 w1 v1) {B : Nat} (hl : B < w.heap.size) (h1 : ¬ WS g v B) : ¬ WS g v1 B := fun q => h1 (ws_new h.new hl q)
theorem Fld.next {B : Nat} {t : TypeId} {cs cs2 : Array Value} (h : Fld w base g gk s v k1 B t cs w1) (hl : B < w.heap.size) (q : ∀ v1, WkAt w1 base g gk s v1 k1 → Bk w1 B t cs → (¬ WS g v B → ¬ WS g v1 B) → Fld w1 base g gk s v1 k2 B t cs2 w2) : Fld w base g gk s v k2 B t cs2 w2 := by
  obtain ⟨v1, h1, h2⟩ := h
  obtain ⟨v2, q1, q2⟩ := q v1 h1.at_ h2 (h1.ws hl)
  exact ⟨v2, h1.trans q1 (fun _ _ e => e), q2⟩
end
theorem ueW_le (x : Int) (b : List Bool) : (ueW x b).length ≤ b.length + 64 := by
  unfold ueW
  split
  · rename_i h
    have := ueL_le (x := x.toNat) (by omega)
    rw [List.length_append]
    omega
  · omega
theorem seW_le (x : Int) (b : List Bool) : (seW x b).length ≤ b.length + 64 := by
  unfold seW
  split
  · rename_i h
    have := seL_le h.1 h.2
    rw [List.length_append]
    omega
  · omega
theorem fxW_le (n x : Int) (b : List Bool) : (fxW n x b).length ≤ b.length + 64 := by
  unfold fxW
  split
  · rename_i h
    rw [List.length_append, dig_len]
    omega
  · omega
section
variable (f : Nat → Bool) (N : Nat)
theorem gotM_len (a : Nat) (bad many : Bool) (r : Got) : (gotM a bad many r).len = 0 := by unfold gotM; split <;> rfl
theorem ueM_len (x : Int) (k : Wk) : (ueM f N x k).len ≤ k.len + 64 := by
  cases k with
  | wr b => exact ueW_le x b
  | rd a bad many => show (gotM a bad many _).len ≤ _; rw [gotM_len]; omega
theorem seM_len (x : Int) (k : Wk) : (seM f N x k).len ≤ k.len + 64 := by
  cases k with
  | wr b => exact seW_le x b
  | rd a bad many => show (gotM a bad many _).len ≤ _; rw [gotM_len]; omega
theorem fxM_len (n x : Int) (k : Wk) : (fxM f N n x k).len ≤ k.len + 64 := by
  cases k with
  | wr b => exact fxW_le n x b
  | rd a bad many => show (gotM a bad many _).len ≤ _; rw [gotM_len]; omega
theorem ckM_len (b : Bool) (k : Wk) : (ckM b k).len = k.len := by cases k <;> rfl
theorem mdM_len (x : Md) (k : Wk) : (mdM f N x k).len ≤ k.len + 192 := by
  unfold mdM
  have h1 := ueM_len f N x.v (ueM f N x.k k)
  have h2 := ueM_len f N x.k k
  omega
theorem moM1_len (x : Mo) (k : Wk) : (moM1 f N x k).len ≤ k.len + 64 := by
  unfold moM1
  rw [ckM_len]
  exact ueM_len f N x.k k
theorem moM2_len (x : Mo) (k : Wk) : (moM2 f N x k).len ≤ k.len + 128 := by
  unfold moM2
  have h1 := moM1_len f N x k
  split
  · have h2 := ueM_len f N x.a (moM1 f N x k)
    omega
  · omega
theorem moM_len (x : Mo) (k : Wk) : (moM f N x k).len ≤ k.len + 192 := by
  unfold moM
  have h1 := moM2_len f N x k
  split
  · have h2 := ueM_len f N x.b (moM2 f N x k)
    omega
  · omega
end
theorem isW_ue (f : Nat → Bool) (N : Nat) (x : Int) (k : Wk) : (ueM f N x k).isW = k.isW := by
  cases k with
  | wr b => rfl
  | rd a bad many => show (gotM a bad many _).isW = false; unfold gotM; split <;> rfl
/-- in writing: nothing but the Writer turns -/
def Wrt (w : World) (base g gk : Nat) (s : ByteArray) (v : Value) (k : Wk) (w1 : World) : Prop := ∃ v1, WkTo (fun _ => False) w base g gk s v k w1 v1
section
variable {w w1 : World} {base g gk : Nat} {s : ByteArray} {v : Value} {k k1 : Wk} {B i : Nat} {t : TypeId} {cs : Array Value}
theorem Wrt.refl (H : WkAt w base g gk s v k) : Wrt w base g gk s v k w := ⟨v, WkTo.refl _ H⟩
theorem Fld.refl (H : WkAt w base g gk s v k) (K : Bk w B t cs) : Fld w base g gk s v k B t cs w := ⟨v, WkTo.refl _ H, K⟩
theorem Fld.bk (q : Fld w base g gk s v k1 B t cs w1) : Bk w1 B t cs := by obtain ⟨_, _, h⟩ := q; exact h
theorem Fld.drew (q : Fld w base g gk s v k1 B t cs w1) : Fld w base g gk s v k1 B t cs w1.drew := by
  obtain ⟨v1, q1, q2⟩ := q
  exact ⟨v1, ⟨q1.at_.drew, q1.new, q1.touch.drew⟩, q2⟩
theorem Wrt.ue {b : List Bool} (q : Wrt w base g gk s v (.wr b) w1) (x : Int) (p : Addr) (hb : b.length ≤ 1000000) (hc : w.cell? p = some (.int .i64 x)) (hp : ¬ WS g v p.block) (hk : p.block ≠ gk) :
    Calls Tryz.prog 69 #[.pointer (some ⟨gk, 0, none⟩), .pointer (some p)] w1 fun e w2 => e = .returned (.tuple #[]) ∧ Wrt w base g gk s v (ueM (sbit s) (8 * s.size) x (.wr b)) w2 := by
  obtain ⟨v1, q1⟩ := q
  exact (ue_w x p q1.at_ hb (q1.cell hc hp hk (fun e => e))).mono fun e w2 r => ⟨r.1, by
    obtain ⟨v2, r2⟩ := q1.at_.put (S := fun _ => False) r.2
    exact ⟨v2, q1.trans r2 (fun _ _ e => e)⟩⟩
theorem Wrt.se {b : List Bool} (q : Wrt w base g gk s v (.wr b) w1) (x : Int) (p : Addr) (hb : b.length ≤ 1000000) (hc : w.cell? p = some (.int .i64 x)) (hp : ¬ WS g v p.block) (hk : p.block ≠ gk) :
    Calls Tryz.prog 77 #[.pointer (some ⟨gk, 0, none⟩), .pointer (some p)] w1 fun e w2 => e = .returned (.tuple #[]) ∧ Wrt w base g gk s v (seM (sbit s) (8 * s.size) x (.wr b)) w2 := by
  obtain ⟨v1, q1⟩ := q
  exact (se_w x p q1.at_ hb (q1.cell hc hp hk (fun e => e))).mono fun e w2 r => ⟨r.1, by
    obtain ⟨v2, r2⟩ := q1.at_.put (S := fun _ => False) r.2
    exact ⟨v2, q1.trans r2 (fun _ _ e => e)⟩⟩
theorem Wrt.check (q : Wrt w base g gk s v k w1) (fine : Bool) : Calls Tryz.prog 71 #[.pointer (some ⟨gk, 0, none⟩), .bool fine] w1 fun e w2 => e = .returned (.tuple #[]) ∧ Wrt w base g gk s v (ckM fine k) w2 := by
  obtain ⟨v1, q1⟩ := q
  exact (check_any fine q1.at_).mono fun e w2 r => ⟨r.1, v1, q1.trans r.2 (fun _ _ e => e)⟩
theorem Fld.ue (q : Fld w base g gk s v k B t cs w1) (hs : s.size ≤ 140737488351232) (x : Int) (i : Nat) (hl : k.len ≤ 1000000) (hx : cs[i]? = some (.int .i64 x)) (hB : ¬ WS g v B) (hk : B ≠ gk) (hlt : B < w.heap.size) :
    Calls Tryz.prog 69 #[.pointer (some ⟨gk, 0, none⟩), .pointer (some ⟨B, i, none⟩)] w1 fun e w2 => e = .returned (.tuple #[]) ∧ Fld w base g gk s v (ueM (sbit s) (8 * s.size) x k) B t (cs.setIfInBounds i (.int .i64 (ueV (sbit s) (8 * s.size) x k))) w2 := by
  obtain ⟨v1, q1, q2⟩ := q
  exact (ue_k x q1.at_ hs hl q2 hx (q1.ws hlt hB) hk).mono fun e w2 r => ⟨r.1, by
    obtain ⟨v2, r1, r2⟩ := r.2
    exact ⟨v2, q1.trans r1 (fun _ _ e => e), r2⟩⟩
theorem Fld.se (q : Fld w base g gk s v k B t cs w1) (hs : s.size ≤ 140737488351232) (x : Int) (i : Nat) (hl : k.len ≤ 1000000) (hx : cs[i]? = some (.int .i64 x)) (hB : ¬ WS g v B) (hk : B ≠ gk) (hlt : B < w.heap.size) :
    Calls Tryz.prog 77 #[.pointer (some ⟨gk, 0, none⟩), .pointer (some ⟨B, i, none⟩)] w1 fun e w2 => e = .returned (.tuple #[]) ∧ Fld w base g gk s v (seM (sbit s) (8 * s.size) x k) B t (cs.setIfInBounds i (.int .i64 (seV (sbit s) (8 * s.size) x k))) w2 := by
  obtain ⟨v1, q1, q2⟩ := q
  exact (se_k x q1.at_ hs hl q2 hx (q1.ws hlt hB) hk).mono fun e w2 r => ⟨r.1, by
    obtain ⟨v2, r1, r2⟩ := r.2
    exact ⟨v2, q1.trans r1 (fun _ _ e => e), r2⟩⟩
theorem Fld.fixed (q : Fld w base g gk s v k B t cs w1) (hs : s.size ≤ 140737488351232) (n x : Int) (i : Nat) (hl : k.len ≤ 1000000) (hx : cs[i]? = some (.int .i64 x)) (hB : ¬ WS g v B) (hk : B ≠ gk) (hlt : B < w.heap.size) :
    Calls Tryz.prog 72 #[.pointer (some ⟨gk, 0, none⟩), .pointer (some ⟨B, i, none⟩), .int .i64 n] w1 fun e w2 => e = .returned (.tuple #[]) ∧ Fld w base g gk s v (fxM (sbit s) (8 * s.size) n x k) B t (cs.setIfInBounds i (.int .i64 (fxV (sbit s) (8 * s.size) n x k))) w2 := by
  obtain ⟨v1, q1, q2⟩ := q
  exact (fixed_k n x q1.at_ hs hl q2 hx (q1.ws hlt hB) hk).mono fun e w2 r => ⟨r.1, by
    obtain ⟨v2, r1, r2⟩ := r.2
    exact ⟨v2, q1.trans r1 (fun _ _ e => e), r2⟩⟩
theorem Fld.flag (q : Fld w base g gk s v k B t cs w1) (hs : s.size ≤ 140737488351232) (x : Bool) (i : Nat) (hl : k.len ≤ 1000000) (hx : cs[i]? = some (.bool x)) (hB : ¬ WS g v B) (hk : B ≠ gk) (hlt : B < w.heap.size) :
    Calls Tryz.prog 74 #[.pointer (some ⟨gk, 0, none⟩), .pointer (some ⟨B, i, none⟩)] w1 fun e w2 => e = .returned (.tuple #[]) ∧ Fld w base g gk s v (flM (sbit s) (8 * s.size) x k) B t (cs.setIfInBounds i (.bool (flV (sbit s) (8 * s.size) x k))) w2 := by
  obtain ⟨v1, q1, q2⟩ := q
  exact (flag_k x q1.at_ hs hl q2 hx (q1.ws hlt hB) hk).mono fun e w2 r => ⟨r.1, by
    obtain ⟨v2, r1, r2⟩ := r.2
    exact ⟨v2, q1.trans r1 (fun _ _ e => e), r2⟩⟩
theorem Fld.less (q : Fld w base g gk s v k B t cs w1) (hs : s.size ≤ 140737488351232) (x : Int) (i : Nat) (hl : k.len ≤ 1000000) (x0 : -4611686018427387904 ≤ x) (x1 : x ≤ 4611686018427387904) (hx : cs[i]? = some (.int .i64 x)) (hB : ¬ WS g v B) (hk : B ≠ gk) (hlt : B < w.heap.size) :
    Calls Tryz.prog 70 #[.pointer (some ⟨gk, 0, none⟩), .pointer (some ⟨B, i, none⟩)] w1 fun e w2 => e = .returned (.tuple #[]) ∧ Fld w base g gk s v (lsM (sbit s) (8 * s.size) x k) B t (cs.setIfInBounds i (.int .i64 (lsV (sbit s) (8 * s.size) x k))) w2 := by
  obtain ⟨v1, q1, q2⟩ := q
  exact (less_k x q1.at_ hs hl x0 x1 q2 hx (q1.ws hlt hB) hk).mono fun e w2 r => ⟨r.1, by
    obtain ⟨v2, r1, r2⟩ := r.2
    exact ⟨v2, q1.trans r1 (fun _ _ e => e), r2⟩⟩
theorem Fld.check (q : Fld w base g gk s v k B t cs w1) (fine : Bool) (hB : ¬ WS g v B) (hk : B ≠ gk) (hlt : B < w.heap.size) : Calls Tryz.prog 71 #[.pointer (some ⟨gk, 0, none⟩), .bool fine] w1 fun e w2 => e = .returned (.tuple #[]) ∧ Fld w base g gk s v (ckM fine k) B t cs w2 := by
  obtain ⟨v1, q1, q2⟩ := q
  exact (check_any fine q1.at_).mono fun e w2 r => ⟨r.1, v1, q1.trans r.2 (fun _ _ e => e.elim), q2.touch r.2.touch (by rintro (e | e | e); exact q1.ws hlt hB e; exact hk e; exact e)⟩
theorem Fld.stop (q : Fld w base g gk s v k B t cs w1) : Calls Tryz.prog 103 #[.pointer (some ⟨gk, 0, none⟩)] w1 fun e w2 => e = .returned (.bool k.stop) ∧ w1 = w2 := by
  obtain ⟨v1, q1, q2⟩ := q
  exact wstop_any q1.at_
end
section
variable {w : World} {base g gk : Nat} {s : ByteArray} {v : Value} {k : Wk}
set_option maxRecDepth 100000 in
/-- in writing: a row of any memory -/
theorem mod_w {b : List Bool} (x : Md) (p : Addr) (H : WkAt w base g gk s v (.wr b)) (hb : b.length ≤ 900000) (c0 : w.cell? p = some (.int .i64 x.k)) (c1 : w.cell? ⟨p.block, p.off + 1, none⟩ = some (.int .i64 x.v)) (hp : ¬ WS g v p.block) (hk : p.block ≠ gk) :
    Calls Tryz.prog 102 #[.pointer (some ⟨gk, 0, none⟩), .pointer (some p)] w fun e w' => e = .returned (.tuple #[]) ∧ Wrt w base g gk s v (mdM (sbit s) (8 * s.size) x (.wr b)) w' := by
  have h1 := ueW_le x.k b
  have HF := Lib.hid (Wrt.refl H)
  have C0 := Lib.hid c0
  have C1 := Lib.hid c1
  have HP := Lib.hid (And.intro hp hk)
  clear H c0 c1 hp hk
  go_enter Tryz.func102, Tryz.ntmps102
  go_wp2_with fail
  refine (HF.out.ue x.k p (by omega) C0.out HP.out.1 HP.out.2).mono ?_
  rintro e w1 ⟨rfl, hq⟩
  replace HF := Lib.hid hq
  clear hq
  go_wp2_with fail
  refine (Wrt.ue (b := ueW x.k b) HF.out x.v ⟨p.block, p.off + 1, none⟩ (by omega) C1.out HP.out.1 HP.out.2).mono ?_
  rintro e w2 ⟨rfl, hq⟩
  replace HF := Lib.hid hq
  clear hq
  go_wp2_with fail
  go_end0
  exact ⟨rfl, HF.out⟩
set_option maxRecDepth 100000 in
/-- a row of a block that is known -/
theorem mod_k (x : Md) (H : WkAt w base g gk s v k) (hs : s.size ≤ 140737488351232) (hl : k.len ≤ 900000) {B i : Nat} {t : TypeId} {cs : Array Value} (K : Bk w B t cs) (h0 : cs[i]? = some (.int .i64 x.k)) (h1 : cs[i + 1]? = some (.int .i64 x.v)) (hB : ¬ WS g v B) (hk : B ≠ gk) :
    Calls Tryz.prog 102 #[.pointer (some ⟨gk, 0, none⟩), .pointer (some ⟨B, i, none⟩)] w fun e w' => e = .returned (.tuple #[]) ∧ Fld w base g gk s v (mdM (sbit s) (8 * s.size) x k) B t ((cs.setIfInBounds i (.int .i64 (mdV (sbit s) (8 * s.size) x k).k)).setIfInBounds (i + 1) (.int .i64 (mdV (sbit s) (8 * s.size) x k).v)) w' := by
  have l1 := ueM_len (sbit s) (8 * s.size) x.k k
  have HF := Lib.hid (Fld.refl H K)
  have C0 := Lib.hid h0
  have C1 := Lib.hid h1
  have HP := Lib.hid (And.intro hs (And.intro hB (And.intro hk K.lt)))
  clear H h0 h1 hs hB hk K
  go_enter Tryz.func102, Tryz.ntmps102
  go_wp2_with fail
  refine (HF.out.ue HP.out.1 x.k i (by omega) C0.out HP.out.2.1 HP.out.2.2.1 HP.out.2.2.2).mono ?_
  rintro e w1 ⟨rfl, hq⟩
  replace HF := Lib.hid hq
  clear hq
  go_wp2_with fail
  refine (HF.out.ue HP.out.1 x.v (i + 1) (by omega) (by rw [Array.getElem?_setIfInBounds_ne (by omega)]; exact C1.out) HP.out.2.1 HP.out.2.2.1 HP.out.2.2.2).mono ?_
  rintro e w2 ⟨rfl, hq⟩
  replace HF := Lib.hid hq
  clear hq
  go_wp2_with fail
  go_end0
  exact ⟨rfl, HF.out⟩
set_option maxRecDepth 100000 in
set_option maxHeartbeats 1600000 in
theorem op_w {b : List Bool} (x : Mo) (p : Addr) (H : WkAt w base g gk s v (.wr b)) (hb : b.length ≤ 900000) (c0 : w.cell? p = some (.int .i64 x.k)) (c1 : w.cell? ⟨p.block, p.off + 1, none⟩ = some (.int .i64 x.a)) (c2 : w.cell? ⟨p.block, p.off + 2, none⟩ = some (.int .i64 x.b)) (hp : ¬ WS g v p.block) (hk : p.block ≠ gk) :
    Calls Tryz.prog 76 #[.pointer (some ⟨gk, 0, none⟩), .pointer (some p)] w fun e w' => e = .returned (.tuple #[]) ∧ Wrt w base g gk s v (moM (sbit s) (8 * s.size) x (.wr b)) w' := by
  have l1 := ueW_le x.k b
  have l2 := ueW_le x.a (ueW x.k b)
  have HF := Lib.hid (Wrt.refl H)
  have C0 := Lib.hid c0
  have C1 := Lib.hid c1
  have C2 := Lib.hid c2
  have HP := Lib.hid (And.intro hp hk)
  have hrd : ∀ w1 : World, Wrt w base g gk s v (.wr (ueW x.k b)) w1 → w1.cell? p = some (.int .i64 x.k) := fun w1 ⟨v1, q⟩ => q.cell C0.out HP.out.1 HP.out.2 (fun e => e)
  have HRD := Lib.hid hrd
  obtain ⟨A, hA⟩ : ∃ A, hasA x.k = A := ⟨_, rfl⟩
  obtain ⟨B, hB⟩ : ∃ A, hasB x.k = A := ⟨_, rfl⟩
  have HH := Lib.hid (fun w => hA ▸ hB ▸ has_any2 x.k w)
  have hM : moM (sbit s) (8 * s.size) x (.wr b) = .wr (if B = true then ueW x.b (if A = true then ueW x.a (ueW x.k b) else ueW x.k b) else (if A = true then ueW x.a (ueW x.k b) else ueW x.k b)) := by
    unfold moM moM2 moM1
    simp only [ueV, hA, hB]
    cases A <;> cases B <;> rfl
  have HM := Lib.hid hM
  clear H c0 c1 c2 hp hk hrd hA hB hM
  cases A <;> cases B
  all_goals
    go_enter Tryz.func76, Tryz.ntmps76
    go_wp2_with fail
    refine (HF.out.ue x.k p (by omega) C0.out HP.out.1 HP.out.2).mono ?_
    rintro e w1 ⟨rfl, hq⟩
    replace HF : Hid (Wrt w base g gk s v (.wr (ueW x.k b)) w1) := Lib.hid hq
    have d0 := HRD.out _ hq
    clear hq
    go_wp2_with fail
    refine (hin_any x.k 1 6 w1).mono ?_
    rintro e w1' ⟨rfl, rfl⟩
    go_wp2_with fail
    refine (HF.out.check _).mono ?_
    rintro e w2 ⟨rfl, hq⟩
    replace HF : Hid (Wrt w base g gk s v (.wr (ueW x.k b)) w2) := Lib.hid hq
    clear d0
    have d0 := HRD.out _ hq
    clear hq
    go_wp2_with fail
    refine (HH.out w2).mono ?_
    rintro e w2' ⟨rfl, rfl⟩
    clear HH HRD d0
    go_wp2_with fail
    first
      | (go_end0; exact ⟨rfl, HM.out ▸ HF.out⟩)
      | (with_reducible refine (HF.out.ue x.a ⟨p.block, p.off + 1, none⟩ (by omega) C1.out HP.out.1 HP.out.2).mono ?_
         rintro e w3 ⟨rfl, hq⟩
         replace HF : Hid (Wrt w base g gk s v (.wr (ueW x.a (ueW x.k b))) w3) := Lib.hid hq
         clear hq
         go_wp2_with fail
         first
           | (go_end0; exact ⟨rfl, HM.out ▸ HF.out⟩)
           | (with_reducible refine (HF.out.ue x.b ⟨p.block, p.off + 2, none⟩ (by omega) C2.out HP.out.1 HP.out.2).mono ?_
              rintro e w4 ⟨rfl, hq⟩
              replace HF := Lib.hid hq
              clear hq
              go_wp2_with fail
              go_end0
              exact ⟨rfl, HM.out ▸ HF.out⟩))
      | (with_reducible refine (HF.out.ue x.b ⟨p.block, p.off + 2, none⟩ (by omega) C2.out HP.out.1 HP.out.2).mono ?_
         rintro e w3 ⟨rfl, hq⟩
         replace HF := Lib.hid hq
         clear hq
         go_wp2_with fail
         go_end0
         exact ⟨rfl, HM.out ▸ HF.out⟩)
set_option maxRecDepth 100000 in
set_option maxHeartbeats 1600000 in
theorem op_k (x : Mo) (H : WkAt w base g gk s v k) (hs : s.size ≤ 140737488351232) (hl : k.len ≤ 900000) {B i : Nat} {t : TypeId} {cs : Array Value} (K : Bk w B t cs) (h0 : cs[i]? = some (.int .i64 x.k)) (h1 : cs[i + 1]? = some (.int .i64 x.a)) (h2 : cs[i + 2]? = some (.int .i64 x.b)) (hB : ¬ WS g v B) (hk : B ≠ gk) :
    Calls Tryz.prog 76 #[.pointer (some ⟨gk, 0, none⟩), .pointer (some ⟨B, i, none⟩)] w fun e w' => e = .returned (.tuple #[]) ∧ Fld w base g gk s v (moM (sbit s) (8 * s.size) x k) B t (((cs.setIfInBounds i (.int .i64 (moV (sbit s) (8 * s.size) x k).k)).setIfInBounds (i + 1) (.int .i64 (moV (sbit s) (8 * s.size) x k).a)).setIfInBounds (i + 2) (.int .i64 (moV (sbit s) (8 * s.size) x k).b)) w' := by
  have l1 := ueM_len (sbit s) (8 * s.size) x.k k
  have l2 := moM1_len (sbit s) (8 * s.size) x k
  have l3 := moM2_len (sbit s) (8 * s.size) x k
  have hin : i < cs.size := (Array.getElem?_eq_some_iff.1 h0).1
  have e1 : (cs.setIfInBounds i (.int .i64 (ueV (sbit s) (8 * s.size) x.k k)))[i + 1]? = some (.int .i64 x.a) := by rw [Array.getElem?_setIfInBounds_ne (by omega)]; exact h1
  have e2 : ∀ u : Value, ((cs.setIfInBounds i (.int .i64 (ueV (sbit s) (8 * s.size) x.k k))).setIfInBounds (i + 1) u)[i + 2]? = some (.int .i64 x.b) := fun u => by rw [Array.getElem?_setIfInBounds_ne (by omega), Array.getElem?_setIfInBounds_ne (by omega)]; exact h2
  have e3 : (cs.setIfInBounds i (.int .i64 (ueV (sbit s) (8 * s.size) x.k k)))[i]? = some (.int .i64 (ueV (sbit s) (8 * s.size) x.k k)) := by rw [Array.getElem?_setIfInBounds_self_of_lt hin]
  obtain ⟨A, hA⟩ : ∃ A, hasA (ueV (sbit s) (8 * s.size) x.k k) = A := ⟨_, rfl⟩
  obtain ⟨D, hD⟩ : ∃ A, hasB (ueV (sbit s) (8 * s.size) x.k k) = A := ⟨_, rfl⟩
  have HH := Lib.hid (fun w => hA ▸ hD ▸ has_any2 (ueV (sbit s) (8 * s.size) x.k k) w)
  have HF := Lib.hid (Fld.refl H K)
  have C0 := Lib.hid h0
  have C1 := Lib.hid e1
  have C2 := Lib.hid e2
  have C3 := Lib.hid e3
  have HP := Lib.hid (And.intro hs (And.intro hB (And.intro hk K.lt)))
  have m2 : moM2 (sbit s) (8 * s.size) x k = if A = true then ueM (sbit s) (8 * s.size) x.a (moM1 (sbit s) (8 * s.size) x k) else moM1 (sbit s) (8 * s.size) x k := by unfold moM2; rw [hA]
  have m3 : moM (sbit s) (8 * s.size) x k = if D = true then ueM (sbit s) (8 * s.size) x.b (moM2 (sbit s) (8 * s.size) x k) else moM2 (sbit s) (8 * s.size) x k := by unfold moM; rw [hD]
  have vk : (moV (sbit s) (8 * s.size) x k).k = ueV (sbit s) (8 * s.size) x.k k := rfl
  have va : (moV (sbit s) (8 * s.size) x k).a = if A = true then ueV (sbit s) (8 * s.size) x.a (moM1 (sbit s) (8 * s.size) x k) else x.a := by unfold moV; rw [hA]
  have vb : (moV (sbit s) (8 * s.size) x k).b = if D = true then ueV (sbit s) (8 * s.size) x.b (moM2 (sbit s) (8 * s.size) x k) else x.b := by unfold moV; rw [hD]
  have m1 : moM1 (sbit s) (8 * s.size) x k = ckM (inR 1 6 (ueV (sbit s) (8 * s.size) x.k k)) (ueM (sbit s) (8 * s.size) x.k k) := rfl
  have M1 := Lib.hid m1
  rw [vk, va, vb, m3, m2]
  rw [m2] at l3
  clear H h0 h1 h2 hs hB hk K e1 e2 e3 hA hD vk va vb m3 m2 hin m1
  cases A <;> cases D
  all_goals
    simp only [if_true, if_false, Bool.false_eq_true] at l3 ⊢
    go_enter Tryz.func76, Tryz.ntmps76
    go_wp2_with fail
    refine (HF.out.ue HP.out.1 x.k i (by omega) C0.out HP.out.2.1 HP.out.2.2.1 HP.out.2.2.2).mono ?_
    rintro e w1 ⟨rfl, hq⟩
    have d0 := (hq.bk.cell i).trans C3.out
    replace HF := Lib.hid hq
    clear hq
    go_wp2_with fail
    refine (hin_any _ 1 6 w1).mono ?_
    rintro e w1' ⟨rfl, rfl⟩
    go_wp2_with fail
    refine (HF.out.check _ HP.out.2.1 HP.out.2.2.1 HP.out.2.2.2).mono ?_
    rintro e w2 ⟨rfl, hq⟩
    rw [← M1.out] at hq
    clear d0
    have d0 := (hq.bk.cell i).trans C3.out
    replace HF := Lib.hid hq
    clear hq
    go_wp2_with fail
    refine (HH.out w2).mono ?_
    rintro e w2' ⟨rfl, rfl⟩
    clear HH d0
    go_wp2_with fail
    first
      | (go_end0; refine ⟨rfl, ?_⟩; rw [set_same C1.out, set_same (by have := C2.out (.int .i64 x.a); rwa [set_same C1.out] at this)]; exact HF.out)
      | (with_reducible refine (HF.out.ue HP.out.1 x.a (i + 1) (by omega) C1.out HP.out.2.1 HP.out.2.2.1 HP.out.2.2.2).mono ?_
         rintro e w3 ⟨rfl, hq⟩
         replace HF := Lib.hid hq
         clear hq
         go_wp2_with fail
         first
           | (go_end0; refine ⟨rfl, ?_⟩; rw [set_same (C2.out _)]; exact HF.out)
           | (with_reducible refine (HF.out.ue HP.out.1 x.b (i + 2) (by omega) (C2.out _) HP.out.2.1 HP.out.2.2.1 HP.out.2.2.2).mono ?_
              rintro e w4 ⟨rfl, hq⟩
              replace HF := Lib.hid hq
              clear hq
              go_wp2_with fail
              go_end0
              exact ⟨rfl, HF.out⟩))
      | (with_reducible refine (HF.out.ue HP.out.1 x.b (i + 2) (by omega) (by have := C2.out (.int .i64 x.a); rwa [set_same C1.out] at this) HP.out.2.1 HP.out.2.2.1 HP.out.2.2.2).mono ?_
         rintro e w3 ⟨rfl, hq⟩
         replace HF := Lib.hid hq
         clear hq
         go_wp2_with fail
         go_end0
         refine ⟨rfl, ?_⟩
         rw [set_same C1.out]
         exact HF.out)
end
end Go.Proofs.YtjokibagciehlaaGreat

namespace Go.Proofs.YtjokibagciehlaaGreat
open Go.RowKit
set_option linter.unusedVariables false
set_option linter.unusedSimpArgs false

/-- the cells of a row of structs -/
def RowIn {α : Type} (cs : Array Value) (C : Nat) (f : α → Nat → Value) (l : List α) : Prop := cs.size = l.length * C ∧ ∀ i (h : i < l.length) j, j < C → cs[i * C + j]? = some (f l[i] j)
theorem RowIn.made {α : Type} {z : Array Value} {C : Nat} {f : α → Nat → Value} {x : α} (n : Nat) (hC : 0 < C) (hz : z.size = C) (hf : ∀ j, j < C → z[j]! = f x j) : RowIn (madeCells z (n * C)) C f (List.replicate n x) := by
  refine ⟨by rw [size_madeCells, List.length_replicate], fun i h j hj => ?_⟩
  rw [List.length_replicate] at h
  have hlt : i * C + j < n * C := by
    have : (i + 1) * C ≤ n * C := Nat.mul_le_mul_right _ h
    rw [Nat.add_mul, Nat.one_mul] at this
    omega
  rw [Array.getElem?_eq_getElem (by rw [size_madeCells]; exact hlt)]
  simp only [madeCells, Array.getElem_map, Array.getElem_range, List.getElem_replicate, hz]
  rw [Nat.mul_comm, Nat.mul_add_mod, Nat.mod_eq_of_lt hj, hf j hj]
theorem run_make_rows {P : Program} (t e : TypeId) (i : TypeInfo) (z : Value) (C : Nat) (ht : P.underlying t = some (.slice e)) (hi : P.info? e = some i) (hz : i.zero = some z) (hs : i.size = C)
    (n : Nat) (hb : i.bytes * n ≤ 281474976710656) (hn : n ≤ 9223372036854775807) (w : World) :
    (Instr.makeSlice t (.int .i64 (n : Int)) (.int .i64 (n : Int))).run P w = .ok (.slice (some ⟨w.heap.size, 0, none⟩) n n) (w.alloc (.cells (madeCells z.cells (n * C)) e)) := by
  have h : ((i.bytes * n : Nat) : Int) ≤ 281474976710656 := by omega
  rw [Int.natCast_mul] at h
  have hr := run_make (P := P) w t e i z ht hi hz .i64 .i64 n n (by omega) (by omega) h (by omega)
  rw [hs] at hr
  simp only [Int.toNat_natCast] at hr
  exact hr
/-- rounds over a row -/
theorem itM_snoc {α : Type} (m : α → Wk → Wk) : ∀ (l : List α) (x : α) (k : Wk), itM m (l ++ [x]) k = m x (itM m l k)
  | [], x, k => rfl
  | y :: l, x, k => itM_snoc m l x (m y k)
theorem itV_snoc {α : Type} (m : α → Wk → Wk) (v : α → Wk → α) : ∀ (l : List α) (x : α) (k : Wk), itV m v (l ++ [x]) k = itV m v l k ++ [v x (itM m l k)]
  | [], x, k => rfl
  | y :: l, x, k => by show v y k :: itV m v (l ++ [x]) (m y k) = _; rw [itV_snoc m v l x (m y k)]; rfl
theorem itV_len {α : Type} (m : α → Wk → Wk) (v : α → Wk → α) : ∀ (l : List α) (k : Wk), (itV m v l k).length = l.length
  | [], k => rfl
  | y :: l, k => by show (itV m v l (m y k)).length + 1 = l.length + 1; rw [itV_len m v l (m y k)]
theorem take_snoc {α : Type} (l : List α) (i : Nat) (h : i < l.length) : l.take (i + 1) = l.take i ++ [l[i]] := by rw [List.take_add_one, List.getElem?_eq_getElem h]; rfl
/-- the row behind so many rounds -/
def itR {α : Type} (m : α → Wk → Wk) (v : α → Wk → α) (l : List α) (k : Wk) (i : Nat) : List α := itV m v (l.take i) k ++ l.drop i
theorem itR_len {α : Type} (m : α → Wk → Wk) (v : α → Wk → α) (l : List α) (k : Wk) (i : Nat) : (itR m v l k i).length = l.length := by
  unfold itR
  rw [List.length_append, itV_len, List.length_take, List.length_drop]
  omega
theorem itR_at {α : Type} (m : α → Wk → Wk) (v : α → Wk → α) (l : List α) (k : Wk) (i : Nat) (h : i < l.length) : (itR m v l k i)[i]? = some l[i] := by
  unfold itR
  rw [List.getElem?_append_right (by rw [itV_len, List.length_take]; omega), itV_len, List.length_take, Nat.min_eq_left (by omega), Nat.sub_self, List.getElem?_drop, Nat.add_zero, List.getElem?_eq_getElem h]
theorem itR_next {α : Type} (m : α → Wk → Wk) (v : α → Wk → α) (l : List α) (k : Wk) (i : Nat) (h : i < l.length) : itR m v l k (i + 1) = (itR m v l k i).set i (v l[i] (itM m (l.take i) k)) := by
  unfold itR
  rw [take_snoc l i h, itV_snoc, List.set_append_right _ _ (by rw [itV_len, List.length_take]; omega), itV_len, List.length_take, Nat.min_eq_left (by omega), Nat.sub_self]
  rw [List.drop_eq_getElem_cons h, List.set_cons_zero, List.append_assoc]
  rfl
theorem itR_all {α : Type} (m : α → Wk → Wk) (v : α → Wk → α) (l : List α) (k : Wk) : itR m v l k l.length = itV m v l k := by
  unfold itR
  rw [List.take_length, List.drop_length, List.append_nil]
theorem itM_len_le {α : Type} (m : α → Wk → Wk) (B : Nat) (hm : ∀ x k, (m x k).len ≤ k.len + B) : ∀ (l : List α) (k : Wk), (itM m l k).len ≤ k.len + l.length * B
  | [], k => by show k.len ≤ _; omega
  | y :: l, k => by
    have h1 := itM_len_le m B hm l (m y k)
    have h2 := hm y k
    show (itM m l (m y k)).len ≤ _
    rw [List.length_cons, Nat.add_mul, Nat.one_mul]
    omega
theorem itM_wr {α : Type} (m : α → Wk → Wk) (hm : ∀ x b, ∃ b', m x (.wr b) = .wr b') : ∀ (l : List α) (b : List Bool), ∃ b', itM m l (.wr b) = .wr b'
  | [], b => ⟨b, rfl⟩
  | y :: l, b => by
    obtain ⟨b1, h1⟩ := hm y b
    obtain ⟨b2, h2⟩ := itM_wr m hm l b1
    refine ⟨b2, ?_⟩
    show itM m l (m y (.wr b)) = _
    rw [h1, h2]
theorem mdM_wr (f : Nat → Bool) (N : Nat) (x : Md) (b : List Bool) : ∃ b', mdM f N x (.wr b) = .wr b' := ⟨_, rfl⟩
theorem moM_wr (f : Nat → Bool) (N : Nat) (x : Mo) (b : List Bool) : ∃ b', moM f N x (.wr b) = .wr b' := by
  have h1 : moM1 f N x (.wr b) = .wr (ueW x.k b) := rfl
  have h2 : ∃ b2, moM2 f N x (.wr b) = .wr b2 := by
    unfold moM2
    by_cases h : hasA (ueV f N x.k (.wr b)) = true
    · rw [if_pos h, h1]; exact ⟨_, rfl⟩
    · rw [if_neg h, h1]; exact ⟨_, rfl⟩
  obtain ⟨b2, h2⟩ := h2
  unfold moM
  by_cases h : hasB (ueV f N x.k (.wr b)) = true
  · rw [if_pos h, h2]; exact ⟨_, rfl⟩
  · rw [if_neg h, h2]; exact ⟨_, rfl⟩
theorem isW_got (a : Nat) (bad many : Bool) (r : Got) : ∃ a' b' c', gotM a bad many r = .rd a' b' c' := by
  unfold gotM
  split
  · exact ⟨_, _, _, rfl⟩
  · exact ⟨_, _, _, rfl⟩
/-- a new row of a call: nothing, or a block of its own -/
def RowNew {α : Type} (w w' : World) (T : TypeId) (A : Option Addr) (C : Nat) (f : α → Nat → Value) (l : List α) : Prop :=
  (l = [] ∧ A = none) ∨ ∃ Br cs, A = some ⟨Br, 0, none⟩ ∧ w.heap.size ≤ Br ∧ Bk w' Br T cs ∧ RowIn cs C f l

theorem Md_info : (Tryz.prog.info? 113).map (fun i => (i.zero, i.size, i.bytes)) = some (some (.agg #[.int .i64 0, .int .i64 0]), 2, 16) := by kernel_rfl
theorem RowIn.setMd {cs : Array Value} {l : List Md} (h : RowIn cs 2 mdF l) (i : Nat) (hi : i < l.length) (y : Md) : RowIn ((cs.setIfInBounds (i * 2) (.int .i64 y.k)).setIfInBounds (i * 2 + 1) (.int .i64 y.v)) 2 mdF (l.set i y) := by
  obtain ⟨h1, h2⟩ := h
  refine ⟨by simp only [Array.size_setIfInBounds, List.length_set]; exact h1, fun i' hi' j hj => ?_⟩
  rw [List.length_set] at hi'
  have hb : i' * 2 + j < cs.size := by omega
  by_cases e : i' = i
  · subst e
    rw [List.getElem_set_self]
    have hj' : j = 0 ∨ j = 1 := by omega
    rcases hj' with rfl | rfl
    all_goals
      simp [Array.getElem?_setIfInBounds, hb]
      first | rfl | (intro hq; omega) | (simp [mdF]; done) | (simp [mdF]; omega)
  · rw [List.getElem_set_ne (by omega)]
    have hq := h2 i' hi' j hj
    rw [Array.getElem?_setIfInBounds_ne (by omega), Array.getElem?_setIfInBounds_ne (by omega)]
    exact hq
section
variable {w : World} {base g gk : Nat} {s : ByteArray} {v : Value} {k : Wk}
set_option maxRecDepth 100000 in
set_option maxHeartbeats 3200000 in
/-- in writing: the rows may lie anywhere -/
theorem listMd_w {b : List Bool} (l : List Md) (A : Option Addr) (c : Nat) (p : Addr) (H : WkAt w base g gk s v (.wr b)) (hb : b.length ≤ 800000) (hl : l.length ≤ 16) (hc : w.cell? p = some (.slice A l.length c)) (hr : RwAt w w.heap.size A 2 mdF l) (hp : ¬ WS g v p.block) (hk : p.block ≠ gk) (ha : ∀ ad, A = some ad → ¬ WS g v ad.block ∧ ad.block ≠ gk) :
    Calls Tryz.prog 101 #[.pointer (some ⟨gk, 0, none⟩), .pointer (some p), .int .i64 16, .func (.func 102) #[.pointer (some ⟨gk, 0, none⟩)] #[]] w fun e w' => e = .returned (.tuple #[]) ∧ Wrt w base g gk s v (rwM (sbit s) (8 * s.size) (mdM (sbit s) (8 * s.size)) Md.zero l (.wr b)) w' := by
  have hbl : Below w.heap.size w (w.alloc (.cells #[.int .i64 l.length] 3)) := (Below.refl w.heap.size w).alloc (Nat.le_refl _) _
  have HC := Lib.hid (ue_w (l.length : Int) ⟨w.heap.size, 0, none⟩ (H.go hbl) (by omega) ((Bk.new w 3 #[.int .i64 l.length]).cell 0))
  have hne := ueW_le (l.length : Int) b
  have HW := Lib.hid (fun (w2 : World) (q : PutPost (w.alloc (.cells #[.int .i64 l.length] 3)) base g v (ueW l.length b) w2) => by
    obtain ⟨v2, q2⟩ := (H.go hbl).put (S := fun _ => False) q
    exact (⟨v2, q2.pre hbl⟩ : Wrt w base g gk s v (.wr (ueW l.length b)) w2))
  have HR := Lib.hid hr
  have HP := Lib.hid (And.intro hp hk)
  have HA := Lib.hid ha
  have HH := Lib.hid (And.intro hc (H.bk.cell 0))
  have HG := Lib.hid (And.intro H.far (fun (q : gk = gk) => H.bk.lt))
  have hgk : ∀ w1, Wrt w base g gk s v (.wr (ueW l.length b)) w1 → w1.cell? ⟨gk, 0, none⟩ = some (.pointer (some ⟨g, 0, none⟩)) := fun w1 ⟨v1, q⟩ => q.at_.bk.cell 0
  have HK := Lib.hid hgk
  have hM : rwM (sbit s) (8 * s.size) (mdM (sbit s) (8 * s.size)) Md.zero l (.wr b) = itM (mdM (sbit s) (8 * s.size)) l (.wr (ueW l.length b)) := rfl
  rw [hM]
  have hn : (l.length : Int) < 4611686018427387904 := by omega
  clear hbl H hr hp hk ha hM hgk
  go_enter Tryz.func101, Tryz.ntmps101
  go_wp2_with fail
  clear hc
  refine HC.out.mono ?_
  rintro e w2 ⟨rfl, hq⟩
  have HF := Lib.hid (HW.out w2 hq)
  clear hq HC HW
  have c0 := HK.out w2 HF.out
  have c1 : w2.cell? p = some (.slice A l.length c) := by obtain ⟨v2, q⟩ := HF.out; exact q.cell HH.out.1 HP.out.1 HP.out.2 (fun e => e)
  clear HK
  go_wp2_with fail
  clear c0 c1
  go_loopw [38] (fun t wr => ∃ j : Nat, j ≤ l.length ∧ t = .int .i64 j ∧ Wrt w base g gk s v (itM (mdM (sbit s) (8 * s.size)) (l.take j) (.wr (ueW l.length b))) wr) (fun t _ => l.length - (intOf t).toNat)
  case atStart => exact ⟨0, Nat.zero_le _, rfl, HF.out⟩
  case round =>
    obtain ⟨j, hj, rfl, hq⟩ := hrel
    clear HF
    have HF := Lib.hid hq
    have c1 : wr.cell? p = some (.slice A l.length c) := by obtain ⟨v2, q⟩ := hq; exact q.cell HH.out.1 HP.out.1 HP.out.2 (fun e => e)
    clear hq
    by_cases hlt : j < l.length
    · have h0 : 0 < l.length := by omega
      obtain ⟨ad, rfl, hab, hcell⟩ := HR.out h0
      have h1 := hcell j hlt
      obtain ⟨a1, a2⟩ := HA.out ad rfl
      have hab' : ∀ q, (ad.add q).block < w.heap.size := fun q => by rw [block_add]; exact hab
      have a1' : ∀ q, ¬ WS g v (ad.add q).block := fun q => by rw [block_add]; exact a1
      have a2' : ∀ q, (ad.add q).block ≠ gk := fun q => by rw [block_add]; exact a2
      obtain ⟨b', hb'⟩ := itM_wr (mdM (sbit s) (8 * s.size)) (mdM_wr (sbit s) (8 * s.size)) (l.take j) (ueW l.length b)
      have hlen := itM_len_le (mdM (sbit s) (8 * s.size)) 192 (mdM_len (sbit s) (8 * s.size)) (l.take j) (.wr (ueW l.length b))
      rw [hb', List.length_take, Nat.min_eq_left hj] at hlen
      have hlen' : b'.length ≤ (ueW l.length b).length + j * 192 := hlen
      have hnx : itM (mdM (sbit s) (8 * s.size)) (l.take (j + 1)) (.wr (ueW l.length b)) = mdM (sbit s) (8 * s.size) l[j] (.wr b') := by rw [take_snoc l j hlt, itM_snoc, hb']
      have hN : Calls Tryz.prog 102 #[.pointer (some ⟨gk, 0, none⟩), .pointer (some (ad.add (j * 2)))] wr fun e w' => e = .returned (.tuple #[]) ∧ Wrt w base g gk s v (itM (mdM (sbit s) (8 * s.size)) (l.take (j + 1)) (.wr (ueW l.length b))) w' := by
        obtain ⟨vr, q⟩ := HF.out
        rw [hb'] at q
        have hcw := fun (p : Addr) (x : Value) (hc : w.cell? p = some x) (e : p.block = (ad.add (j * 2)).block) => q.cell hc (e ▸ a1' _) (e ▸ a2' _) (fun e => e)
        have hq := mod_w l[j] (ad.add (j * 2)) q.at_ (by omega) (hcw _ _ h1.1 rfl) (hcw _ _ (h1.2 1 (by omega) (by omega)) rfl) (q.ws (hab' _) (a1' _)) (a2' _)
        exact hq.mono fun e w' r => ⟨r.1, by
          obtain ⟨v3, r3⟩ := r.2
          rw [hnx]
          exact ⟨v3, q.trans r3 (fun _ _ e => e)⟩⟩
      have HN := Lib.hid hN
      clear hN hnx hlen hlen' hb' hcell h1 hab hab' a1 a2 a1' a2' HF HR HA
      go_wp2_with fail
      refine HN.out.mono ?_
      rintro e w3 ⟨rfl, hq⟩
      have HF := Lib.hid hq
      clear hq HN
      go_wp2_with fail
      go_roundw
      case rel => exact ⟨j + 1, by omega, by go_num, HF.out⟩
      case measure => simp [intOf]; omega
    · obtain rfl : j = l.length := by omega
      have HF2 := HF.out
      rw [List.take_length] at HF2
      have HF := Lib.hid HF2
      clear HF2
      go_wp2_with fail
      go_end0
      exact ⟨rfl, HF.out⟩
end

theorem Mo_info : (Tryz.prog.info? 118).map (fun i => (i.zero, i.size, i.bytes)) = some (some (.agg #[.int .i64 0, .int .i64 0, .int .i64 0]), 3, 24) := by kernel_rfl
theorem RowIn.setMo {cs : Array Value} {l : List Mo} (h : RowIn cs 3 moF l) (i : Nat) (hi : i < l.length) (y : Mo) : RowIn (((cs.setIfInBounds (i * 3) (.int .i64 y.k)).setIfInBounds (i * 3 + 1) (.int .i64 y.a)).setIfInBounds (i * 3 + 2) (.int .i64 y.b)) 3 moF (l.set i y) := by
  obtain ⟨h1, h2⟩ := h
  refine ⟨by simp only [Array.size_setIfInBounds, List.length_set]; exact h1, fun i' hi' j hj => ?_⟩
  rw [List.length_set] at hi'
  have hb : i' * 3 + j < cs.size := by omega
  by_cases e : i' = i
  · subst e
    rw [List.getElem_set_self]
    have hj' : j = 0 ∨ j = 1 ∨ j = 2 := by omega
    rcases hj' with rfl | rfl | rfl
    all_goals
      simp [Array.getElem?_setIfInBounds, hb]
      first | rfl | (intro hq; omega) | (simp [moF]; done) | (simp [moF]; omega)
  · rw [List.getElem_set_ne (by omega)]
    have hq := h2 i' hi' j hj
    rw [Array.getElem?_setIfInBounds_ne (by omega), Array.getElem?_setIfInBounds_ne (by omega), Array.getElem?_setIfInBounds_ne (by omega)]
    exact hq
section
variable {w : World} {base g gk : Nat} {s : ByteArray} {v : Value} {k : Wk}
set_option maxRecDepth 100000 in
set_option maxHeartbeats 3200000 in
/-- in writing: the rows may lie anywhere -/
theorem listMo_w {b : List Bool} (l : List Mo) (A : Option Addr) (c : Nat) (p : Addr) (H : WkAt w base g gk s v (.wr b)) (hb : b.length ≤ 800000) (hl : l.length ≤ 16) (hc : w.cell? p = some (.slice A l.length c)) (hr : RwAt w w.heap.size A 3 moF l) (hp : ¬ WS g v p.block) (hk : p.block ≠ gk) (ha : ∀ ad, A = some ad → ¬ WS g v ad.block ∧ ad.block ≠ gk) :
    Calls Tryz.prog 75 #[.pointer (some ⟨gk, 0, none⟩), .pointer (some p), .int .i64 16, .func (.func 76) #[.pointer (some ⟨gk, 0, none⟩)] #[]] w fun e w' => e = .returned (.tuple #[]) ∧ Wrt w base g gk s v (rwM (sbit s) (8 * s.size) (moM (sbit s) (8 * s.size)) Mo.zero l (.wr b)) w' := by
  have hbl : Below w.heap.size w (w.alloc (.cells #[.int .i64 l.length] 3)) := (Below.refl w.heap.size w).alloc (Nat.le_refl _) _
  have HC := Lib.hid (ue_w (l.length : Int) ⟨w.heap.size, 0, none⟩ (H.go hbl) (by omega) ((Bk.new w 3 #[.int .i64 l.length]).cell 0))
  have hne := ueW_le (l.length : Int) b
  have HW := Lib.hid (fun (w2 : World) (q : PutPost (w.alloc (.cells #[.int .i64 l.length] 3)) base g v (ueW l.length b) w2) => by
    obtain ⟨v2, q2⟩ := (H.go hbl).put (S := fun _ => False) q
    exact (⟨v2, q2.pre hbl⟩ : Wrt w base g gk s v (.wr (ueW l.length b)) w2))
  have HR := Lib.hid hr
  have HP := Lib.hid (And.intro hp hk)
  have HA := Lib.hid ha
  have HH := Lib.hid (And.intro hc (H.bk.cell 0))
  have HG := Lib.hid (And.intro H.far (fun (q : gk = gk) => H.bk.lt))
  have hgk : ∀ w1, Wrt w base g gk s v (.wr (ueW l.length b)) w1 → w1.cell? ⟨gk, 0, none⟩ = some (.pointer (some ⟨g, 0, none⟩)) := fun w1 ⟨v1, q⟩ => q.at_.bk.cell 0
  have HK := Lib.hid hgk
  have hM : rwM (sbit s) (8 * s.size) (moM (sbit s) (8 * s.size)) Mo.zero l (.wr b) = itM (moM (sbit s) (8 * s.size)) l (.wr (ueW l.length b)) := rfl
  rw [hM]
  have hn : (l.length : Int) < 4611686018427387904 := by omega
  clear hbl H hr hp hk ha hM hgk
  go_enter Tryz.func75, Tryz.ntmps75
  go_wp2_with fail
  clear hc
  refine HC.out.mono ?_
  rintro e w2 ⟨rfl, hq⟩
  have HF := Lib.hid (HW.out w2 hq)
  clear hq HC HW
  have c0 := HK.out w2 HF.out
  have c1 : w2.cell? p = some (.slice A l.length c) := by obtain ⟨v2, q⟩ := HF.out; exact q.cell HH.out.1 HP.out.1 HP.out.2 (fun e => e)
  clear HK
  go_wp2_with fail
  clear c0 c1
  go_loopw [38] (fun t wr => ∃ j : Nat, j ≤ l.length ∧ t = .int .i64 j ∧ Wrt w base g gk s v (itM (moM (sbit s) (8 * s.size)) (l.take j) (.wr (ueW l.length b))) wr) (fun t _ => l.length - (intOf t).toNat)
  case atStart => exact ⟨0, Nat.zero_le _, rfl, HF.out⟩
  case round =>
    obtain ⟨j, hj, rfl, hq⟩ := hrel
    clear HF
    have HF := Lib.hid hq
    have c1 : wr.cell? p = some (.slice A l.length c) := by obtain ⟨v2, q⟩ := hq; exact q.cell HH.out.1 HP.out.1 HP.out.2 (fun e => e)
    clear hq
    by_cases hlt : j < l.length
    · have h0 : 0 < l.length := by omega
      obtain ⟨ad, rfl, hab, hcell⟩ := HR.out h0
      have h1 := hcell j hlt
      obtain ⟨a1, a2⟩ := HA.out ad rfl
      have hab' : ∀ q, (ad.add q).block < w.heap.size := fun q => by rw [block_add]; exact hab
      have a1' : ∀ q, ¬ WS g v (ad.add q).block := fun q => by rw [block_add]; exact a1
      have a2' : ∀ q, (ad.add q).block ≠ gk := fun q => by rw [block_add]; exact a2
      obtain ⟨b', hb'⟩ := itM_wr (moM (sbit s) (8 * s.size)) (moM_wr (sbit s) (8 * s.size)) (l.take j) (ueW l.length b)
      have hlen := itM_len_le (moM (sbit s) (8 * s.size)) 192 (moM_len (sbit s) (8 * s.size)) (l.take j) (.wr (ueW l.length b))
      rw [hb', List.length_take, Nat.min_eq_left hj] at hlen
      have hlen' : b'.length ≤ (ueW l.length b).length + j * 192 := hlen
      have hnx : itM (moM (sbit s) (8 * s.size)) (l.take (j + 1)) (.wr (ueW l.length b)) = moM (sbit s) (8 * s.size) l[j] (.wr b') := by rw [take_snoc l j hlt, itM_snoc, hb']
      have hN : Calls Tryz.prog 76 #[.pointer (some ⟨gk, 0, none⟩), .pointer (some (ad.add (j * 3)))] wr fun e w' => e = .returned (.tuple #[]) ∧ Wrt w base g gk s v (itM (moM (sbit s) (8 * s.size)) (l.take (j + 1)) (.wr (ueW l.length b))) w' := by
        obtain ⟨vr, q⟩ := HF.out
        rw [hb'] at q
        have hcw := fun (p : Addr) (x : Value) (hc : w.cell? p = some x) (e : p.block = (ad.add (j * 3)).block) => q.cell hc (e ▸ a1' _) (e ▸ a2' _) (fun e => e)
        have hq := op_w l[j] (ad.add (j * 3)) q.at_ (by omega) (hcw _ _ h1.1 rfl) (hcw _ _ (h1.2 1 (by omega) (by omega)) rfl) (hcw _ _ (h1.2 2 (by omega) (by omega)) rfl) (q.ws (hab' _) (a1' _)) (a2' _)
        exact hq.mono fun e w' r => ⟨r.1, by
          obtain ⟨v3, r3⟩ := r.2
          rw [hnx]
          exact ⟨v3, q.trans r3 (fun _ _ e => e)⟩⟩
      have HN := Lib.hid hN
      clear hN hnx hlen hlen' hb' hcell h1 hab hab' a1 a2 a1' a2' HF HR HA
      go_wp2_with fail
      refine HN.out.mono ?_
      rintro e w3 ⟨rfl, hq⟩
      have HF := Lib.hid hq
      clear hq HN
      go_wp2_with fail
      go_roundw
      case rel => exact ⟨j + 1, by omega, by go_num, HF.out⟩
      case measure => simp [intOf]; omega
    · obtain rfl : j = l.length := by omega
      have HF2 := HF.out
      rw [List.take_length] at HF2
      have HF := Lib.hid HF2
      clear HF2
      go_wp2_with fail
      go_end0
      exact ⟨rfl, HF.out⟩
end

end Go.Proofs.YtjokibagciehlaaGreat

namespace Go.Proofs.YtjokibagciehlaaGreat
open Go.RowKit
set_option linter.unusedVariables false
set_option linter.unusedSimpArgs false

theorem itM_rd {α : Type} (m : α → Wk → Wk) (hm : ∀ x a b c, ∃ a' b' c', m x (.rd a b c) = .rd a' b' c') : ∀ (l : List α) (a : Nat) (b c : Bool), ∃ a' b' c', itM m l (.rd a b c) = .rd a' b' c'
  | [], a, b, c => ⟨a, b, c, rfl⟩
  | y :: l, a, b, c => by
    obtain ⟨a1, b1, c1, h1⟩ := hm y a b c
    obtain ⟨a2, b2, c2, h2⟩ := itM_rd m hm l a1 b1 c1
    refine ⟨a2, b2, c2, ?_⟩
    show itM m l (m y (.rd a b c)) = _
    rw [h1, h2]
theorem ueM_rd (f : Nat → Bool) (N : Nat) (x : Int) (a : Nat) (b c : Bool) : ∃ a' b' c', ueM f N x (.rd a b c) = .rd a' b' c' := isW_got a b c _
theorem seM_rd (f : Nat → Bool) (N : Nat) (x : Int) (a : Nat) (b c : Bool) : ∃ a' b' c', seM f N x (.rd a b c) = .rd a' b' c' := isW_got a b c _
theorem mdM_rd (f : Nat → Bool) (N : Nat) (x : Md) (a : Nat) (b c : Bool) : ∃ a' b' c', mdM f N x (.rd a b c) = .rd a' b' c' := by
  unfold mdM
  obtain ⟨a1, b1, c1, h1⟩ := ueM_rd f N x.k a b c
  rw [h1]
  exact ueM_rd f N x.v a1 b1 c1
theorem moM_rd (f : Nat → Bool) (N : Nat) (x : Mo) (a : Nat) (b c : Bool) : ∃ a' b' c', moM f N x (.rd a b c) = .rd a' b' c' := by
  have h1 : ∃ a' b' c', moM1 f N x (.rd a b c) = .rd a' b' c' := by
    unfold moM1
    obtain ⟨a1, b1, c1, h1⟩ := ueM_rd f N x.k a b c
    rw [h1]
    exact ⟨_, _, _, rfl⟩
  obtain ⟨a1, b1, c1, h1⟩ := h1
  have h2 : ∃ a' b' c', moM2 f N x (.rd a b c) = .rd a' b' c' := by
    unfold moM2
    by_cases h : hasA (ueV f N x.k (.rd a b c)) = true
    · rw [if_pos h, h1]; exact ueM_rd f N x.a a1 b1 c1
    · rw [if_neg h, h1]; exact ⟨_, _, _, rfl⟩
  obtain ⟨a2, b2, c2, h2⟩ := h2
  unfold moM
  by_cases h : hasB (ueV f N x.k (.rd a b c)) = true
  · rw [if_pos h, h2]; exact ueM_rd f N x.b a2 b2 c2
  · rw [if_neg h, h2]; exact ⟨_, _, _, rfl⟩
/-- a count that is read, its walk: stopped, or so many -/
theorem rw_parts (f : Nat → Bool) (N a : Nat) (bad many : Bool) (ha : a ≤ N) : ∃ n : Int, ueV f N 0 (.rd a bad many) = n ∧ 0 ≤ n ∧ n ≤ 2147483646 ∧ ((ckM (decide (n ≤ 16)) (ueM f N 0 (.rd a bad many))).stop = false → n ≤ 16) := by
  refine ⟨_, rfl, ?_⟩
  have hb := ueV_bd f N 0 (.rd a bad many) (fun a' b' c' e => by injection e with e; omega)
  refine ⟨by omega, by omega, fun h => ?_⟩
  obtain ⟨a', b', c', e⟩ := ueM_rd f N 0 a bad many
  rw [e] at h
  obtain ⟨b1, b2⟩ := Bool.or_eq_false_iff.1 (show (b' || (c' || (!b' && !decide (ueV f N 0 (.rd a bad many) ≤ 16)))) = false from h)
  obtain ⟨b3, b4⟩ := Bool.or_eq_false_iff.1 b2
  rw [b1] at b4
  simpa using b4
theorem WkAt.nws {w : World} {base g gk a Br : Nat} {s : ByteArray} {v : Value} {bad many : Bool} (h : WkAt w base g gk s v (.rd a bad many)) (hg : g ≠ Br) : ¬ WS g v Br := by
  rintro (q | q)
  · exact hg q.symm
  · rw [h.io.2.1] at q; cases q
/-- on the way: the walk, the field's block, the count -/
structure RdL (w : World) (base g gk : Nat) (s : ByteArray) (v : Value) (k : Wk) (B : Nat) (t : TypeId) (cs : Array Value) (n : Int) (w' : World) : Prop where
  st : ∃ v', WkTo (fun j => j = B) w base g gk s v k w' v'
  kb : Bk w' B t cs
  kn : Bk w' w.heap.size 3 #[.int .i64 n]
section
variable {w w1 w2 : World} {base g gk : Nat} {s : ByteArray} {v : Value} {k k' : Wk} {B : Nat} {t : TypeId} {cs : Array Value} {n : Int}
theorem RdL.check (q : RdL w base g gk s v k B t cs n w1) (fine : Bool) (hB : ¬ WS g v B) (hk : B ≠ gk) (hlt : B < w.heap.size) (hgk : gk < w.heap.size) (hws : ∀ v' w', WkAt w' base g gk s v' k → ¬ WS g v' w.heap.size) :
    Calls Tryz.prog 71 #[.pointer (some ⟨gk, 0, none⟩), .bool fine] w1 fun e w2 => e = .returned (.tuple #[]) ∧ RdL w base g gk s v (ckM fine k) B t cs n w2 := by
  obtain ⟨⟨v1, q1⟩, q2, q3⟩ := q
  exact (check_any fine q1.at_).mono fun e w2 r => ⟨r.1, ⟨v1, q1.trans r.2 (fun _ _ e => e.elim)⟩, q2.touch r.2.touch (by rintro (e | e | e); exact q1.ws hlt hB e; exact hk e; exact e), q3.touch r.2.touch (by rintro (e | e | e); exact hws v1 w1 q1.at_ e; omega; exact e)⟩
theorem RdL.stop (q : RdL w base g gk s v k B t cs n w1) : Calls Tryz.prog 103 #[.pointer (some ⟨gk, 0, none⟩)] w1 fun e w2 => e = .returned (.bool k.stop) ∧ w1 = w2 := by
  obtain ⟨⟨v1, q1⟩, q2, q3⟩ := q
  exact wstop_any q1.at_
theorem RdL.make (q : RdL w base g gk s v k B t cs n w1) (hB : ¬ WS g v B) (hk : B ≠ gk) (hlt : B < w.heap.size) (i : Nat) (u : Value) (o : Obj) : RdL w base g gk s v k B t (cs.setIfInBounds i u) n ((w1.setCell ⟨B, i, none⟩ u).alloc o) := by
  obtain ⟨⟨v1, q1⟩, q2, q3⟩ := q
  have ht : Touch (fun j => j = B) w1 (w1.setCell ⟨B, i, none⟩ u) := (Touch.refl (fun j => j = B) w1).setCell (p := ⟨B, i, none⟩) (fun _ => rfl) u
  have hb : Below (w1.setCell ⟨B, i, none⟩ u).heap.size (w1.setCell ⟨B, i, none⟩ u) ((w1.setCell ⟨B, i, none⟩ u).alloc o) := (Below.refl _ _).alloc (Nat.le_refl _) o
  refine ⟨⟨v1, (q1.at_.touch_ ht (fun j hj e => q1.ws hlt hB (e ▸ hj)) (fun e => hk e.symm)).go hb, q1.new, (q1.touch.setCell (fun _ => .inr (.inr rfl)) u).alloc o⟩, (q2.set_ i u).go hb, (q3.touch ht (by intro e; omega)).go hb⟩
theorem bk_made (w : World) (p : Addr) (u : Value) (t : TypeId) (cz : Array Value) : Bk ((w.setCell p u).alloc (.cells cz t)) w.heap.size t cz := by
  have h := Bk.new (w.setCell p u) t cz
  rwa [show (w.setCell p u).heap.size = w.heap.size by simp [World.setCell]] at h
end

section
variable {w : World} {base g gk : Nat} {s : ByteArray} {v : Value}
set_option maxRecDepth 100000 in
set_option maxHeartbeats 6400000 in
/-- in reading: a new row -/
theorem listMd_r {a : Nat} {bad many : Bool} (H : WkAt w base g gk s v (.rd a bad many)) (hs : s.size ≤ 140737488351232) {B i : Nat} {t : TypeId} {cs : Array Value} (K : Bk w B t cs) (hc : cs[i]? = some (.slice none 0 0)) (hB : ¬ WS g v B) (hk : B ≠ gk) :
    Calls Tryz.prog 101 #[.pointer (some ⟨gk, 0, none⟩), .pointer (some ⟨B, i, none⟩), .int .i64 16, .func (.func 102) #[.pointer (some ⟨gk, 0, none⟩)] #[]] w fun e w' => e = .returned (.tuple #[]) ∧ ∃ A c, Fld w base g gk s v (rwM (sbit s) (8 * s.size) (mdM (sbit s) (8 * s.size)) Md.zero [] (.rd a bad many)) B t (cs.setIfInBounds i (.slice A (rwV (sbit s) (8 * s.size) (mdM (sbit s) (8 * s.size)) (mdV (sbit s) (8 * s.size)) Md.zero [] (.rd a bad many)).length c)) w' ∧ RowNew w w' 113 A 2 mdF (rwV (sbit s) (8 * s.size) (mdM (sbit s) (8 * s.size)) (mdV (sbit s) (8 * s.size)) Md.zero [] (.rd a bad many)) := by
  obtain ⟨n, hn, n0, n1, n16⟩ := rw_parts (sbit s) (8 * s.size) a bad many H.io.2.2
  obtain ⟨a', b', c', hu⟩ := ueM_rd (sbit s) (8 * s.size) 0 a bad many
  rw [hu] at n16
  obtain ⟨k2, hk2⟩ : ∃ k2, ckM (decide (n ≤ 16)) (.rd a' b' c') = k2 := ⟨_, rfl⟩
  have hk2r : ∃ a2 b2 c2, k2 = .rd a2 b2 c2 := ⟨_, _, _, hk2.symm⟩
  have hM : rwM (sbit s) (8 * s.size) (mdM (sbit s) (8 * s.size)) Md.zero [] (.rd a bad many) = if k2.stop = true then k2 else itM (mdM (sbit s) (8 * s.size)) (if 0 < n then List.replicate n.toNat Md.zero else []) k2 := by
    show (match ueM (sbit s) (8 * s.size) 0 (.rd a bad many) with | .wr b => _ | .rd a bad many => _) = _
    rw [hu]
    show (if (ckM (decide (ueV (sbit s) (8 * s.size) 0 (.rd a bad many) ≤ 16)) (.rd a' b' c')).stop = true then _ else _) = _
    rw [hn, hk2]
    show (if k2.stop = true then (ckM (decide (ueV (sbit s) (8 * s.size) 0 (.rd a bad many) ≤ 16)) (.rd a' b' c')) else itM _ (if 0 < ueV (sbit s) (8 * s.size) 0 (.rd a bad many) then List.replicate (ueV (sbit s) (8 * s.size) 0 (.rd a bad many)).toNat _ else []) (ckM (decide (ueV (sbit s) (8 * s.size) 0 (.rd a bad many) ≤ 16)) (.rd a' b' c'))) = _
    rw [hn, hk2]
  have hV : rwV (sbit s) (8 * s.size) (mdM (sbit s) (8 * s.size)) (mdV (sbit s) (8 * s.size)) Md.zero [] (.rd a bad many) = if k2.stop = true then [] else itV (mdM (sbit s) (8 * s.size)) (mdV (sbit s) (8 * s.size)) (if 0 < n then List.replicate n.toNat Md.zero else []) k2 := by
    show (match ueM (sbit s) (8 * s.size) 0 (.rd a bad many) with | .wr b => _ | .rd a bad many => _) = _
    rw [hu]
    show (if (ckM (decide (ueV (sbit s) (8 * s.size) 0 (.rd a bad many) ≤ 16)) (.rd a' b' c')).stop = true then [] else itV _ _ (if 0 < ueV (sbit s) (8 * s.size) 0 (.rd a bad many) then List.replicate (ueV (sbit s) (8 * s.size) 0 (.rd a bad many)).toNat _ else []) (ckM (decide (ueV (sbit s) (8 * s.size) 0 (.rd a bad many) ≤ 16)) (.rd a' b' c'))) = _
    rw [hn, hk2]
  have hgl : g < w.heap.size := Bk.lt H.io.1
  have hgkl := H.bk.lt
  have hBl := K.lt
  have hbl : Below w.heap.size w (w.alloc (.cells #[.int .i64 0] 3)) := (Below.refl w.heap.size w).alloc (Nat.le_refl _) _
  have KN := Bk.new w 3 #[.int .i64 0]
  have HC := Lib.hid (ue_k 0 (H.go hbl) hs (by show 0 ≤ _; omega) KN (i := 0) rfl (H.past (Nat.le_refl _)) (by omega))
  have h0 : ∀ w2, Fld (w.alloc (.cells #[.int .i64 0] 3)) base g gk s v (ueM (sbit s) (8 * s.size) 0 (.rd a bad many)) w.heap.size 3 (#[.int .i64 0].setIfInBounds 0 (.int .i64 (ueV (sbit s) (8 * s.size) 0 (.rd a bad many)))) w2 → RdL w base g gk s v (.rd a' b' c') B t cs n w2 := by
    rintro w2 ⟨v2, q1, q2⟩
    rw [hn] at q2
    rw [hu] at q1
    exact ⟨⟨v2, q1.at_, q1.new.pre hbl.size, (Touch.of_new hbl).old q1.touch (fun j hj q => by
      rcases q with q | q | q
      · exact .inl q
      · exact .inr (.inl q)
      · omega)⟩, (K.go hbl).touch q1.touch (by rintro (e | e | e); exact hB e; exact hk e; omega), q2⟩
  have H0 := Lib.hid h0
  have c0 := (K.cell i).trans hc
  have HCS := Lib.hid hc
  have HP := Lib.hid (And.intro hB (And.intro hk (And.intro hBl hgkl)))
  have HS := Lib.hid hs
  have hN : ∀ (kk : Wk), (∃ a2 b2 c2, kk = .rd a2 b2 c2) → ∀ (Br : Nat), w.heap.size ≤ Br → ∀ (v' : Value) (w' : World), WkAt w' base g gk s v' kk → ¬ WS g v' Br := by
    rintro kk ⟨a2, b2, c2, rfl⟩ Br hBr v' w' q
    exact q.nws (by omega)
  have HN := Lib.hid hN
  have HK2 := Lib.hid hk2
  have HKR := Lib.hid hk2r
  obtain ⟨st, hst⟩ : ∃ st, k2.stop = st := ⟨_, rfl⟩
  rw [hM, hV, hst]
  have hn16 : st = false → n ≤ 16 := fun e => n16 (by rw [hk2, hst]; exact e)
  have HST := Lib.hid hst
  clear hN hbl KN H K hM hV hu hn h0 hc hB hk hs hk2 hk2r n16 hst
  cases st
  · simp only [Bool.false_eq_true, if_false]
    replace hn16 := hn16 rfl
    rw [decide_eq_true hn16] at HK2
    by_cases hp : 0 < n
    · simp only [if_pos hp]
      obtain ⟨N, rfl⟩ : ∃ N : Nat, n = N := ⟨n.toNat, by omega⟩
      have hpN : 0 < N := by omega
      obtain ⟨i0, hi, hz0, hz1, hz2⟩ := info_parts Md_info
      have hmk := fun w => run_make_rows (P := Tryz.prog) 22 113 i0 (.agg #[.int .i64 0, .int .i64 0]) 2 Tryz.underlying22 hi hz0 hz1 N (by rw [hz2]; omega) (by omega) w
      have hrow0 : RowIn (madeCells #[.int .i64 0, .int .i64 0] (N * 2)) 2 mdF (List.replicate N Md.zero) := RowIn.made N (by omega) rfl (by
        intro j hj
        have hj' : j = 0 ∨ j = 1 := by omega
        rcases hj' with rfl | rfl <;> rfl)
      simp only [Value.cells] at hmk
      rw [show ((N : Nat) : Int).toNat = N from rfl]
      obtain ⟨L, hL⟩ : ∃ L, List.replicate N Md.zero = L := ⟨_, rfl⟩
      have hLl : L.length = N := by rw [← hL]; simp
      rw [hL] at hrow0 ⊢
      obtain ⟨cz, hcz⟩ : ∃ cz, madeCells #[.int .i64 0, .int .i64 0] (N * 2) = cz := ⟨_, rfl⟩
      rw [hcz] at hrow0
      simp only [hcz] at hmk
      have HRW := Lib.hid hrow0
      clear hrow0 hcz hL hi hz0 hz1 hz2
      go_enter Tryz.func101, Tryz.ntmps101
      go_wp2_with fail
      clear c0
      refine HC.out.mono ?_
      rintro e w2 ⟨rfl, hq⟩
      have HF := Lib.hid (H0.out w2 hq)
      clear hq HC H0
      have c0 : w2.cell? ⟨gk, 0, none⟩ = some (.pointer none) := by obtain ⟨v2, q⟩ := HF.out.st; exact q.at_.bk.cell 0
      have c1 := HF.out.kn.cell 0
      simp at c1
      go_wp2_with fail
      refine (HF.out.check _ HP.out.1 HP.out.2.1 HP.out.2.2.1 HP.out.2.2.2 (fun v' w' q => HN.out _ ⟨_, _, _, rfl⟩ _ (Nat.le_refl _) v' w' q)).mono ?_
      rintro e w3 ⟨rfl, hq⟩
      rw [HK2.out] at hq
      replace HF := Lib.hid hq
      clear hq c0 c1 HK2
      go_wp2_with fail
      refine HF.out.stop.mono ?_
      rintro e w3' ⟨rfl, rfl⟩
      have c1 := HF.out.kn.cell 0
      simp at c1
      rw [HST.out]
      have hB3 : B < w3.heap.size := HF.out.kb.lt
      have HM := Lib.hid (HF.out.make HP.out.1 HP.out.2.1 HP.out.2.2.1 i (.slice (some ⟨w3.heap.size, 0, none⟩) N N) (.cells cz 113))
      have HB0 := Lib.hid (bk_made w3 ⟨B, i, none⟩ (.slice (some ⟨w3.heap.size, 0, none⟩) N N) 113 cz)
      have c2 := (HF.out.kb.cell i).trans HCS.out
      have f2 := HF.out.kb.frozen i
      have hBn : ¬ B = w3.heap.size := by omega
      have hw3 : w.heap.size < w3.heap.size := by have := HF.out.kn.lt; omega
      go_wp2_with fail
      clear c1 c2 f2 hmk HF
      go_loopw [38] (fun t' wr => ∃ j : Nat, j ≤ N ∧ t' = .int .i64 j ∧ RdL w base g gk s v (itM (mdM (sbit s) (8 * s.size)) (L.take j) k2) B t (cs.setIfInBounds i (.slice (some ⟨w3.heap.size, 0, none⟩) N N)) N wr ∧ ∃ cj, Bk wr w3.heap.size 113 cj ∧ RowIn cj 2 mdF (itR (mdM (sbit s) (8 * s.size)) (mdV (sbit s) (8 * s.size)) L k2 j)) (fun t' _ => N - (intOf t').toNat)
      case atStart => exact ⟨0, Nat.zero_le _, rfl, HM.out, cz, HB0.out, HRW.out⟩
      case round =>
        obtain ⟨j, hj, rfl, hq, cj, hbk, hrow⟩ := hrel
        clear HM HB0 HRW
        have HF := Lib.hid hq
        have hics : i < cs.size := (Array.getElem?_eq_some_iff.1 HCS.out).1
        have c2 := (hq.kb.cell i).trans (Array.getElem?_setIfInBounds_self_of_lt hics)
        have HBK := Lib.hid hbk
        have HRO := Lib.hid hrow
        clear hq hbk hrow
        by_cases hlt : j < N
        · have hlL : j < L.length := by omega
          obtain ⟨kj, hkj⟩ : ∃ kj, itM (mdM (sbit s) (8 * s.size)) (L.take j) k2 = kj := ⟨_, rfl⟩
          have hkr : ∃ a2 b2 c2, kj = .rd a2 b2 c2 := by
            obtain ⟨a2, b2, c2, e2⟩ := HKR.out
            obtain ⟨a3, b3, c3, e3⟩ := itM_rd (mdM (sbit s) (8 * s.size)) (mdM_rd (sbit s) (8 * s.size)) (L.take j) a2 b2 c2
            exact ⟨a3, b3, c3, by rw [← hkj, e2, e3]⟩
          have hnx : itM (mdM (sbit s) (8 * s.size)) (L.take (j + 1)) k2 = mdM (sbit s) (8 * s.size) L[j] kj := by rw [take_snoc L j hlL, itM_snoc, hkj]
          have hrx : itR (mdM (sbit s) (8 * s.size)) (mdV (sbit s) (8 * s.size)) L k2 (j + 1) = (itR (mdM (sbit s) (8 * s.size)) (mdV (sbit s) (8 * s.size)) L k2 j).set j (mdV (sbit s) (8 * s.size) L[j] kj) := by rw [itR_next _ _ _ _ _ hlL, hkj]
          have hRl : j < (itR (mdM (sbit s) (8 * s.size)) (mdV (sbit s) (8 * s.size)) L k2 j).length := by rw [itR_len]; exact hlL
          have hRj : (itR (mdM (sbit s) (8 * s.size)) (mdV (sbit s) (8 * s.size)) L k2 j)[j] = L[j] := by
            have := itR_at (mdM (sbit s) (8 * s.size)) (mdV (sbit s) (8 * s.size)) L k2 j hlL
            rw [List.getElem?_eq_getElem hRl] at this
            exact Option.some.inj this
          have hrow : ∀ q, q < 2 → cj[j * 2 + q]? = some (mdF L[j] q) := fun q hq => by
            have := HRO.out.2 j hRl q hq
            rwa [hRj] at this
          have hN : Calls Tryz.prog 102 #[.pointer (some ⟨gk, 0, none⟩), .pointer (some ⟨w3.heap.size, j * 2, none⟩)] wr fun e w' => e = .returned (.tuple #[]) ∧ RdL w base g gk s v (itM (mdM (sbit s) (8 * s.size)) (L.take (j + 1)) k2) B t (cs.setIfInBounds i (.slice (some ⟨w3.heap.size, 0, none⟩) N N)) N w' ∧ ∃ cj, Bk w' w3.heap.size 113 cj ∧ RowIn cj 2 mdF (itR (mdM (sbit s) (8 * s.size)) (mdV (sbit s) (8 * s.size)) L k2 (j + 1)) := by
            obtain ⟨⟨vr, q⟩, qb, qn⟩ := HF.out
            rw [hkj] at q
            have hnw : ∀ Br, w.heap.size ≤ Br → ¬ WS g vr Br := fun Br h => HN.out kj hkr Br h vr wr q.at_
            have hlen : kj.len ≤ 900000 := by obtain ⟨a2, b2, c2, rfl⟩ := hkr; show 0 ≤ _; omega
            refine (mod_k L[j] q.at_ HS.out hlen HBK.out (hrow 0 (by omega)) (hrow 1 (by omega)) (hnw _ (by omega)) (by omega)).mono ?_
            rintro e w4 ⟨he, v4, r1, r2⟩
            refine ⟨he, ⟨⟨v4, by rw [hnx]; exact q.trans r1 (fun x hx e => by omega)⟩, qb.touch r1.touch ?_, qn.touch r1.touch ?_⟩, _, r2, ?_⟩
            · rintro (e | e | e)
              · exact q.ws HP.out.2.2.1 HP.out.1 e
              · exact HP.out.2.1 e
              · omega
            · rintro (e | e | e)
              · exact hnw _ (Nat.le_refl _) e
              · omega
              · omega
            · rw [hrx]
              exact HRO.out.setMd j hRl _
          have HNX := Lib.hid hN
          clear hN hnx hrx hRl hRj hrow hkj hkr HF HBK HRO
          go_wp2_with fail
          refine HNX.out.mono ?_
          rintro e w4 ⟨rfl, hq⟩
          have HF := Lib.hid hq
          clear hq HNX c2
          go_wp2_with fail
          go_roundw
          case rel => exact ⟨j + 1, by omega, by go_num, HF.out⟩
          case measure => simp [intOf]; omega
        · obtain rfl : j = N := by omega
          go_wp2_with fail
          go_end0
          have HF1 := HF.out
          have HR1 := HRO.out
          obtain rfl : L.length = j := hLl
          rw [List.take_length] at HF1
          rw [itR_all] at HR1
          refine ⟨rfl, some ⟨w3.heap.size, 0, none⟩, L.length, ?_, .inr ⟨w3.heap.size, cj, rfl, by omega, HBK.out, HR1⟩⟩
          rw [itV_len]
          obtain ⟨v', q⟩ := HF1.st
          exact ⟨v', q, HF1.kb⟩
    · simp only [if_neg hp]
      have HZ := Lib.hid (show n = 0 by omega)
      clear hp n0 n1
      go_enter Tryz.func101, Tryz.ntmps101
      go_wp2_with fail
      clear c0
      refine HC.out.mono ?_
      rintro e w2 ⟨rfl, hq⟩
      have HF := Lib.hid (H0.out w2 hq)
      clear hq HC H0
      have c0 : w2.cell? ⟨gk, 0, none⟩ = some (.pointer none) := by obtain ⟨v2, q⟩ := HF.out.st; exact q.at_.bk.cell 0
      have c1 := HF.out.kn.cell 0
      simp at c1
      go_wp2_with fail
      refine (HF.out.check _ HP.out.1 HP.out.2.1 HP.out.2.2.1 HP.out.2.2.2 (fun v' w' q => HN.out _ ⟨_, _, _, rfl⟩ _ (Nat.le_refl _) v' w' q)).mono ?_
      rintro e w3 ⟨rfl, hq⟩
      rw [HK2.out] at hq
      replace HF := Lib.hid hq
      clear hq c0 c1 HK2
      go_wp2_with fail
      refine HF.out.stop.mono ?_
      rintro e w3' ⟨rfl, rfl⟩
      have c1 := HF.out.kn.cell 0
      simp at c1
      rw [HST.out]
      obtain rfl := HZ.out
      have c2 := (HF.out.kb.cell i).trans HCS.out
      go_wp2_with fail
      clear c1 c2
      go_loopw [38] (fun t wr => t = .int .i64 0 ∧ w3 = wr) (fun t _ => 0)
      case atStart => exact ⟨rfl, rfl⟩
      case round =>
        obtain ⟨rfl, rfl⟩ := hrel
        go_wp2_with fail
        go_end0
        refine ⟨rfl, none, 0, ?_, .inl ⟨rfl, rfl⟩⟩
        obtain ⟨v', q⟩ := HF.out.st
        show Fld w base g gk s v k2 B t (cs.setIfInBounds i (.slice none 0 0)) _
        rw [set_same HCS.out]
        exact ⟨v', q, HF.out.kb⟩
  · simp only [if_true]
    go_enter Tryz.func101, Tryz.ntmps101
    go_wp2_with fail
    clear c0
    refine HC.out.mono ?_
    rintro e w2 ⟨rfl, hq⟩
    have HF := Lib.hid (H0.out w2 hq)
    clear hq HC H0
    have c0 : w2.cell? ⟨gk, 0, none⟩ = some (.pointer none) := by obtain ⟨v2, q⟩ := HF.out.st; exact q.at_.bk.cell 0
    have c1 := HF.out.kn.cell 0
    simp at c1
    go_wp2_with fail
    refine (HF.out.check _ HP.out.1 HP.out.2.1 HP.out.2.2.1 HP.out.2.2.2 (fun v' w' q => HN.out _ ⟨_, _, _, rfl⟩ _ (Nat.le_refl _) v' w' q)).mono ?_
    rintro e w3 ⟨rfl, hq⟩
    rw [HK2.out] at hq
    replace HF := Lib.hid hq
    clear hq c0 c1 HK2
    go_wp2_with fail
    refine HF.out.stop.mono ?_
    rintro e w3' ⟨rfl, rfl⟩
    have c1 := HF.out.kn.cell 0
    simp at c1
    rw [HST.out]
    go_wp2_with fail
    first | refine bodyPost_ret (results_none rfl _ _ _) rfl ?_ | (simp only [Exit.inBlock, Exit.then]; refine bodyPost_ret (results_none rfl _ _ _) rfl ?_)
    refine ⟨rfl, none, 0, ?_, .inl ⟨rfl, rfl⟩⟩
    rw [set_same HCS.out]
    obtain ⟨v', q⟩ := HF.out.st
    exact ⟨v', q, HF.out.kb⟩
end

section
variable {w : World} {base g gk : Nat} {s : ByteArray} {v : Value}
set_option maxRecDepth 100000 in
set_option maxHeartbeats 6400000 in
/-- in reading: a new row -/
theorem listMo_r {a : Nat} {bad many : Bool} (H : WkAt w base g gk s v (.rd a bad many)) (hs : s.size ≤ 140737488351232) {B i : Nat} {t : TypeId} {cs : Array Value} (K : Bk w B t cs) (hc : cs[i]? = some (.slice none 0 0)) (hB : ¬ WS g v B) (hk : B ≠ gk) :
    Calls Tryz.prog 75 #[.pointer (some ⟨gk, 0, none⟩), .pointer (some ⟨B, i, none⟩), .int .i64 16, .func (.func 76) #[.pointer (some ⟨gk, 0, none⟩)] #[]] w fun e w' => e = .returned (.tuple #[]) ∧ ∃ A c, Fld w base g gk s v (rwM (sbit s) (8 * s.size) (moM (sbit s) (8 * s.size)) Mo.zero [] (.rd a bad many)) B t (cs.setIfInBounds i (.slice A (rwV (sbit s) (8 * s.size) (moM (sbit s) (8 * s.size)) (moV (sbit s) (8 * s.size)) Mo.zero [] (.rd a bad many)).length c)) w' ∧ RowNew w w' 118 A 3 moF (rwV (sbit s) (8 * s.size) (moM (sbit s) (8 * s.size)) (moV (sbit s) (8 * s.size)) Mo.zero [] (.rd a bad many)) := by
  obtain ⟨n, hn, n0, n1, n16⟩ := rw_parts (sbit s) (8 * s.size) a bad many H.io.2.2
  obtain ⟨a', b', c', hu⟩ := ueM_rd (sbit s) (8 * s.size) 0 a bad many
  rw [hu] at n16
  obtain ⟨k2, hk2⟩ : ∃ k2, ckM (decide (n ≤ 16)) (.rd a' b' c') = k2 := ⟨_, rfl⟩
  have hk2r : ∃ a2 b2 c2, k2 = .rd a2 b2 c2 := ⟨_, _, _, hk2.symm⟩
  have hM : rwM (sbit s) (8 * s.size) (moM (sbit s) (8 * s.size)) Mo.zero [] (.rd a bad many) = if k2.stop = true then k2 else itM (moM (sbit s) (8 * s.size)) (if 0 < n then List.replicate n.toNat Mo.zero else []) k2 := by
    show (match ueM (sbit s) (8 * s.size) 0 (.rd a bad many) with | .wr b => _ | .rd a bad many => _) = _
    rw [hu]
    show (if (ckM (decide (ueV (sbit s) (8 * s.size) 0 (.rd a bad many) ≤ 16)) (.rd a' b' c')).stop = true then _ else _) = _
    rw [hn, hk2]
    show (if k2.stop = true then (ckM (decide (ueV (sbit s) (8 * s.size) 0 (.rd a bad many) ≤ 16)) (.rd a' b' c')) else itM _ (if 0 < ueV (sbit s) (8 * s.size) 0 (.rd a bad many) then List.replicate (ueV (sbit s) (8 * s.size) 0 (.rd a bad many)).toNat _ else []) (ckM (decide (ueV (sbit s) (8 * s.size) 0 (.rd a bad many) ≤ 16)) (.rd a' b' c'))) = _
    rw [hn, hk2]
  have hV : rwV (sbit s) (8 * s.size) (moM (sbit s) (8 * s.size)) (moV (sbit s) (8 * s.size)) Mo.zero [] (.rd a bad many) = if k2.stop = true then [] else itV (moM (sbit s) (8 * s.size)) (moV (sbit s) (8 * s.size)) (if 0 < n then List.replicate n.toNat Mo.zero else []) k2 := by
    show (match ueM (sbit s) (8 * s.size) 0 (.rd a bad many) with | .wr b => _ | .rd a bad many => _) = _
    rw [hu]
    show (if (ckM (decide (ueV (sbit s) (8 * s.size) 0 (.rd a bad many) ≤ 16)) (.rd a' b' c')).stop = true then [] else itV _ _ (if 0 < ueV (sbit s) (8 * s.size) 0 (.rd a bad many) then List.replicate (ueV (sbit s) (8 * s.size) 0 (.rd a bad many)).toNat _ else []) (ckM (decide (ueV (sbit s) (8 * s.size) 0 (.rd a bad many) ≤ 16)) (.rd a' b' c'))) = _
    rw [hn, hk2]
  have hgl : g < w.heap.size := Bk.lt H.io.1
  have hgkl := H.bk.lt
  have hBl := K.lt
  have hbl : Below w.heap.size w (w.alloc (.cells #[.int .i64 0] 3)) := (Below.refl w.heap.size w).alloc (Nat.le_refl _) _
  have KN := Bk.new w 3 #[.int .i64 0]
  have HC := Lib.hid (ue_k 0 (H.go hbl) hs (by show 0 ≤ _; omega) KN (i := 0) rfl (H.past (Nat.le_refl _)) (by omega))
  have h0 : ∀ w2, Fld (w.alloc (.cells #[.int .i64 0] 3)) base g gk s v (ueM (sbit s) (8 * s.size) 0 (.rd a bad many)) w.heap.size 3 (#[.int .i64 0].setIfInBounds 0 (.int .i64 (ueV (sbit s) (8 * s.size) 0 (.rd a bad many)))) w2 → RdL w base g gk s v (.rd a' b' c') B t cs n w2 := by
    rintro w2 ⟨v2, q1, q2⟩
    rw [hn] at q2
    rw [hu] at q1
    exact ⟨⟨v2, q1.at_, q1.new.pre hbl.size, (Touch.of_new hbl).old q1.touch (fun j hj q => by
      rcases q with q | q | q
      · exact .inl q
      · exact .inr (.inl q)
      · omega)⟩, (K.go hbl).touch q1.touch (by rintro (e | e | e); exact hB e; exact hk e; omega), q2⟩
  have H0 := Lib.hid h0
  have c0 := (K.cell i).trans hc
  have HCS := Lib.hid hc
  have HP := Lib.hid (And.intro hB (And.intro hk (And.intro hBl hgkl)))
  have HS := Lib.hid hs
  have hN : ∀ (kk : Wk), (∃ a2 b2 c2, kk = .rd a2 b2 c2) → ∀ (Br : Nat), w.heap.size ≤ Br → ∀ (v' : Value) (w' : World), WkAt w' base g gk s v' kk → ¬ WS g v' Br := by
    rintro kk ⟨a2, b2, c2, rfl⟩ Br hBr v' w' q
    exact q.nws (by omega)
  have HN := Lib.hid hN
  have HK2 := Lib.hid hk2
  have HKR := Lib.hid hk2r
  obtain ⟨st, hst⟩ : ∃ st, k2.stop = st := ⟨_, rfl⟩
  rw [hM, hV, hst]
  have hn16 : st = false → n ≤ 16 := fun e => n16 (by rw [hk2, hst]; exact e)
  have HST := Lib.hid hst
  clear hN hbl KN H K hM hV hu hn h0 hc hB hk hs hk2 hk2r n16 hst
  cases st
  · simp only [Bool.false_eq_true, if_false]
    replace hn16 := hn16 rfl
    rw [decide_eq_true hn16] at HK2
    by_cases hp : 0 < n
    · simp only [if_pos hp]
      obtain ⟨N, rfl⟩ : ∃ N : Nat, n = N := ⟨n.toNat, by omega⟩
      have hpN : 0 < N := by omega
      obtain ⟨i0, hi, hz0, hz1, hz2⟩ := info_parts Mo_info
      have hmk := fun w => run_make_rows (P := Tryz.prog) 24 118 i0 (.agg #[.int .i64 0, .int .i64 0, .int .i64 0]) 3 Tryz.underlying24 hi hz0 hz1 N (by rw [hz2]; omega) (by omega) w
      have hrow0 : RowIn (madeCells #[.int .i64 0, .int .i64 0, .int .i64 0] (N * 3)) 3 moF (List.replicate N Mo.zero) := RowIn.made N (by omega) rfl (by
        intro j hj
        have hj' : j = 0 ∨ j = 1 ∨ j = 2 := by omega
        rcases hj' with rfl | rfl | rfl <;> rfl)
      simp only [Value.cells] at hmk
      rw [show ((N : Nat) : Int).toNat = N from rfl]
      obtain ⟨L, hL⟩ : ∃ L, List.replicate N Mo.zero = L := ⟨_, rfl⟩
      have hLl : L.length = N := by rw [← hL]; simp
      rw [hL] at hrow0 ⊢
      obtain ⟨cz, hcz⟩ : ∃ cz, madeCells #[.int .i64 0, .int .i64 0, .int .i64 0] (N * 3) = cz := ⟨_, rfl⟩
      rw [hcz] at hrow0
      simp only [hcz] at hmk
      have HRW := Lib.hid hrow0
      clear hrow0 hcz hL hi hz0 hz1 hz2
      go_enter Tryz.func75, Tryz.ntmps75
      go_wp2_with fail
      clear c0
      refine HC.out.mono ?_
      rintro e w2 ⟨rfl, hq⟩
      have HF := Lib.hid (H0.out w2 hq)
      clear hq HC H0
      have c0 : w2.cell? ⟨gk, 0, none⟩ = some (.pointer none) := by obtain ⟨v2, q⟩ := HF.out.st; exact q.at_.bk.cell 0
      have c1 := HF.out.kn.cell 0
      simp at c1
      go_wp2_with fail
      refine (HF.out.check _ HP.out.1 HP.out.2.1 HP.out.2.2.1 HP.out.2.2.2 (fun v' w' q => HN.out _ ⟨_, _, _, rfl⟩ _ (Nat.le_refl _) v' w' q)).mono ?_
      rintro e w3 ⟨rfl, hq⟩
      rw [HK2.out] at hq
      replace HF := Lib.hid hq
      clear hq c0 c1 HK2
      go_wp2_with fail
      refine HF.out.stop.mono ?_
      rintro e w3' ⟨rfl, rfl⟩
      have c1 := HF.out.kn.cell 0
      simp at c1
      rw [HST.out]
      have hB3 : B < w3.heap.size := HF.out.kb.lt
      have HM := Lib.hid (HF.out.make HP.out.1 HP.out.2.1 HP.out.2.2.1 i (.slice (some ⟨w3.heap.size, 0, none⟩) N N) (.cells cz 118))
      have HB0 := Lib.hid (bk_made w3 ⟨B, i, none⟩ (.slice (some ⟨w3.heap.size, 0, none⟩) N N) 118 cz)
      have c2 := (HF.out.kb.cell i).trans HCS.out
      have f2 := HF.out.kb.frozen i
      have hBn : ¬ B = w3.heap.size := by omega
      have hw3 : w.heap.size < w3.heap.size := by have := HF.out.kn.lt; omega
      go_wp2_with fail
      clear c1 c2 f2 hmk HF
      go_loopw [38] (fun t' wr => ∃ j : Nat, j ≤ N ∧ t' = .int .i64 j ∧ RdL w base g gk s v (itM (moM (sbit s) (8 * s.size)) (L.take j) k2) B t (cs.setIfInBounds i (.slice (some ⟨w3.heap.size, 0, none⟩) N N)) N wr ∧ ∃ cj, Bk wr w3.heap.size 118 cj ∧ RowIn cj 3 moF (itR (moM (sbit s) (8 * s.size)) (moV (sbit s) (8 * s.size)) L k2 j)) (fun t' _ => N - (intOf t').toNat)
      case atStart => exact ⟨0, Nat.zero_le _, rfl, HM.out, cz, HB0.out, HRW.out⟩
      case round =>
        obtain ⟨j, hj, rfl, hq, cj, hbk, hrow⟩ := hrel
        clear HM HB0 HRW
        have HF := Lib.hid hq
        have hics : i < cs.size := (Array.getElem?_eq_some_iff.1 HCS.out).1
        have c2 := (hq.kb.cell i).trans (Array.getElem?_setIfInBounds_self_of_lt hics)
        have HBK := Lib.hid hbk
        have HRO := Lib.hid hrow
        clear hq hbk hrow
        by_cases hlt : j < N
        · have hlL : j < L.length := by omega
          obtain ⟨kj, hkj⟩ : ∃ kj, itM (moM (sbit s) (8 * s.size)) (L.take j) k2 = kj := ⟨_, rfl⟩
          have hkr : ∃ a2 b2 c2, kj = .rd a2 b2 c2 := by
            obtain ⟨a2, b2, c2, e2⟩ := HKR.out
            obtain ⟨a3, b3, c3, e3⟩ := itM_rd (moM (sbit s) (8 * s.size)) (moM_rd (sbit s) (8 * s.size)) (L.take j) a2 b2 c2
            exact ⟨a3, b3, c3, by rw [← hkj, e2, e3]⟩
          have hnx : itM (moM (sbit s) (8 * s.size)) (L.take (j + 1)) k2 = moM (sbit s) (8 * s.size) L[j] kj := by rw [take_snoc L j hlL, itM_snoc, hkj]
          have hrx : itR (moM (sbit s) (8 * s.size)) (moV (sbit s) (8 * s.size)) L k2 (j + 1) = (itR (moM (sbit s) (8 * s.size)) (moV (sbit s) (8 * s.size)) L k2 j).set j (moV (sbit s) (8 * s.size) L[j] kj) := by rw [itR_next _ _ _ _ _ hlL, hkj]
          have hRl : j < (itR (moM (sbit s) (8 * s.size)) (moV (sbit s) (8 * s.size)) L k2 j).length := by rw [itR_len]; exact hlL
          have hRj : (itR (moM (sbit s) (8 * s.size)) (moV (sbit s) (8 * s.size)) L k2 j)[j] = L[j] := by
            have := itR_at (moM (sbit s) (8 * s.size)) (moV (sbit s) (8 * s.size)) L k2 j hlL
            rw [List.getElem?_eq_getElem hRl] at this
            exact Option.some.inj this
          have hrow : ∀ q, q < 3 → cj[j * 3 + q]? = some (moF L[j] q) := fun q hq => by
            have := HRO.out.2 j hRl q hq
            rwa [hRj] at this
          have hN : Calls Tryz.prog 76 #[.pointer (some ⟨gk, 0, none⟩), .pointer (some ⟨w3.heap.size, j * 3, none⟩)] wr fun e w' => e = .returned (.tuple #[]) ∧ RdL w base g gk s v (itM (moM (sbit s) (8 * s.size)) (L.take (j + 1)) k2) B t (cs.setIfInBounds i (.slice (some ⟨w3.heap.size, 0, none⟩) N N)) N w' ∧ ∃ cj, Bk w' w3.heap.size 118 cj ∧ RowIn cj 3 moF (itR (moM (sbit s) (8 * s.size)) (moV (sbit s) (8 * s.size)) L k2 (j + 1)) := by
            obtain ⟨⟨vr, q⟩, qb, qn⟩ := HF.out
            rw [hkj] at q
            have hnw : ∀ Br, w.heap.size ≤ Br → ¬ WS g vr Br := fun Br h => HN.out kj hkr Br h vr wr q.at_
            have hlen : kj.len ≤ 900000 := by obtain ⟨a2, b2, c2, rfl⟩ := hkr; show 0 ≤ _; omega
            refine (op_k L[j] q.at_ HS.out hlen HBK.out (hrow 0 (by omega)) (hrow 1 (by omega)) (hrow 2 (by omega)) (hnw _ (by omega)) (by omega)).mono ?_
            rintro e w4 ⟨he, v4, r1, r2⟩
            refine ⟨he, ⟨⟨v4, by rw [hnx]; exact q.trans r1 (fun x hx e => by omega)⟩, qb.touch r1.touch ?_, qn.touch r1.touch ?_⟩, _, r2, ?_⟩
            · rintro (e | e | e)
              · exact q.ws HP.out.2.2.1 HP.out.1 e
              · exact HP.out.2.1 e
              · omega
            · rintro (e | e | e)
              · exact hnw _ (Nat.le_refl _) e
              · omega
              · omega
            · rw [hrx]
              exact HRO.out.setMo j hRl _
          have HNX := Lib.hid hN
          clear hN hnx hrx hRl hRj hrow hkj hkr HF HBK HRO
          go_wp2_with fail
          refine HNX.out.mono ?_
          rintro e w4 ⟨rfl, hq⟩
          have HF := Lib.hid hq
          clear hq HNX c2
          go_wp2_with fail
          go_roundw
          case rel => exact ⟨j + 1, by omega, by go_num, HF.out⟩
          case measure => simp [intOf]; omega
        · obtain rfl : j = N := by omega
          go_wp2_with fail
          go_end0
          have HF1 := HF.out
          have HR1 := HRO.out
          obtain rfl : L.length = j := hLl
          rw [List.take_length] at HF1
          rw [itR_all] at HR1
          refine ⟨rfl, some ⟨w3.heap.size, 0, none⟩, L.length, ?_, .inr ⟨w3.heap.size, cj, rfl, by omega, HBK.out, HR1⟩⟩
          rw [itV_len]
          obtain ⟨v', q⟩ := HF1.st
          exact ⟨v', q, HF1.kb⟩
    · simp only [if_neg hp]
      have HZ := Lib.hid (show n = 0 by omega)
      clear hp n0 n1
      go_enter Tryz.func75, Tryz.ntmps75
      go_wp2_with fail
      clear c0
      refine HC.out.mono ?_
      rintro e w2 ⟨rfl, hq⟩
      have HF := Lib.hid (H0.out w2 hq)
      clear hq HC H0
      have c0 : w2.cell? ⟨gk, 0, none⟩ = some (.pointer none) := by obtain ⟨v2, q⟩ := HF.out.st; exact q.at_.bk.cell 0
      have c1 := HF.out.kn.cell 0
      simp at c1
      go_wp2_with fail
      refine (HF.out.check _ HP.out.1 HP.out.2.1 HP.out.2.2.1 HP.out.2.2.2 (fun v' w' q => HN.out _ ⟨_, _, _, rfl⟩ _ (Nat.le_refl _) v' w' q)).mono ?_
      rintro e w3 ⟨rfl, hq⟩
      rw [HK2.out] at hq
      replace HF := Lib.hid hq
      clear hq c0 c1 HK2
      go_wp2_with fail
      refine HF.out.stop.mono ?_
      rintro e w3' ⟨rfl, rfl⟩
      have c1 := HF.out.kn.cell 0
      simp at c1
      rw [HST.out]
      obtain rfl := HZ.out
      have c2 := (HF.out.kb.cell i).trans HCS.out
      go_wp2_with fail
      clear c1 c2
      go_loopw [38] (fun t wr => t = .int .i64 0 ∧ w3 = wr) (fun t _ => 0)
      case atStart => exact ⟨rfl, rfl⟩
      case round =>
        obtain ⟨rfl, rfl⟩ := hrel
        go_wp2_with fail
        go_end0
        refine ⟨rfl, none, 0, ?_, .inl ⟨rfl, rfl⟩⟩
        obtain ⟨v', q⟩ := HF.out.st
        show Fld w base g gk s v k2 B t (cs.setIfInBounds i (.slice none 0 0)) _
        rw [set_same HCS.out]
        exact ⟨v', q, HF.out.kb⟩
  · simp only [if_true]
    go_enter Tryz.func75, Tryz.ntmps75
    go_wp2_with fail
    clear c0
    refine HC.out.mono ?_
    rintro e w2 ⟨rfl, hq⟩
    have HF := Lib.hid (H0.out w2 hq)
    clear hq HC H0
    have c0 : w2.cell? ⟨gk, 0, none⟩ = some (.pointer none) := by obtain ⟨v2, q⟩ := HF.out.st; exact q.at_.bk.cell 0
    have c1 := HF.out.kn.cell 0
    simp at c1
    go_wp2_with fail
    refine (HF.out.check _ HP.out.1 HP.out.2.1 HP.out.2.2.1 HP.out.2.2.2 (fun v' w' q => HN.out _ ⟨_, _, _, rfl⟩ _ (Nat.le_refl _) v' w' q)).mono ?_
    rintro e w3 ⟨rfl, hq⟩
    rw [HK2.out] at hq
    replace HF := Lib.hid hq
    clear hq c0 c1 HK2
    go_wp2_with fail
    refine HF.out.stop.mono ?_
    rintro e w3' ⟨rfl, rfl⟩
    have c1 := HF.out.kn.cell 0
    simp at c1
    rw [HST.out]
    go_wp2_with fail
    first | refine bodyPost_ret (results_none rfl _ _ _) rfl ?_ | (simp only [Exit.inBlock, Exit.then]; refine bodyPost_ret (results_none rfl _ _ _) rfl ?_)
    refine ⟨rfl, none, 0, ?_, .inl ⟨rfl, rfl⟩⟩
    rw [set_same HCS.out]
    obtain ⟨v', q⟩ := HF.out.st
    exact ⟨v', q, HF.out.kb⟩
end

end Go.Proofs.YtjokibagciehlaaGreat

namespace Go.Proofs.YtjokibagciehlaaGreat
open Go.RowKit
set_option linter.unusedVariables false
set_option linter.unusedSimpArgs false

theorem wtM_len (f : Nat → Bool) (N : Nat) (x : Wt) (k : Wk) : (wtM f N x k).len ≤ k.len + 384 := by
  unfold wtM wtM2 wtM1
  have h1 := seM_len f N x.s0 k
  have h2 := seM_len f N x.o0 (seM f N x.s0 k)
  have h3 := seM_len f N x.s1 (seM f N x.o0 (seM f N x.s0 k))
  have h4 := seM_len f N x.o1 (seM f N x.s1 (seM f N x.o0 (seM f N x.s0 k)))
  have h5 := seM_len f N x.s2 (seM f N x.o1 (seM f N x.s1 (seM f N x.o0 (seM f N x.s0 k))))
  have h6 := seM_len f N x.o2 (seM f N x.s2 (seM f N x.o1 (seM f N x.s1 (seM f N x.o0 (seM f N x.s0 k)))))
  omega
theorem wtM_wr (f : Nat → Bool) (N : Nat) (x : Wt) (b : List Bool) : ∃ b', wtM f N x (.wr b) = .wr b' := ⟨_, rfl⟩
theorem wtM_rd (f : Nat → Bool) (N : Nat) (x : Wt) (a : Nat) (b c : Bool) : ∃ a' b' c', wtM f N x (.rd a b c) = .rd a' b' c' := by
  unfold wtM wtM2 wtM1
  obtain ⟨a1, b1, c1, h1⟩ := seM_rd f N x.s0 a b c
  rw [h1]
  obtain ⟨a2, b2, c2, h2⟩ := seM_rd f N x.o0 a1 b1 c1
  rw [h2]
  obtain ⟨a3, b3, c3, h3⟩ := seM_rd f N x.s1 a2 b2 c2
  rw [h3]
  obtain ⟨a4, b4, c4, h4⟩ := seM_rd f N x.o1 a3 b3 c3
  rw [h4]
  obtain ⟨a5, b5, c5, h5⟩ := seM_rd f N x.s2 a4 b4 c4
  rw [h5]
  exact seM_rd f N x.o2 a5 b5 c5
theorem Wrt.cell {w w1 : World} {base g gk : Nat} {s : ByteArray} {v : Value} {k : Wk} (q : Wrt w base g gk s v k w1) {p : Addr} {x : Value} (hc : w.cell? p = some x) (h1 : ¬ WS g v p.block) (h2 : p.block ≠ gk) : w1.cell? p = some x := by
  obtain ⟨v1, q⟩ := q
  exact q.cell hc h1 h2 (fun e => e)
theorem Fld.keep {w w1 : World} {base g gk B B' : Nat} {s : ByteArray} {v : Value} {k : Wk} {t t' : TypeId} {cs cs' : Array Value} (q : Fld w base g gk s v k B t cs w1) (K : Bk w B' t' cs') (h1 : ¬ WS g v B') (h2 : B' ≠ gk) (h3 : B' ≠ B) : Bk w1 B' t' cs' := by
  obtain ⟨v1, q, _⟩ := q
  exact K.touch q.touch (by rintro (e | e | e); exact h1 e; exact h2 e; exact h3 e)
section
variable {w : World} {base g gk : Nat} {s : ByteArray} {v : Value}
set_option maxRecDepth 100000 in
set_option maxHeartbeats 6400000 in
/-- in writing: the rows may lie anywhere -/
theorem weights_w {b : List Bool} (l : List Wt) (A : Option Addr) (c : Nat) (p : Addr) (many : Int) (H : WkAt w base g gk s v (.wr b)) (hb : b.length ≤ 800000) (hl : l.length ≤ 16) (hc : w.cell? p = some (.slice A l.length c)) (hr : RwAt w w.heap.size A 6 wtF l) (hp : ¬ WS g v p.block) (hk : p.block ≠ gk) (ha : ∀ ad, A = some ad → ¬ WS g v ad.block ∧ ad.block ≠ gk) :
    Calls Tryz.prog 104 #[.pointer (some ⟨gk, 0, none⟩), .pointer (some p), .int .i64 many] w fun e w' => e = .returned (.tuple #[]) ∧ Wrt w base g gk s v (wsM (sbit s) (8 * s.size) l many (.wr b)) w' := by
  have HF := Lib.hid (Wrt.refl H)
  have HR := Lib.hid hr
  have HP := Lib.hid (And.intro hp hk)
  have HA := Lib.hid ha
  have HH := Lib.hid hc
  have c0 := H.bk.cell 0
  simp [wkC] at c0
  have hM : wsM (sbit s) (8 * s.size) l many (.wr b) = itM (wtM (sbit s) (8 * s.size)) l (.wr b) := rfl
  rw [hM]
  clear H hr hp hk ha hM
  go_enter Tryz.func104, Tryz.ntmps104
  go_wp2_with fail
  clear c0 hc
  go_loopw [25] (fun t wr => ∃ j : Nat, j ≤ l.length ∧ t = .int .i64 j ∧ Wrt w base g gk s v (itM (wtM (sbit s) (8 * s.size)) (l.take j) (.wr b)) wr) (fun t _ => l.length - (intOf t).toNat)
  case atStart => exact ⟨0, Nat.zero_le _, rfl, HF.out⟩
  case round =>
    obtain ⟨j, hj, rfl, hq⟩ := hrel
    clear HF
    have HF := Lib.hid hq
    clear hq
    by_cases hlt : j < l.length
    · have h0 : 0 < l.length := by omega
      obtain ⟨ad, rfl, hab, hcell⟩ := HR.out h0
      have h1 := hcell j hlt
      obtain ⟨a1, a2⟩ := HA.out ad rfl
      have a1' : ∀ q, ¬ WS g v (ad.add q).block := fun q => by rw [block_add]; exact a1
      have a2' : ∀ q, (ad.add q).block ≠ gk := fun q => by rw [block_add]; exact a2
      obtain ⟨b0, hb0⟩ := itM_wr (wtM (sbit s) (8 * s.size)) (wtM_wr (sbit s) (8 * s.size)) (l.take j) b
      have hlen := itM_len_le (wtM (sbit s) (8 * s.size)) 384 (wtM_len (sbit s) (8 * s.size)) (l.take j) (.wr b)
      rw [hb0, List.length_take, Nat.min_eq_left hj] at hlen
      have hl0 : b0.length ≤ b.length + j * 384 := hlen
      have hnx : itM (wtM (sbit s) (8 * s.size)) (l.take (j + 1)) (.wr b) = wtM (sbit s) (8 * s.size) l[j] (.wr b0) := by rw [take_snoc l j hlt, itM_snoc, hb0]
      have HF0 := HF.out
      rw [hb0] at HF0
      clear HF
      have HF := Lib.hid HF0
      have hl0' : b0.length ≤ 900000 := by omega
      clear HF0 hb0 hlen hl0 hcell a1 a2
      obtain ⟨x, hx⟩ : ∃ x, l[j] = x := ⟨_, rfl⟩
      rw [hx] at h1 hnx
      have l1 := seW_le x.s0 b0
      have l2 := seW_le x.o0 (seW x.s0 b0)
      have l3 := seW_le x.s1 (seW x.o0 (seW x.s0 b0))
      have l4 := seW_le x.o1 (seW x.s1 (seW x.o0 (seW x.s0 b0)))
      have l5 := seW_le x.s2 (seW x.o1 (seW x.s1 (seW x.o0 (seW x.s0 b0))))
      have l6 := seW_le x.o2 (seW x.s2 (seW x.o1 (seW x.s1 (seW x.o0 (seW x.s0 b0)))))
      have CE : Hid (w.cell? (ad.add (j * 6)) = some (.int .i64 x.s0) ∧ w.cell? ⟨(ad.add (j * 6)).block, (ad.add (j * 6)).off + 1, none⟩ = some (.int .i64 x.s1) ∧ w.cell? ⟨(ad.add (j * 6)).block, (ad.add (j * 6)).off + 2, none⟩ = some (.int .i64 x.s2) ∧ w.cell? ⟨(ad.add (j * 6)).block, (ad.add (j * 6)).off + 3, none⟩ = some (.int .i64 x.o0) ∧ w.cell? ⟨(ad.add (j * 6)).block, (ad.add (j * 6)).off + 4, none⟩ = some (.int .i64 x.o1) ∧ w.cell? ⟨(ad.add (j * 6)).block, (ad.add (j * 6)).off + 5, none⟩ = some (.int .i64 x.o2)) := Lib.hid ⟨h1.1, h1.2 1 (by omega) (by omega), h1.2 2 (by omega) (by omega), h1.2 3 (by omega) (by omega), h1.2 4 (by omega) (by omega), h1.2 5 (by omega) (by omega)⟩
      have HAD := Lib.hid (And.intro (a1' (j * 6)) (a2' (j * 6)))
      clear h1 a1' a2' HR HA hx
      have HNX := Lib.hid hnx
      clear hnx
      have c2 := HF.out.cell HH.out HP.out.1 HP.out.2
      go_wp2_with fail
      refine wp_loop_rounds 4 ?_
      rw [rounds_succ]
      go_wp2_with fail
      clear c2
      refine (Wrt.se (b := b0) HF.out x.s0 (ad.add (j * 6)) (by omega) CE.out.1 HAD.out.1 HAD.out.2).mono ?_
      rintro e w1 ⟨rfl, hq⟩
      replace HF : Hid (Wrt w base g gk s v (.wr (seW x.s0 b0)) w1) := Lib.hid hq
      clear hq
      have c2 := HF.out.cell HH.out HP.out.1 HP.out.2
      go_wp2_with fail
      clear c2
      refine (Wrt.se (b := seW x.s0 b0) HF.out x.o0 ⟨(ad.add (j * 6)).block, (ad.add (j * 6)).off + 3, none⟩ (by omega) CE.out.2.2.2.1 HAD.out.1 HAD.out.2).mono ?_
      rintro e w2 ⟨rfl, hq⟩
      replace HF : Hid (Wrt w base g gk s v (.wr (seW x.o0 (seW x.s0 b0))) w2) := Lib.hid hq
      clear hq
      go_wp2_with fail
      rw [rounds_succ]
      have c2 := HF.out.cell HH.out HP.out.1 HP.out.2
      go_wp2_with fail
      clear c2
      refine (Wrt.se (b := seW x.o0 (seW x.s0 b0)) HF.out x.s1 ⟨(ad.add (j * 6)).block, (ad.add (j * 6)).off + 1, none⟩ (by omega) CE.out.2.1 HAD.out.1 HAD.out.2).mono ?_
      rintro e w3 ⟨rfl, hq⟩
      replace HF : Hid (Wrt w base g gk s v (.wr (seW x.s1 (seW x.o0 (seW x.s0 b0)))) w3) := Lib.hid hq
      clear hq
      have c2 := HF.out.cell HH.out HP.out.1 HP.out.2
      go_wp2_with fail
      clear c2
      refine (Wrt.se (b := seW x.s1 (seW x.o0 (seW x.s0 b0))) HF.out x.o1 ⟨(ad.add (j * 6)).block, (ad.add (j * 6)).off + 4, none⟩ (by omega) CE.out.2.2.2.2.1 HAD.out.1 HAD.out.2).mono ?_
      rintro e w4 ⟨rfl, hq⟩
      replace HF : Hid (Wrt w base g gk s v (.wr (seW x.o1 (seW x.s1 (seW x.o0 (seW x.s0 b0))))) w4) := Lib.hid hq
      clear hq
      go_wp2_with fail
      rw [rounds_succ]
      have c2 := HF.out.cell HH.out HP.out.1 HP.out.2
      go_wp2_with fail
      clear c2
      refine (Wrt.se (b := seW x.o1 (seW x.s1 (seW x.o0 (seW x.s0 b0)))) HF.out x.s2 ⟨(ad.add (j * 6)).block, (ad.add (j * 6)).off + 2, none⟩ (by omega) CE.out.2.2.1 HAD.out.1 HAD.out.2).mono ?_
      rintro e w5 ⟨rfl, hq⟩
      replace HF : Hid (Wrt w base g gk s v (.wr (seW x.s2 (seW x.o1 (seW x.s1 (seW x.o0 (seW x.s0 b0)))))) w5) := Lib.hid hq
      clear hq
      have c2 := HF.out.cell HH.out HP.out.1 HP.out.2
      go_wp2_with fail
      clear c2
      refine (Wrt.se (b := seW x.s2 (seW x.o1 (seW x.s1 (seW x.o0 (seW x.s0 b0))))) HF.out x.o2 ⟨(ad.add (j * 6)).block, (ad.add (j * 6)).off + 5, none⟩ (by omega) CE.out.2.2.2.2.2 HAD.out.1 HAD.out.2).mono ?_
      rintro e w6 ⟨rfl, hq⟩
      replace HF : Hid (Wrt w base g gk s v (.wr (seW x.o2 (seW x.s2 (seW x.o1 (seW x.s1 (seW x.o0 (seW x.s0 b0))))))) w6) := Lib.hid hq
      clear hq
      go_wp2_with fail
      rw [rounds_succ]
      go_wp2_with fail
      go_roundw
      case rel => exact ⟨j + 1, by omega, by go_num, HNX.out ▸ HF.out⟩
      case measure => simp [intOf]; omega
    · obtain rfl : j = l.length := by omega
      have HF2 := HF.out
      rw [List.take_length] at HF2
      clear HF
      have HF := Lib.hid HF2
      clear HF2
      go_wp2_with fail
      go_end0
      exact ⟨rfl, HF.out⟩
end
end Go.Proofs.YtjokibagciehlaaGreat

namespace Go.Proofs.YtjokibagciehlaaGreat
open Go.RowKit
set_option linter.unusedVariables false
set_option linter.unusedSimpArgs false

/-- on the way: the walk, the field's block -/
structure RdW (w : World) (base g gk : Nat) (s : ByteArray) (v : Value) (k : Wk) (B : Nat) (t : TypeId) (cs : Array Value) (w' : World) : Prop where
  st : ∃ v', WkTo (fun j => j = B) w base g gk s v k w' v'
  kb : Bk w' B t cs
theorem RdW.make {w w1 : World} {base g gk : Nat} {s : ByteArray} {v : Value} {k : Wk} {B : Nat} {t : TypeId} {cs : Array Value} (q : RdW w base g gk s v k B t cs w1) (hB : ¬ WS g v B) (hk : B ≠ gk) (hlt : B < w.heap.size) (i : Nat) (u : Value) (o : Obj) : RdW w base g gk s v k B t (cs.setIfInBounds i u) ((w1.setCell ⟨B, i, none⟩ u).alloc o) := by
  obtain ⟨⟨v1, q1⟩, q2⟩ := q
  have ht : Touch (fun j => j = B) w1 (w1.setCell ⟨B, i, none⟩ u) := (Touch.refl (fun j => j = B) w1).setCell (p := ⟨B, i, none⟩) (fun _ => rfl) u
  have hb : Below (w1.setCell ⟨B, i, none⟩ u).heap.size (w1.setCell ⟨B, i, none⟩ u) ((w1.setCell ⟨B, i, none⟩ u).alloc o) := (Below.refl _ _).alloc (Nat.le_refl _) o
  exact ⟨⟨v1, (q1.at_.touch_ ht (fun j hj e => q1.ws hlt hB (e ▸ hj)) (fun e => hk e.symm)).go hb, q1.new, (q1.touch.setCell (fun _ => .inr (.inr rfl)) u).alloc o⟩, (q2.set_ i u).go hb⟩
theorem Wt_info : (Tryz.prog.info? 116).map (fun i => (i.zero, i.size, i.bytes)) = some (some (.agg #[.int .i64 0, .int .i64 0, .int .i64 0, .int .i64 0, .int .i64 0, .int .i64 0]), 6, 48) := by kernel_rfl
theorem RowIn.setWt {cs : Array Value} {l : List Wt} (h : RowIn cs 6 wtF l) (i : Nat) (hi : i < l.length) (y : Wt) : RowIn ((((((cs.setIfInBounds (i * 6 + 0) (.int .i64 y.s0)).setIfInBounds (i * 6 + 3) (.int .i64 y.o0)).setIfInBounds (i * 6 + 1) (.int .i64 y.s1)).setIfInBounds (i * 6 + 4) (.int .i64 y.o1)).setIfInBounds (i * 6 + 2) (.int .i64 y.s2)).setIfInBounds (i * 6 + 5) (.int .i64 y.o2)) 6 wtF (l.set i y) := by
  obtain ⟨h1, h2⟩ := h
  refine ⟨by simp only [Array.size_setIfInBounds, List.length_set]; exact h1, fun i' hi' j hj => ?_⟩
  rw [List.length_set] at hi'
  have hb : i' * 6 + j < cs.size := by omega
  by_cases e : i' = i
  · subst e
    rw [List.getElem_set_self]
    have hj' : j = 0 ∨ j = 1 ∨ j = 2 ∨ j = 3 ∨ j = 4 ∨ j = 5 := by omega
    rcases hj' with rfl | rfl | rfl | rfl | rfl | rfl
    all_goals
      simp [Array.getElem?_setIfInBounds, hb]
      first | rfl | (intro hq; omega) | (simp [wtF]; done) | (simp [wtF]; omega)
  · rw [List.getElem_set_ne (by omega)]
    have hq := h2 i' hi' j hj
    rw [Array.getElem?_setIfInBounds_ne (by omega), Array.getElem?_setIfInBounds_ne (by omega), Array.getElem?_setIfInBounds_ne (by omega), Array.getElem?_setIfInBounds_ne (by omega), Array.getElem?_setIfInBounds_ne (by omega), Array.getElem?_setIfInBounds_ne (by omega)]
    exact hq
section
variable {w : World} {base g gk : Nat} {s : ByteArray} {v : Value}
set_option maxRecDepth 100000 in
set_option maxHeartbeats 6400000 in
/-- in reading: a new row -/
theorem weights_r {a : Nat} {bad many : Bool} (m : Int) (m0 : 0 ≤ m) (m1 : m ≤ 2147483647) (H : WkAt w base g gk s v (.rd a bad many)) (hs : s.size ≤ 140737488351232) {B i : Nat} {t : TypeId} {cs : Array Value} (K : Bk w B t cs) (hc : cs[i]? = some (.slice none 0 0)) (hB : ¬ WS g v B) (hk : B ≠ gk) :
    Calls Tryz.prog 104 #[.pointer (some ⟨gk, 0, none⟩), .pointer (some ⟨B, i, none⟩), .int .i64 m] w fun e w' => e = .returned (.tuple #[]) ∧ ∃ A c, Fld w base g gk s v (wsM (sbit s) (8 * s.size) [] m (.rd a bad many)) B t (cs.setIfInBounds i (.slice A (wsV (sbit s) (8 * s.size) [] m (.rd a bad many)).length c)) w' ∧ RowNew w w' 116 A 6 wtF (wsV (sbit s) (8 * s.size) [] m (.rd a bad many)) := by
  obtain ⟨k2, hk2⟩ : ∃ k2, Wk.rd a bad many = k2 := ⟨_, rfl⟩
  have hk2r : ∃ a2 b2 c2, k2 = .rd a2 b2 c2 := ⟨_, _, _, hk2.symm⟩
  have hM : wsM (sbit s) (8 * s.size) [] m (.rd a bad many) = itM (wtM (sbit s) (8 * s.size)) (if 0 < m then List.replicate m.toNat Wt.zero else []) k2 := by
    rw [← hk2]
    unfold wsM wtL
    by_cases h : 0 < m <;> simp [h, Wk.isW]
  have hV : wsV (sbit s) (8 * s.size) [] m (.rd a bad many) = itV (wtM (sbit s) (8 * s.size)) (wtV (sbit s) (8 * s.size)) (if 0 < m then List.replicate m.toNat Wt.zero else []) k2 := by
    rw [← hk2]
    unfold wsV wtL
    by_cases h : 0 < m <;> simp [h, Wk.isW]
  rw [hM, hV]
  have hgl : g < w.heap.size := Bk.lt H.io.1
  have hgkl := H.bk.lt
  have hBl := K.lt
  rw [hk2] at H
  have HF : Hid (RdW w base g gk s v k2 B t cs w) := Lib.hid ⟨⟨v, WkTo.refl _ H⟩, K⟩
  have c0 := H.bk.cell 0
  rw [← hk2] at c0
  simp [wkC] at c0
  have c1 := (K.cell i).trans hc
  have f1 := K.frozen i
  have HCS := Lib.hid hc
  have HP := Lib.hid (And.intro hB (And.intro hk (And.intro hBl hgkl)))
  have HS := Lib.hid hs
  have hN : ∀ (kk : Wk), (∃ a2 b2 c2, kk = .rd a2 b2 c2) → ∀ (Br : Nat), w.heap.size ≤ Br → ∀ (v' : Value) (w' : World), WkAt w' base g gk s v' kk → ¬ WS g v' Br := by
    rintro kk ⟨a2, b2, c2, rfl⟩ Br hBr v' w' q
    exact q.nws (by omega)
  have HN := Lib.hid hN
  have HKR := Lib.hid hk2r
  clear hN hM hV H K hc hB hk hs hk2 hk2r
  by_cases hp : 0 < m
  · simp only [if_pos hp]
    obtain ⟨N, rfl⟩ : ∃ N : Nat, m = N := ⟨m.toNat, by omega⟩
    have hpN : 0 < N := by omega
    obtain ⟨i0, hi, hz0, hz1, hz2⟩ := info_parts Wt_info
    have hmk := fun w => run_make_rows (P := Tryz.prog) 23 116 i0 (.agg #[.int .i64 0, .int .i64 0, .int .i64 0, .int .i64 0, .int .i64 0, .int .i64 0]) 6 Tryz.underlying23 hi hz0 hz1 N (by rw [hz2]; omega) (by omega) w
    simp only [Value.cells] at hmk
    have hrow0 : RowIn (madeCells #[.int .i64 0, .int .i64 0, .int .i64 0, .int .i64 0, .int .i64 0, .int .i64 0] (N * 6)) 6 wtF (List.replicate N Wt.zero) := RowIn.made N (by omega) rfl (by
      intro j hj
      have hj' : j = 0 ∨ j = 1 ∨ j = 2 ∨ j = 3 ∨ j = 4 ∨ j = 5 := by omega
      rcases hj' with rfl | rfl | rfl | rfl | rfl | rfl <;> rfl)
    rw [show ((N : Nat) : Int).toNat = N from rfl]
    obtain ⟨L, hL⟩ : ∃ L, List.replicate N Wt.zero = L := ⟨_, rfl⟩
    have hLl : L.length = N := by rw [← hL]; simp
    rw [hL] at hrow0 ⊢
    obtain ⟨cz, hcz⟩ : ∃ cz, madeCells #[.int .i64 0, .int .i64 0, .int .i64 0, .int .i64 0, .int .i64 0, .int .i64 0] (N * 6) = cz := ⟨_, rfl⟩
    rw [hcz] at hrow0
    simp only [hcz] at hmk
    have HRW := Lib.hid hrow0
    have HM := Lib.hid (HF.out.make HP.out.1 HP.out.2.1 HP.out.2.2.1 i (.slice (some ⟨w.heap.size, 0, none⟩) N N) (.cells cz 116))
    have HB0 := Lib.hid (bk_made w ⟨B, i, none⟩ (.slice (some ⟨w.heap.size, 0, none⟩) N N) 116 cz)
    have hBn : ¬ B = w.heap.size := by omega
    clear hrow0 hcz hL hi hz0 hz1 hz2
    go_enter Tryz.func104, Tryz.ntmps104
    go_wp2_with fail
    clear c0 c1 f1 hmk HF
    go_loopw [25] (fun t' wr => ∃ j : Nat, j ≤ N ∧ t' = .int .i64 j ∧ RdW w base g gk s v (itM (wtM (sbit s) (8 * s.size)) (L.take j) k2) B t (cs.setIfInBounds i (.slice (some ⟨w.heap.size, 0, none⟩) N N)) wr ∧ ∃ cj, Bk wr w.heap.size 116 cj ∧ RowIn cj 6 wtF (itR (wtM (sbit s) (8 * s.size)) (wtV (sbit s) (8 * s.size)) L k2 j)) (fun t' _ => N - (intOf t').toNat)
    case atStart => exact ⟨0, Nat.zero_le _, rfl, HM.out, cz, HB0.out, HRW.out⟩
    case round =>
      obtain ⟨j, hj, rfl, hq, cj, hbk, hrow⟩ := hrel
      clear HM HB0 HRW
      have HF := Lib.hid hq
      have hics : i < cs.size := (Array.getElem?_eq_some_iff.1 HCS.out).1
      have c2 := (hq.kb.cell i).trans (Array.getElem?_setIfInBounds_self_of_lt hics)
      have HBK := Lib.hid hbk
      have HRO := Lib.hid hrow
      have HC2 := Lib.hid (And.intro hq.kb (Array.getElem?_setIfInBounds_self_of_lt hics : (cs.setIfInBounds i (.slice (some ⟨w.heap.size, 0, none⟩) N N))[i]? = _))
      clear hq hbk hrow
      by_cases hlt : j < N
      · have hlL : j < L.length := by omega
        obtain ⟨kj, hkj⟩ : ∃ kj, itM (wtM (sbit s) (8 * s.size)) (L.take j) k2 = kj := ⟨_, rfl⟩
        have hkr : ∃ a2 b2 c2, kj = .rd a2 b2 c2 := by
          obtain ⟨a2, b2, c2, e2⟩ := HKR.out
          obtain ⟨a3, b3, c3, e3⟩ := itM_rd (wtM (sbit s) (8 * s.size)) (wtM_rd (sbit s) (8 * s.size)) (L.take j) a2 b2 c2
          exact ⟨a3, b3, c3, by rw [← hkj, e2, e3]⟩
        have hnx : itM (wtM (sbit s) (8 * s.size)) (L.take (j + 1)) k2 = wtM (sbit s) (8 * s.size) L[j] kj := by rw [take_snoc L j hlL, itM_snoc, hkj]
        have hrx : itR (wtM (sbit s) (8 * s.size)) (wtV (sbit s) (8 * s.size)) L k2 (j + 1) = (itR (wtM (sbit s) (8 * s.size)) (wtV (sbit s) (8 * s.size)) L k2 j).set j (wtV (sbit s) (8 * s.size) L[j] kj) := by rw [itR_next _ _ _ _ _ hlL, hkj]
        have hRl : j < (itR (wtM (sbit s) (8 * s.size)) (wtV (sbit s) (8 * s.size)) L k2 j).length := by rw [itR_len]; exact hlL
        have hRj : (itR (wtM (sbit s) (8 * s.size)) (wtV (sbit s) (8 * s.size)) L k2 j)[j] = L[j] := by
          have := itR_at (wtM (sbit s) (8 * s.size)) (wtV (sbit s) (8 * s.size)) L k2 j hlL
          rw [List.getElem?_eq_getElem hRl] at this
          exact Option.some.inj this
        have hrow : ∀ q, q < 6 → cj[j * 6 + q]? = some (wtF L[j] q) := fun q hq => by
          have := HRO.out.2 j hRl q hq
          rwa [hRj] at this
        have hjs : j * 6 + 5 < cj.size := (Array.getElem?_eq_some_iff.1 (hrow 5 (by omega))).1
        have HF0 := HF.out
        rw [hkj] at HF0
        clear HF
        obtain ⟨x, hx⟩ : ∃ x, L[j] = x := ⟨_, rfl⟩
        rw [hx] at hrow hnx hrx
        obtain ⟨⟨vr, q⟩, qb⟩ := HF0
        have hnw : ¬ WS g vr w.heap.size := HN.out kj hkr w.heap.size (Nat.le_refl _) vr wr q.at_
        have hnB : ¬ WS g vr B := q.ws HP.out.2.2.1 HP.out.1
        have hwl : w.heap.size < wr.heap.size := HBK.out.lt
        have hlen : kj.len = 0 := by obtain ⟨a2, b2, c2, rfl⟩ := hkr; rfl
        have HW := Lib.hid (And.intro hnw (And.intro (show w.heap.size ≠ gk by omega) (And.intro hwl (And.intro hnB (And.intro HP.out.2.1 (show B ≠ w.heap.size by omega))))))
        have HF : Hid (Fld wr base g gk s vr kj w.heap.size 116 cj wr) := Lib.hid (Fld.refl q.at_ HBK.out)
        have hl1 : (seM (sbit s) (8 * s.size) x.s0 kj).len ≤ kj.len + 64 := seM_len (sbit s) (8 * s.size) x.s0 kj
        have hl2 : (seM (sbit s) (8 * s.size) x.o0 (seM (sbit s) (8 * s.size) x.s0 kj)).len ≤ (seM (sbit s) (8 * s.size) x.s0 kj).len + 64 := seM_len (sbit s) (8 * s.size) x.o0 (seM (sbit s) (8 * s.size) x.s0 kj)
        have hl3 : (seM (sbit s) (8 * s.size) x.s1 (seM (sbit s) (8 * s.size) x.o0 (seM (sbit s) (8 * s.size) x.s0 kj))).len ≤ (seM (sbit s) (8 * s.size) x.o0 (seM (sbit s) (8 * s.size) x.s0 kj)).len + 64 := seM_len (sbit s) (8 * s.size) x.s1 (seM (sbit s) (8 * s.size) x.o0 (seM (sbit s) (8 * s.size) x.s0 kj))
        have hl4 : (seM (sbit s) (8 * s.size) x.o1 (seM (sbit s) (8 * s.size) x.s1 (seM (sbit s) (8 * s.size) x.o0 (seM (sbit s) (8 * s.size) x.s0 kj)))).len ≤ (seM (sbit s) (8 * s.size) x.s1 (seM (sbit s) (8 * s.size) x.o0 (seM (sbit s) (8 * s.size) x.s0 kj))).len + 64 := seM_len (sbit s) (8 * s.size) x.o1 (seM (sbit s) (8 * s.size) x.s1 (seM (sbit s) (8 * s.size) x.o0 (seM (sbit s) (8 * s.size) x.s0 kj)))
        have hl5 : (seM (sbit s) (8 * s.size) x.s2 (seM (sbit s) (8 * s.size) x.o1 (seM (sbit s) (8 * s.size) x.s1 (seM (sbit s) (8 * s.size) x.o0 (seM (sbit s) (8 * s.size) x.s0 kj))))).len ≤ (seM (sbit s) (8 * s.size) x.o1 (seM (sbit s) (8 * s.size) x.s1 (seM (sbit s) (8 * s.size) x.o0 (seM (sbit s) (8 * s.size) x.s0 kj)))).len + 64 := seM_len (sbit s) (8 * s.size) x.s2 (seM (sbit s) (8 * s.size) x.o1 (seM (sbit s) (8 * s.size) x.s1 (seM (sbit s) (8 * s.size) x.o0 (seM (sbit s) (8 * s.size) x.s0 kj))))
        have hl6 : (seM (sbit s) (8 * s.size) x.o2 (seM (sbit s) (8 * s.size) x.s2 (seM (sbit s) (8 * s.size) x.o1 (seM (sbit s) (8 * s.size) x.s1 (seM (sbit s) (8 * s.size) x.o0 (seM (sbit s) (8 * s.size) x.s0 kj)))))).len ≤ (seM (sbit s) (8 * s.size) x.s2 (seM (sbit s) (8 * s.size) x.o1 (seM (sbit s) (8 * s.size) x.s1 (seM (sbit s) (8 * s.size) x.o0 (seM (sbit s) (8 * s.size) x.s0 kj))))).len + 64 := seM_len (sbit s) (8 * s.size) x.o2 (seM (sbit s) (8 * s.size) x.s2 (seM (sbit s) (8 * s.size) x.o1 (seM (sbit s) (8 * s.size) x.s1 (seM (sbit s) (8 * s.size) x.o0 (seM (sbit s) (8 * s.size) x.s0 kj)))))
        have hr0 : ∀ (u0 u1 u2 u3 u4 : Value), (cj)[j * 6 + 0]? = some (.int .i64 x.s0) := by
          intro u0 u1 u2 u3 u4
          exact hrow 0 (by omega)
        have HE0 := Lib.hid hr0
        have hr1 : ∀ (u0 u1 u2 u3 u4 : Value), ((cj.setIfInBounds (j * 6 + 0) u0))[j * 6 + 3]? = some (.int .i64 x.o0) := by
          intro u0 u1 u2 u3 u4
          rw [Array.getElem?_setIfInBounds_ne (by omega)]
          exact hrow 3 (by omega)
        have HE1 := Lib.hid hr1
        have hr2 : ∀ (u0 u1 u2 u3 u4 : Value), (((cj.setIfInBounds (j * 6 + 0) u0).setIfInBounds (j * 6 + 3) u1))[j * 6 + 1]? = some (.int .i64 x.s1) := by
          intro u0 u1 u2 u3 u4
          rw [Array.getElem?_setIfInBounds_ne (by omega), Array.getElem?_setIfInBounds_ne (by omega)]
          exact hrow 1 (by omega)
        have HE2 := Lib.hid hr2
        have hr3 : ∀ (u0 u1 u2 u3 u4 : Value), ((((cj.setIfInBounds (j * 6 + 0) u0).setIfInBounds (j * 6 + 3) u1).setIfInBounds (j * 6 + 1) u2))[j * 6 + 4]? = some (.int .i64 x.o1) := by
          intro u0 u1 u2 u3 u4
          rw [Array.getElem?_setIfInBounds_ne (by omega), Array.getElem?_setIfInBounds_ne (by omega), Array.getElem?_setIfInBounds_ne (by omega)]
          exact hrow 4 (by omega)
        have HE3 := Lib.hid hr3
        have hr4 : ∀ (u0 u1 u2 u3 u4 : Value), (((((cj.setIfInBounds (j * 6 + 0) u0).setIfInBounds (j * 6 + 3) u1).setIfInBounds (j * 6 + 1) u2).setIfInBounds (j * 6 + 4) u3))[j * 6 + 2]? = some (.int .i64 x.s2) := by
          intro u0 u1 u2 u3 u4
          rw [Array.getElem?_setIfInBounds_ne (by omega), Array.getElem?_setIfInBounds_ne (by omega), Array.getElem?_setIfInBounds_ne (by omega), Array.getElem?_setIfInBounds_ne (by omega)]
          exact hrow 2 (by omega)
        have HE4 := Lib.hid hr4
        have hr5 : ∀ (u0 u1 u2 u3 u4 : Value), ((((((cj.setIfInBounds (j * 6 + 0) u0).setIfInBounds (j * 6 + 3) u1).setIfInBounds (j * 6 + 1) u2).setIfInBounds (j * 6 + 4) u3).setIfInBounds (j * 6 + 2) u4))[j * 6 + 5]? = some (.int .i64 x.o2) := by
          intro u0 u1 u2 u3 u4
          rw [Array.getElem?_setIfInBounds_ne (by omega), Array.getElem?_setIfInBounds_ne (by omega), Array.getElem?_setIfInBounds_ne (by omega), Array.getElem?_setIfInBounds_ne (by omega), Array.getElem?_setIfInBounds_ne (by omega)]
          exact hrow 5 (by omega)
        have HE5 := Lib.hid hr5
        have HFIN : Hid (∀ w', Fld wr base g gk s vr (seM (sbit s) (8 * s.size) x.o2 (seM (sbit s) (8 * s.size) x.s2 (seM (sbit s) (8 * s.size) x.o1 (seM (sbit s) (8 * s.size) x.s1 (seM (sbit s) (8 * s.size) x.o0 (seM (sbit s) (8 * s.size) x.s0 kj)))))) w.heap.size 116 (((((((cj.setIfInBounds (j * 6 + 0) (.int .i64 (seV (sbit s) (8 * s.size) x.s0 kj))).setIfInBounds (j * 6 + 3) (.int .i64 (seV (sbit s) (8 * s.size) x.o0 (seM (sbit s) (8 * s.size) x.s0 kj)))).setIfInBounds (j * 6 + 1) (.int .i64 (seV (sbit s) (8 * s.size) x.s1 (seM (sbit s) (8 * s.size) x.o0 (seM (sbit s) (8 * s.size) x.s0 kj))))).setIfInBounds (j * 6 + 4) (.int .i64 (seV (sbit s) (8 * s.size) x.o1 (seM (sbit s) (8 * s.size) x.s1 (seM (sbit s) (8 * s.size) x.o0 (seM (sbit s) (8 * s.size) x.s0 kj)))))).setIfInBounds (j * 6 + 2) (.int .i64 (seV (sbit s) (8 * s.size) x.s2 (seM (sbit s) (8 * s.size) x.o1 (seM (sbit s) (8 * s.size) x.s1 (seM (sbit s) (8 * s.size) x.o0 (seM (sbit s) (8 * s.size) x.s0 kj))))))).setIfInBounds (j * 6 + 5) (.int .i64 (seV (sbit s) (8 * s.size) x.o2 (seM (sbit s) (8 * s.size) x.s2 (seM (sbit s) (8 * s.size) x.o1 (seM (sbit s) (8 * s.size) x.s1 (seM (sbit s) (8 * s.size) x.o0 (seM (sbit s) (8 * s.size) x.s0 kj))))))))) w' → RdW w base g gk s v (itM (wtM (sbit s) (8 * s.size)) (L.take (j + 1)) k2) B t (cs.setIfInBounds i (.slice (some ⟨w.heap.size, 0, none⟩) N N)) w' ∧ ∃ cj, Bk w' w.heap.size 116 cj ∧ RowIn cj 6 wtF (itR (wtM (sbit s) (8 * s.size)) (wtV (sbit s) (8 * s.size)) L k2 (j + 1))) := Lib.hid (by
          rintro w' ⟨v4, r1, r2⟩
          refine ⟨⟨⟨v4, by rw [hnx]; exact q.trans r1 (fun y hy e => by omega)⟩, qb.touch r1.touch ?_⟩, _, r2, ?_⟩
          · rintro (e | e | e)
            · exact hnB e
            · exact HP.out.2.1 e
            · omega
          · rw [hrx]
            exact HRO.out.setWt j hRl (wtV (sbit s) (8 * s.size) x kj))
        clear hnx hrx hRl hRj hrow hkj hkr HRO hr0 hr1 hr2 hr3 hr4 hr5 q qb hnw hnB hwl hx HBK
        go_wp2_with fail
        clear c2
        refine wp_loop_rounds 4 ?_
        rw [rounds_succ]
        have c2 := ((HF.out.keep HC2.out.1 HW.out.2.2.2.1 HW.out.2.2.2.2.1 HW.out.2.2.2.2.2).cell i).trans HC2.out.2
        go_wp2_with fail
        clear c2
        refine (HF.out.se HS.out x.s0 (j * 6 + 0) (by omega) (HE0.out undef undef undef undef undef) HW.out.1 HW.out.2.1 HW.out.2.2.1).mono ?_
        rintro e w1 ⟨rfl, hq⟩
        replace HF := Lib.hid hq
        clear hq
        have c2 := ((HF.out.keep HC2.out.1 HW.out.2.2.2.1 HW.out.2.2.2.2.1 HW.out.2.2.2.2.2).cell i).trans HC2.out.2
        go_wp2_with fail
        clear c2
        refine (HF.out.se HS.out x.o0 (j * 6 + 3) (by omega) (HE1.out (.int .i64 (seV (sbit s) (8 * s.size) x.s0 kj)) undef undef undef undef) HW.out.1 HW.out.2.1 HW.out.2.2.1).mono ?_
        rintro e w2 ⟨rfl, hq⟩
        replace HF := Lib.hid hq
        clear hq
        go_wp2_with fail
        rw [rounds_succ]
        have c2 := ((HF.out.keep HC2.out.1 HW.out.2.2.2.1 HW.out.2.2.2.2.1 HW.out.2.2.2.2.2).cell i).trans HC2.out.2
        go_wp2_with fail
        clear c2
        refine (HF.out.se HS.out x.s1 (j * 6 + 1) (by omega) (HE2.out (.int .i64 (seV (sbit s) (8 * s.size) x.s0 kj)) (.int .i64 (seV (sbit s) (8 * s.size) x.o0 (seM (sbit s) (8 * s.size) x.s0 kj))) undef undef undef) HW.out.1 HW.out.2.1 HW.out.2.2.1).mono ?_
        rintro e w3 ⟨rfl, hq⟩
        replace HF := Lib.hid hq
        clear hq
        have c2 := ((HF.out.keep HC2.out.1 HW.out.2.2.2.1 HW.out.2.2.2.2.1 HW.out.2.2.2.2.2).cell i).trans HC2.out.2
        go_wp2_with fail
        clear c2
        refine (HF.out.se HS.out x.o1 (j * 6 + 4) (by omega) (HE3.out (.int .i64 (seV (sbit s) (8 * s.size) x.s0 kj)) (.int .i64 (seV (sbit s) (8 * s.size) x.o0 (seM (sbit s) (8 * s.size) x.s0 kj))) (.int .i64 (seV (sbit s) (8 * s.size) x.s1 (seM (sbit s) (8 * s.size) x.o0 (seM (sbit s) (8 * s.size) x.s0 kj)))) undef undef) HW.out.1 HW.out.2.1 HW.out.2.2.1).mono ?_
        rintro e w4 ⟨rfl, hq⟩
        replace HF := Lib.hid hq
        clear hq
        go_wp2_with fail
        rw [rounds_succ]
        have c2 := ((HF.out.keep HC2.out.1 HW.out.2.2.2.1 HW.out.2.2.2.2.1 HW.out.2.2.2.2.2).cell i).trans HC2.out.2
        go_wp2_with fail
        clear c2
        refine (HF.out.se HS.out x.s2 (j * 6 + 2) (by omega) (HE4.out (.int .i64 (seV (sbit s) (8 * s.size) x.s0 kj)) (.int .i64 (seV (sbit s) (8 * s.size) x.o0 (seM (sbit s) (8 * s.size) x.s0 kj))) (.int .i64 (seV (sbit s) (8 * s.size) x.s1 (seM (sbit s) (8 * s.size) x.o0 (seM (sbit s) (8 * s.size) x.s0 kj)))) (.int .i64 (seV (sbit s) (8 * s.size) x.o1 (seM (sbit s) (8 * s.size) x.s1 (seM (sbit s) (8 * s.size) x.o0 (seM (sbit s) (8 * s.size) x.s0 kj))))) undef) HW.out.1 HW.out.2.1 HW.out.2.2.1).mono ?_
        rintro e w5 ⟨rfl, hq⟩
        replace HF := Lib.hid hq
        clear hq
        have c2 := ((HF.out.keep HC2.out.1 HW.out.2.2.2.1 HW.out.2.2.2.2.1 HW.out.2.2.2.2.2).cell i).trans HC2.out.2
        go_wp2_with fail
        clear c2
        refine (HF.out.se HS.out x.o2 (j * 6 + 5) (by omega) (HE5.out (.int .i64 (seV (sbit s) (8 * s.size) x.s0 kj)) (.int .i64 (seV (sbit s) (8 * s.size) x.o0 (seM (sbit s) (8 * s.size) x.s0 kj))) (.int .i64 (seV (sbit s) (8 * s.size) x.s1 (seM (sbit s) (8 * s.size) x.o0 (seM (sbit s) (8 * s.size) x.s0 kj)))) (.int .i64 (seV (sbit s) (8 * s.size) x.o1 (seM (sbit s) (8 * s.size) x.s1 (seM (sbit s) (8 * s.size) x.o0 (seM (sbit s) (8 * s.size) x.s0 kj))))) (.int .i64 (seV (sbit s) (8 * s.size) x.s2 (seM (sbit s) (8 * s.size) x.o1 (seM (sbit s) (8 * s.size) x.s1 (seM (sbit s) (8 * s.size) x.o0 (seM (sbit s) (8 * s.size) x.s0 kj))))))) HW.out.1 HW.out.2.1 HW.out.2.2.1).mono ?_
        rintro e w6 ⟨rfl, hq⟩
        replace HF := Lib.hid hq
        clear hq
        go_wp2_with fail
        rw [rounds_succ]
        go_wp2_with fail
        go_roundw
        case rel =>
          obtain ⟨h1, h2⟩ := HFIN.out _ HF.out
          exact ⟨j + 1, by omega, by go_num, h1, h2⟩
        case measure => simp [intOf]; omega
      · obtain rfl : j = N := by omega
        go_wp2_with fail
        go_end0
        have HF1 := HF.out
        have HR1 := HRO.out
        obtain rfl : L.length = j := hLl
        rw [List.take_length] at HF1
        rw [itR_all] at HR1
        refine ⟨rfl, some ⟨w.heap.size, 0, none⟩, L.length, ?_, .inr ⟨w.heap.size, cj, rfl, by omega, HBK.out, HR1⟩⟩
        rw [itV_len]
        obtain ⟨v', q⟩ := HF1.st
        exact ⟨v', q, HF1.kb⟩
  · simp only [if_neg hp]
    obtain rfl : m = 0 := by omega
    go_enter Tryz.func104, Tryz.ntmps104
    go_wp2_with fail
    clear c0 c1 f1
    go_loopw [25] (fun t wr => t = .int .i64 0 ∧ w = wr) (fun t _ => 0)
    case atStart => exact ⟨rfl, rfl⟩
    case round =>
      obtain ⟨rfl, rfl⟩ := hrel
      go_wp2_with fail
      go_end0
      refine ⟨rfl, none, 0, ?_, .inl ⟨rfl, rfl⟩⟩
      obtain ⟨v', q⟩ := HF.out.st
      show Fld w base g gk s v k2 B t (cs.setIfInBounds i (.slice none 0 0)) _
      rw [set_same HCS.out]
      exact ⟨v', q, HF.out.kb⟩
end
end Go.Proofs.YtjokibagciehlaaGreat

namespace Go.Proofs.YtjokibagciehlaaGreat
open Go.RowKit
set_option linter.unusedVariables false
set_option linter.unusedSimpArgs false

/-- a header's rows -/
structure Lst where
  m0 : List Md
  m1 : List Md
  w0 : List Wt
  w1 : List Wt
  ops : List Mo
def Hd.ls (h : Hd) : Lst := ⟨h.m0, h.m1, h.w0, h.w1, h.ops⟩
/-- in writing: rows of any memory, apart from what turns -/
structure RwsW (z0 : World) (g gk gh : Nat) (v : Value) (l : Lst) (q : Ha) : Prop where
  m0 : RwAt z0 z0.heap.size q.m0 2 mdF l.m0
  m1 : RwAt z0 z0.heap.size q.m1 2 mdF l.m1
  w0 : RwAt z0 z0.heap.size q.w0 6 wtF l.w0
  w1 : RwAt z0 z0.heap.size q.w1 6 wtF l.w1
  ops : RwAt z0 z0.heap.size q.ops 3 moF l.ops
  away : ∀ A, A = q.m0 ∨ A = q.m1 ∨ A = q.w0 ∨ A = q.w1 ∨ A = q.ops → ∀ ad, A = some ad → ¬ WS g v ad.block ∧ ad.block ≠ gk ∧ ad.block ≠ gh ∧ ad.block < z0.heap.size
  len : l.m0.length ≤ 16 ∧ l.m1.length ≤ 16 ∧ l.w0.length ≤ 16 ∧ l.w1.length ≤ 16 ∧ l.ops.length ≤ 16
/-- in reading: rows that the call made; those that are yet to come are none -/
structure RwsR (z0 w : World) (l : Lst) (q : Ha) (n : Nat) : Prop where
  m0 : RowNew z0 w 113 q.m0 2 mdF l.m0
  m1 : RowNew z0 w 113 q.m1 2 mdF l.m1
  w0 : RowNew z0 w 116 q.w0 6 wtF l.w0
  w1 : RowNew z0 w 116 q.w1 6 wtF l.w1
  ops : RowNew z0 w 118 q.ops 3 moF l.ops
  f0 : n ≤ 0 → l.m0 = [] ∧ q.m0 = none ∧ q.cm0 = 0
  f1 : n ≤ 1 → l.m1 = [] ∧ q.m1 = none ∧ q.cm1 = 0
  f2 : n ≤ 2 → l.w0 = [] ∧ q.w0 = none ∧ q.cw0 = 0
  f3 : n ≤ 3 → l.w1 = [] ∧ q.w1 = none ∧ q.cw1 = 0
  f4 : n ≤ 4 → l.ops = [] ∧ q.ops = none ∧ q.cops = 0
  len : l.m0.length ≤ 2147483647 ∧ l.m1.length ≤ 2147483647 ∧ l.w0.length ≤ 2147483647 ∧ l.w1.length ≤ 2147483647 ∧ l.ops.length ≤ 2147483647
def Rws (W : Bool) (w0 w : World) (g gk gh : Nat) (v : Value) (l : Lst) (q : Ha) (n : Nat) : Prop := if W = true then RwsW w0 g gk gh v l q else RwsR w0 w l q n
/-- boxes that stay -/
def Kp (X : List (Nat × TypeId × Array Value)) (w : World) (g gk gh : Nat) (v : Value) : Prop := ∀ x ∈ X, Bk w x.1 x.2.1 x.2.2 ∧ ¬ WS g v x.1 ∧ x.1 ≠ gk ∧ x.1 ≠ gh
theorem Kp.step {X : List (Nat × TypeId × Array Value)} {w w' : World} {base g gk gh : Nat} {s : ByteArray} {v v' : Value} {k : Wk} (K : Kp X w g gk gh v) (r : WkTo (fun i => i = gh) w base g gk s v k w' v') : Kp X w' g gk gh v' := fun x hx => by
  obtain ⟨h1, h2, h3, h4⟩ := K x hx
  exact ⟨h1.touch r.touch (by rintro (e | e | e); exact h2 e; exact h3 e; exact h4 e), r.ws h1.lt h2, h3, h4⟩
/-- a walk and the header under it, since w0 -/
structure HwAt (W : Bool) (w0 w : World) (base g gk gh : Nat) (s : ByteArray) (v : Value) (X : List (Nat × TypeId × Array Value)) (t : Hw) (q : Ha) (n M : Nat) : Prop where
  fld : ∃ v1, WkTo (fun i => i = gh) w0 base g gk s v t.k w v1 ∧ Bk w gh 26 (hdV t.h q) ∧ Kp X w g gk gh v1
  mode : t.k.isW = W
  rows : Rws W w0 w g gk gh v t.h.ls q n
  len : t.k.len ≤ M
  lt : g < w0.heap.size ∧ gk < w0.heap.size ∧ gh < w0.heap.size
  gh : ¬ WS g v gh ∧ gh ≠ gk
  vt : W = false → v.ownBlock = none
theorem RowNew.keep {α : Type} {w0 w w' : World} {T : TypeId} {A : Option Addr} {C : Nat} {f : α → Nat → Value} {l : List α} (h : RowNew w0 w T A C f l) (hk : ∀ B cs, w0.heap.size ≤ B → Bk w B T cs → Bk w' B T cs) : RowNew w0 w' T A C f l := by
  rcases h with h | ⟨Br, cs, e, h1, h2, h3⟩
  · exact .inl h
  · exact .inr ⟨Br, cs, e, h1, hk Br cs h1 h2, h3⟩
theorem RwsR.keep {w0 w w' : World} {l : Lst} {q : Ha} {n : Nat} (h : RwsR w0 w l q n) (hk : ∀ B T cs, w0.heap.size ≤ B → Bk w B T cs → Bk w' B T cs) : RwsR w0 w' l q n :=
  ⟨h.m0.keep (fun B cs => hk B _ cs), h.m1.keep (fun B cs => hk B _ cs), h.w0.keep (fun B cs => hk B _ cs), h.w1.keep (fun B cs => hk B _ cs), h.ops.keep (fun B cs => hk B _ cs), h.f0, h.f1, h.f2, h.f3, h.f4, h.len⟩
theorem RwsR.more {w0 w : World} {l : Lst} {q : Ha} {n n' : Nat} (h : RwsR w0 w l q n) (hn : n ≤ n') : RwsR w0 w l q n' :=
  ⟨h.m0, h.m1, h.w0, h.w1, h.ops, fun e => h.f0 (by omega), fun e => h.f1 (by omega), fun e => h.f2 (by omega), fun e => h.f3 (by omega), fun e => h.f4 (by omega), h.len⟩
theorem Rws.more {W : Bool} {w0 w : World} {g gk gh : Nat} {v : Value} {l : Lst} {q : Ha} {n n' : Nat} (h : Rws W w0 w g gk gh v l q n) (hn : n ≤ n') : Rws W w0 w g gk gh v l q n' := by
  unfold Rws at h ⊢
  cases W
  · exact h.more hn
  · exact h
section
variable {W : Bool} {w0 w w' : World} {base g gk gh : Nat} {s : ByteArray} {v : Value} {X : List (Nat × TypeId × Array Value)} {t : Hw} {q : Ha} {n M : Nat}
theorem HwAt.more (H : HwAt W w0 w base g gk gh s v X t q n M) {n' M' : Nat} (hn : n ≤ n') (hM : M ≤ M') : HwAt W w0 w base g gk gh s v X t q n' M' := ⟨H.fld, H.mode, H.rows.more hn, Nat.le_trans H.len hM, H.lt, H.gh, H.vt⟩
/-- what a step since w leaves of the rows -/
theorem Rws.step {l : Lst} (h : Rws W w0 w g gk gh v l q n) {v1 v2 : Value} {k1 k2 : Wk} (a1 : WkAt w base g gk s v1 k1) (r : WkTo (fun i => i = gh) w base g gk s v1 k2 w' v2) (hm : k1.isW = W) (lt : g < w0.heap.size ∧ gk < w0.heap.size ∧ gh < w0.heap.size) : Rws W w0 w' g gk gh v l q n := by
  unfold Rws at h ⊢
  cases W
  · refine RwsR.keep h fun B T cs hB hb => hb.touch r.touch ?_
    cases k1 with
    | wr b => cases hm
    | rd a bad many =>
      rintro (e | e | e)
      · exact a1.nws (by omega) e
      · omega
      · omega
  · exact h
theorem HwAt.of_fld (H : HwAt W w0 w base g gk gh s v X t q n M) {fn : FuncId} {args : Array Value} {k' : Wk} {h' : Hd} {M' : Nat} (hl : h'.ls = t.h.ls) (hk : k'.isW = W) (hlen : k'.len ≤ M')
    (f : ∀ v1, WkAt w base g gk s v1 t.k → Bk w gh 26 (hdV t.h q) → ¬ WS g v1 gh → Calls Tryz.prog fn args w fun e w' => e = .returned (.tuple #[]) ∧ Fld w base g gk s v1 k' gh 26 (hdV h' q) w') :
    Calls Tryz.prog fn args w fun e w' => e = .returned (.tuple #[]) ∧ HwAt W w0 w' base g gk gh s v X ⟨k', h'⟩ q n M' := by
  obtain ⟨v1, q1, q2, q3⟩ := H.fld
  refine (f v1 q1.at_ q2 (q1.ws H.lt.2.2 H.gh.1)).mono ?_
  rintro e w' ⟨he, v2, r1, r2⟩
  exact ⟨he, ⟨v2, q1.trans r1 (fun _ _ e => e), r2, q3.step r1⟩, hk, by show Rws W w0 w' g gk gh v h'.ls q n; rw [hl]; exact H.rows.step q1.at_ r1 H.mode H.lt, hlen, H.lt, H.gh, H.vt⟩
theorem HwAt.cell (H : HwAt W w0 w base g gk gh s v X t q n M) (i : Nat) : w.cell? ⟨gh, i, none⟩ = (hdV t.h q)[i]? := by
  obtain ⟨v1, q1, q2, q3⟩ := H.fld
  exact q2.cell i
theorem HwAt.go (H : HwAt W w0 w base g gk gh s v X t q n M) (hb : Below w.heap.size w w') : HwAt W w0 w' base g gk gh s v X t q n M := by
  obtain ⟨v1, q1, q2, q3⟩ := H.fld
  have ht : Touch (fun _ => False) w w' := Touch.of_new hb
  refine ⟨⟨v1, ⟨q1.at_.go hb, q1.new, q1.touch.trans (Touch.of_new hb)⟩, q2.go hb, fun x hx => ⟨(q3 x hx).1.go hb, (q3 x hx).2⟩⟩, H.mode, ?_, H.len, H.lt, H.gh, H.vt⟩
  have hr := H.rows
  unfold Rws at hr ⊢
  cases W
  · exact RwsR.keep hr fun B T cs _ hb' => hb'.go hb
  · exact hr
theorem HwAt.push (H : HwAt W w0 w base g gk gh s v X t q n M) (T : TypeId) (cs : Array Value) : HwAt W w0 (w.alloc (.cells cs T)) base g gk gh s v ((w.heap.size, T, cs) :: X) t q n M := by
  have h := H.go ((Below.refl _ _).alloc (Nat.le_refl _) (.cells cs T))
  obtain ⟨v1, q1, q2, q3⟩ := h.fld
  obtain ⟨v1', q1', q2', q3'⟩ := H.fld
  have hgk := q1'.at_.bk.lt
  have hgh := q2'.lt
  have h2 := H.go ((Below.refl _ _).alloc (Nat.le_refl _) (.cells cs T))
  refine ⟨⟨v1', ⟨q1'.at_.go ((Below.refl _ _).alloc (Nat.le_refl _) _), q1'.new, q1'.touch.alloc _⟩, q2'.alloc _, fun x hx => ?_⟩, h.mode, h.rows, h.len, h.lt, h.gh, h.vt⟩
  rcases List.mem_cons.1 hx with rfl | hx
  · exact ⟨Bk.new w T cs, q1'.at_.past (Nat.le_refl _), by show w.heap.size ≠ gk; omega, by show w.heap.size ≠ gh; omega⟩
  · exact ⟨(q3' x hx).1.alloc _, (q3' x hx).2⟩
theorem HwAt.pop {x : Nat × TypeId × Array Value} (H : HwAt W w0 w base g gk gh s v (x :: X) t q n M) : HwAt W w0 w base g gk gh s v X t q n M := by
  obtain ⟨v1, q1, q2, q3⟩ := H.fld
  exact ⟨⟨v1, q1, q2, fun x hx => q3 x (List.mem_cons_of_mem _ hx)⟩, H.mode, H.rows, H.len, H.lt, H.gh, H.vt⟩
theorem HwAt.box {x : Nat × TypeId × Array Value} (H : HwAt W w0 w base g gk gh s v X t q n M) (hx : x ∈ X) : Bk w x.1 x.2.1 x.2.2 := by
  obtain ⟨v1, q1, q2, q3⟩ := H.fld
  exact (q3 x hx).1
theorem HwAt.hb (H : HwAt W w0 w base g gk gh s v X t q n M) : Bk w gh 26 (hdV t.h q) := by
  obtain ⟨v1, q1, q2, q3⟩ := H.fld
  exact q2
theorem HwAt.eqv (H : HwAt W w0 w base g gk gh s v X t q n M) {t' : Hw} (e : t = t') : HwAt W w0 w base g gk gh s v X t' q n M := e ▸ H
theorem isW_eq {k k' : Wk} (h : k'.isW = k.isW) (hm : k.isW = W) : k'.isW = W := h.trans hm
theorem isW_se (f : Nat → Bool) (N : Nat) (x : Int) (k : Wk) : (seM f N x k).isW = k.isW := by
  cases k with
  | wr b => rfl
  | rd a bad many => show (gotM a bad many _).isW = false; unfold gotM; split <;> rfl
theorem isW_fx (f : Nat → Bool) (N : Nat) (m x : Int) (k : Wk) : (fxM f N m x k).isW = k.isW := by
  cases k with
  | wr b => rfl
  | rd a bad many => show (gotM a bad many _).isW = false; unfold gotM; split <;> rfl
theorem isW_ck (b : Bool) (k : Wk) : (ckM b k).isW = k.isW := by cases k <;> rfl

theorem HwAt.ue (H : HwAt W w0 w base g gk gh s v X t q n M) (hs : s.size ≤ 140737488351232) (x : Int) (i : Nat) (h' : Hd) (hM : M ≤ 900000) (hx : (hdV t.h q)[i]? = some (.int .i64 x)) (hl : h'.ls = t.h.ls) (he : (hdV t.h q).setIfInBounds i (.int .i64 (ueV (sbit s) (8 * s.size) x t.k)) = hdV h' q) :
    Calls Tryz.prog 69 #[.pointer (some ⟨gk, 0, none⟩), .pointer (some ⟨gh, i, none⟩)] w fun e w' => e = .returned (.tuple #[]) ∧ HwAt W w0 w' base g gk gh s v X ⟨ueM (sbit s) (8 * s.size) x t.k, h'⟩ q n (M + 64) := by
  refine H.of_fld hl (isW_eq (isW_ue _ _ _ _) H.mode) (by have h1 := H.len; have h2 : (ueM (sbit s) (8 * s.size) x t.k).len ≤ _ := ueM_len _ _ _ _; omega) fun v1 a1 b1 n1 => ?_
  exact he ▸ ue_k x a1 hs (by have := H.len; omega) b1 hx n1 H.gh.2
theorem HwAt.se (H : HwAt W w0 w base g gk gh s v X t q n M) (hs : s.size ≤ 140737488351232) (x : Int) (i : Nat) (h' : Hd) (hM : M ≤ 900000) (hx : (hdV t.h q)[i]? = some (.int .i64 x)) (hl : h'.ls = t.h.ls) (he : (hdV t.h q).setIfInBounds i (.int .i64 (seV (sbit s) (8 * s.size) x t.k)) = hdV h' q) :
    Calls Tryz.prog 77 #[.pointer (some ⟨gk, 0, none⟩), .pointer (some ⟨gh, i, none⟩)] w fun e w' => e = .returned (.tuple #[]) ∧ HwAt W w0 w' base g gk gh s v X ⟨seM (sbit s) (8 * s.size) x t.k, h'⟩ q n (M + 64) := by
  refine H.of_fld hl (isW_eq (isW_se _ _ _ _) H.mode) (by have h1 := H.len; have h2 : (seM (sbit s) (8 * s.size) x t.k).len ≤ _ := seM_len _ _ _ _; omega) fun v1 a1 b1 n1 => ?_
  exact he ▸ se_k x a1 hs (by have := H.len; omega) b1 hx n1 H.gh.2
theorem HwAt.fixed (H : HwAt W w0 w base g gk gh s v X t q n M) (hs : s.size ≤ 140737488351232) (m x : Int) (i : Nat) (h' : Hd) (hM : M ≤ 900000) (hx : (hdV t.h q)[i]? = some (.int .i64 x)) (hl : h'.ls = t.h.ls) (he : (hdV t.h q).setIfInBounds i (.int .i64 (fxV (sbit s) (8 * s.size) m x t.k)) = hdV h' q) :
    Calls Tryz.prog 72 #[.pointer (some ⟨gk, 0, none⟩), .pointer (some ⟨gh, i, none⟩), .int .i64 m] w fun e w' => e = .returned (.tuple #[]) ∧ HwAt W w0 w' base g gk gh s v X ⟨fxM (sbit s) (8 * s.size) m x t.k, h'⟩ q n (M + 64) := by
  refine H.of_fld hl (isW_eq (isW_fx _ _ _ _ _) H.mode) (by have h1 := H.len; have h2 : (fxM (sbit s) (8 * s.size) m x t.k).len ≤ _ := fxM_len _ _ _ _ _; omega) fun v1 a1 b1 n1 => ?_
  exact he ▸ fixed_k m x a1 hs (by have := H.len; omega) b1 hx n1 H.gh.2
theorem HwAt.flag (H : HwAt W w0 w base g gk gh s v X t q n M) (hs : s.size ≤ 140737488351232) (x : Bool) (i : Nat) (h' : Hd) (hM : M ≤ 900000) (hx : (hdV t.h q)[i]? = some (.bool x)) (hl : h'.ls = t.h.ls) (he : (hdV t.h q).setIfInBounds i (.bool (flV (sbit s) (8 * s.size) x t.k)) = hdV h' q) :
    Calls Tryz.prog 74 #[.pointer (some ⟨gk, 0, none⟩), .pointer (some ⟨gh, i, none⟩)] w fun e w' => e = .returned (.tuple #[]) ∧ HwAt W w0 w' base g gk gh s v X ⟨flM (sbit s) (8 * s.size) x t.k, h'⟩ q n (M + 64) := by
  refine H.of_fld hl (isW_eq (isW_fx _ _ _ _ _) H.mode) (by have h1 := H.len; have h2 : (flM (sbit s) (8 * s.size) x t.k).len ≤ _ := fxM_len _ _ _ _ _; omega) fun v1 a1 b1 n1 => ?_
  exact he ▸ flag_k x a1 hs (by have := H.len; omega) b1 hx n1 H.gh.2
theorem HwAt.less (H : HwAt W w0 w base g gk gh s v X t q n M) (hs : s.size ≤ 140737488351232) (x : Int) (i : Nat) (h' : Hd) (hM : M ≤ 900000) (x0 : -4611686018427387904 ≤ x) (x1 : x ≤ 4611686018427387904) (hx : (hdV t.h q)[i]? = some (.int .i64 x)) (hl : h'.ls = t.h.ls) (he : (hdV t.h q).setIfInBounds i (.int .i64 (lsV (sbit s) (8 * s.size) x t.k)) = hdV h' q) :
    Calls Tryz.prog 70 #[.pointer (some ⟨gk, 0, none⟩), .pointer (some ⟨gh, i, none⟩)] w fun e w' => e = .returned (.tuple #[]) ∧ HwAt W w0 w' base g gk gh s v X ⟨lsM (sbit s) (8 * s.size) x t.k, h'⟩ q n (M + 64) := by
  refine H.of_fld hl (isW_eq (isW_ue _ _ _ _) H.mode) (by have h1 := H.len; have h2 : (lsM (sbit s) (8 * s.size) x t.k).len ≤ _ := ueM_len _ _ _ _; omega) fun v1 a1 b1 n1 => ?_
  exact he ▸ less_k x a1 hs (by have := H.len; omega) x0 x1 b1 hx n1 H.gh.2
theorem HwAt.check (H : HwAt W w0 w base g gk gh s v X t q n M) (fine : Bool) :
    Calls Tryz.prog 71 #[.pointer (some ⟨gk, 0, none⟩), .bool fine] w fun e w' => e = .returned (.tuple #[]) ∧ HwAt W w0 w' base g gk gh s v X ⟨ckM fine t.k, t.h⟩ q n M := by
  refine H.of_fld rfl (isW_eq (isW_ck _ _) H.mode) (by rw [ckM_len]; exact H.len) fun v1 a1 b1 n1 => ?_
  exact (Fld.refl a1 b1).check fine n1 H.gh.2 b1.lt
theorem HwAt.stop (H : HwAt W w0 w base g gk gh s v X t q n M) :
    Calls Tryz.prog 103 #[.pointer (some ⟨gk, 0, none⟩)] w fun e w' => e = .returned (.bool t.k.stop) ∧ w = w' := by
  obtain ⟨v1, q1, q2, q3⟩ := H.fld
  exact wstop_any q1.at_
theorem itV_wr {α : Type} (m : α → Wk → Wk) (u : α → Wk → α) (hm : ∀ x b, ∃ b', m x (.wr b) = .wr b') (hu : ∀ x b, u x (.wr b) = x) : ∀ (l : List α) (b : List Bool), itV m u l (.wr b) = l
  | [], b => rfl
  | y :: l, b => by
    obtain ⟨b1, h1⟩ := hm y b
    show u y (.wr b) :: itV m u l (m y (.wr b)) = _
    rw [hu, h1, itV_wr m u hm hu l b1]
theorem mdV_wr (f : Nat → Bool) (N : Nat) (x : Md) (b : List Bool) : mdV f N x (.wr b) = x := rfl
theorem wtV_wr (f : Nat → Bool) (N : Nat) (x : Wt) (b : List Bool) : wtV f N x (.wr b) = x := rfl
theorem moV_wr (f : Nat → Bool) (N : Nat) (x : Mo) (b : List Bool) : moV f N x (.wr b) = x := by
  obtain ⟨k, a, c⟩ := x
  unfold moV
  have h1 : moM1 f N ⟨k, a, c⟩ (.wr b) = .wr (ueW k b) := rfl
  have h2 : ∃ b2, moM2 f N ⟨k, a, c⟩ (.wr b) = .wr b2 := by
    unfold moM2
    by_cases h : hasA (ueV f N k (.wr b)) = true
    · rw [if_pos h, h1]; exact ⟨_, rfl⟩
    · rw [if_neg h, h1]; exact ⟨_, rfl⟩
  obtain ⟨b2, h2⟩ := h2
  rw [h1, h2]
  simp only [ueV]
  congr 1 <;> exact ite_self _
theorem rwV_wr {α : Type} (f : Nat → Bool) (N : Nat) (m : α → Wk → Wk) (u : α → Wk → α) (z : α) (hm : ∀ x b, ∃ b', m x (.wr b) = .wr b') (hu : ∀ x b, u x (.wr b) = x) (l : List α) (b : List Bool) : rwV f N m u z l (.wr b) = l := itV_wr m u hm hu l _
theorem rwM_wr {α : Type} (f : Nat → Bool) (N : Nat) (m : α → Wk → Wk) (z : α) (l : List α) (b : List Bool) : rwM f N m z l (.wr b) = itM m l (.wr (ueW l.length b)) := rfl
theorem itM_isW {α : Type} (m : α → Wk → Wk) (hm : ∀ x k, (m x k).isW = k.isW) : ∀ (l : List α) (k : Wk), (itM m l k).isW = k.isW
  | [], k => rfl
  | y :: l, k => (itM_isW m hm l (m y k)).trans (hm y k)
theorem isW_md (f : Nat → Bool) (N : Nat) (x : Md) (k : Wk) : (mdM f N x k).isW = k.isW := (isW_ue _ _ _ _).trans (isW_ue _ _ _ _)
theorem isW_mo (f : Nat → Bool) (N : Nat) (x : Mo) (k : Wk) : (moM f N x k).isW = k.isW := by
  have h1 : (moM1 f N x k).isW = k.isW := (isW_ck _ _).trans (isW_ue _ _ _ _)
  have h2 : (moM2 f N x k).isW = k.isW := by
    unfold moM2
    split
    · exact (isW_ue _ _ _ _).trans h1
    · exact h1
  unfold moM
  split
  · exact (isW_ue _ _ _ _).trans h2
  · exact h2
theorem isW_wt (f : Nat → Bool) (N : Nat) (x : Wt) (k : Wk) : (wtM f N x k).isW = k.isW := (isW_se _ _ _ _).trans ((isW_se _ _ _ _).trans ((isW_se _ _ _ _).trans ((isW_se _ _ _ _).trans ((isW_se _ _ _ _).trans (isW_se _ _ _ _)))))
theorem rwM_isW {α : Type} (f : Nat → Bool) (N : Nat) (m : α → Wk → Wk) (z : α) (hm : ∀ x k, (m x k).isW = k.isW) (l : List α) (k : Wk) : (rwM f N m z l k).isW = k.isW := by
  have h0 := isW_ue f N l.length k
  unfold rwM
  cases h : ueM f N (l.length : Int) k with
  | wr b => rw [h] at h0; exact (itM_isW m hm l _).trans h0
  | rd a bad many =>
    rw [h] at h0
    show (if _ then _ else _ : Wk).isW = _
    split
    · exact (isW_ck _ _).trans h0
    · exact (itM_isW m hm _ _).trans ((isW_ck _ _).trans h0)
theorem rwV_len_rd {α : Type} (f : Nat → Bool) (N : Nat) (m : α → Wk → Wk) (u : α → Wk → α) (z : α) (a : Nat) (bad many : Bool) (ha : a ≤ N) : (rwV f N m u z [] (.rd a bad many)).length ≤ 2147483647 := by
  obtain ⟨n, hn, n0, n1, n16⟩ := rw_parts f N a bad many ha
  obtain ⟨a', b', c', hu⟩ := ueM_rd f N 0 a bad many
  unfold rwV
  rw [show ((([] : List α).length : Nat) : Int) = 0 from rfl, hu]
  simp only
  split
  · simp
  · rw [itV_len, hn]
    split
    · rw [List.length_replicate]; omega
    · simp
theorem wsV_len_rd (f : Nat → Bool) (N : Nat) (m : Int) (a : Nat) (bad many : Bool) (h : m ≤ 2147483647) : (wsV f N [] m (.rd a bad many)).length ≤ 2147483647 := by
  unfold wsV
  rw [itV_len]
  unfold wtL
  split
  · rw [List.length_replicate]; omega
  · simp
theorem isW_len {k : Wk} (h : k.isW = false) : k.len = 0 := by
  cases k with
  | wr b => cases h
  | rd a b c => rfl
end

section
variable {W : Bool} {w0 w : World} {base g gk gh : Nat} {s : ByteArray} {v : Value} {X : List (Nat × TypeId × Array Value)} {t : Hw} {q : Ha} {M : Nat}
theorem HwAt.list_m0 (H : HwAt W w0 w base g gk gh s v X t q 0 M) (hs : s.size ≤ 140737488351232) (hM : M ≤ 700000) :
    Calls Tryz.prog 101 #[.pointer (some ⟨gk, 0, none⟩), .pointer (some ⟨gh, 9, none⟩), .int .i64 16, .func (.func 102) #[.pointer (some ⟨gk, 0, none⟩)] #[]] w fun e w' => e = .returned (.tuple #[]) ∧ ∃ q', HwAt W w0 w' base g gk gh s v X ⟨rwM (sbit s) (8 * s.size) (mdM (sbit s) (8 * s.size)) Md.zero t.h.m0 t.k, { t.h with m0 := rwV (sbit s) (8 * s.size) (mdM (sbit s) (8 * s.size)) (mdV (sbit s) (8 * s.size)) Md.zero t.h.m0 t.k }⟩ q' 1 (M + 4000) := by
  obtain ⟨k, h⟩ := t
  obtain ⟨v1, q1, q2, q3⟩ := H.fld
  have hmode := H.mode
  have hrows := H.rows
  have hlen := H.len
  have hghw : ¬ WS g v1 gh := q1.ws H.lt.2.2 H.gh.1
  simp only at q1 q2 hmode hrows hlen ⊢
  cases k with
  | wr b =>
    obtain rfl : W = true := hmode.symm
    have hR : RwsW w0 g gk gh v h.ls q := hrows
    have hcell : ∀ (p : Addr) (x : Value), w0.cell? p = some x → ∀ ad, q.m0 = some ad → p.block = ad.block → w.cell? p = some x := fun p x hx ad he hb => by
      obtain ⟨z1, z2, z3, z4⟩ := hR.away _ (.inl rfl) ad he
      exact q1.cell hx (hb ▸ z1) (hb ▸ z2) (hb ▸ z3)
    have hr : RwAt w w.heap.size q.m0 2 mdF h.m0 := fun hn => by
      obtain ⟨ad, e, hb, hc⟩ := hR.m0 hn
      refine ⟨ad, e, Nat.lt_of_lt_of_le hb q1.touch.size, fun i hi => ⟨hcell _ _ (hc i hi).1 ad e (by rw [block_add]), fun j h0 hj => hcell _ _ ((hc i hi).2 j h0 hj) ad e (by show (ad.add _).block = _; rw [block_add])⟩⟩
    have hl : b.length ≤ M := hlen
    refine (listMd_w h.m0 q.m0 q.cm0 ⟨gh, 9, none⟩ q1.at_ (by omega) hR.len.1 (q2.cell 9) hr hghw H.gh.2 (fun ad he => ?_)).mono ?_
    · obtain ⟨z1, z2, z3, z4⟩ := hR.away _ (.inl rfl) ad he
      exact ⟨q1.ws z4 z1, z2⟩
    rintro e w' ⟨he, v2, r1⟩
    refine ⟨he, q, ?_⟩
    have hv := rwV_wr (sbit s) (8 * s.size) (mdM (sbit s) (8 * s.size)) (mdV (sbit s) (8 * s.size)) Md.zero (mdM_wr _ _) (mdV_wr _ _) h.m0 b
    rw [hv]
    have hlw := ueW_le (h.m0.length : Int) b
    have h5 : (ueW (h.m0.length : Int) b).length ≤ M + 64 := by omega
    have hle : (rwM (sbit s) (8 * s.size) (mdM (sbit s) (8 * s.size)) Md.zero h.m0 (.wr b)).len ≤ M + 4000 := by
      rw [rwM_wr]
      have h1 := itM_len_le (mdM (sbit s) (8 * s.size)) 192 (mdM_len _ _) h.m0 (.wr (ueW h.m0.length b))
      have h2 : (Wk.wr (ueW (h.m0.length : Int) b)).len = (ueW (h.m0.length : Int) b).length := rfl
      have h3 : h.m0.length ≤ 16 := hR.len.1
      omega
    have hiw : (rwM (sbit s) (8 * s.size) (mdM (sbit s) (8 * s.size)) Md.zero h.m0 (.wr b)).isW = true := rwM_isW _ _ _ _ (isW_md _ _) _ _
    exact ⟨⟨v2, q1.trans r1 (fun _ _ e => e.elim), q2.touch r1.touch (by rintro (e | e | e); exact hghw e; exact H.gh.2 e; exact e), q3.step (r1.mono (fun _ _ e => e.elim))⟩, hiw, hR, hle, H.lt, H.gh, H.vt⟩
  | rd a bad many =>
    obtain rfl : W = false := hmode.symm
    have hR0 : RwsR w0 w h.ls q 0 := hrows
    obtain ⟨e1, e2, e3⟩ := hR0.f0 (Nat.le_refl _)
    have e1' : h.m0 = [] := e1
    have hc : (hdV h q)[9]? = some (.slice none 0 0) := by
      show some (Value.slice q.m0 (h.m0).length q.cm0) = _
      rw [e1', e2, e3]
      rfl
    refine (listMd_r q1.at_ hs q2 hc hghw H.gh.2).mono ?_
    rintro e w' ⟨he, A, c, ⟨v2, r1, r2⟩, hnew0⟩
    refine ⟨he, { q with m0 := A, cm0 := c }, ?_⟩
    rw [e1']
    have hR := RwsR.keep (w' := w') hR0 (fun B T cs hB hb => hb.touch r1.touch (by
      have := H.lt
      rintro (e | e | e)
      · exact q1.at_.nws (by omega) e
      · omega
      · omega))
    have hnew : RowNew w0 w' 113 A 2 mdF (rwV (sbit s) (8 * s.size) (mdM (sbit s) (8 * s.size)) (mdV (sbit s) (8 * s.size)) Md.zero [] (.rd a bad many)) := by
      rcases hnew0 with hnew0 | ⟨Br, cs, z1, z2, z3⟩
      · exact .inl hnew0
      · exact .inr ⟨Br, cs, z1, Nat.le_trans q1.touch.size z2, z3⟩
    have hiw : (rwM (sbit s) (8 * s.size) (mdM (sbit s) (8 * s.size)) Md.zero [] (.rd a bad many)).isW = false := rwM_isW _ _ _ _ (isW_md _ _) _ _
    refine ⟨⟨v2, q1.trans r1 (fun _ _ e => e), r2, q3.step r1⟩, hiw, ?_, by rw [isW_len hiw]; omega, H.lt, H.gh, H.vt⟩
    have hlenN := rwV_len_rd (sbit s) (8 * s.size) (mdM (sbit s) (8 * s.size)) (mdV (sbit s) (8 * s.size)) Md.zero a bad many q1.at_.io.2.2
    show RwsR w0 w' _ _ 1
    exact ⟨hnew, hR.m1, hR.w0, hR.w1, hR.ops, fun e => absurd e (by omega), fun e => hR.f1 (by omega), fun e => hR.f2 (by omega), fun e => hR.f3 (by omega), fun e => hR.f4 (by omega), ⟨hlenN, hR.len.2.1, hR.len.2.2.1, hR.len.2.2.2.1, hR.len.2.2.2.2⟩⟩
end
section
variable {W : Bool} {w0 w : World} {base g gk gh : Nat} {s : ByteArray} {v : Value} {X : List (Nat × TypeId × Array Value)} {t : Hw} {q : Ha} {M : Nat}
theorem HwAt.list_m1 (H : HwAt W w0 w base g gk gh s v X t q 1 M) (hs : s.size ≤ 140737488351232) (hM : M ≤ 700000) :
    Calls Tryz.prog 101 #[.pointer (some ⟨gk, 0, none⟩), .pointer (some ⟨gh, 10, none⟩), .int .i64 16, .func (.func 102) #[.pointer (some ⟨gk, 0, none⟩)] #[]] w fun e w' => e = .returned (.tuple #[]) ∧ ∃ q', HwAt W w0 w' base g gk gh s v X ⟨rwM (sbit s) (8 * s.size) (mdM (sbit s) (8 * s.size)) Md.zero t.h.m1 t.k, { t.h with m1 := rwV (sbit s) (8 * s.size) (mdM (sbit s) (8 * s.size)) (mdV (sbit s) (8 * s.size)) Md.zero t.h.m1 t.k }⟩ q' 2 (M + 4000) := by
  obtain ⟨k, h⟩ := t
  obtain ⟨v1, q1, q2, q3⟩ := H.fld
  have hmode := H.mode
  have hrows := H.rows
  have hlen := H.len
  have hghw : ¬ WS g v1 gh := q1.ws H.lt.2.2 H.gh.1
  simp only at q1 q2 hmode hrows hlen ⊢
  cases k with
  | wr b =>
    obtain rfl : W = true := hmode.symm
    have hR : RwsW w0 g gk gh v h.ls q := hrows
    have hcell : ∀ (p : Addr) (x : Value), w0.cell? p = some x → ∀ ad, q.m1 = some ad → p.block = ad.block → w.cell? p = some x := fun p x hx ad he hb => by
      obtain ⟨z1, z2, z3, z4⟩ := hR.away _ (.inr (.inl rfl)) ad he
      exact q1.cell hx (hb ▸ z1) (hb ▸ z2) (hb ▸ z3)
    have hr : RwAt w w.heap.size q.m1 2 mdF h.m1 := fun hn => by
      obtain ⟨ad, e, hb, hc⟩ := hR.m1 hn
      refine ⟨ad, e, Nat.lt_of_lt_of_le hb q1.touch.size, fun i hi => ⟨hcell _ _ (hc i hi).1 ad e (by rw [block_add]), fun j h0 hj => hcell _ _ ((hc i hi).2 j h0 hj) ad e (by show (ad.add _).block = _; rw [block_add])⟩⟩
    have hl : b.length ≤ M := hlen
    refine (listMd_w h.m1 q.m1 q.cm1 ⟨gh, 10, none⟩ q1.at_ (by omega) hR.len.2.1 (q2.cell 10) hr hghw H.gh.2 (fun ad he => ?_)).mono ?_
    · obtain ⟨z1, z2, z3, z4⟩ := hR.away _ (.inr (.inl rfl)) ad he
      exact ⟨q1.ws z4 z1, z2⟩
    rintro e w' ⟨he, v2, r1⟩
    refine ⟨he, q, ?_⟩
    have hv := rwV_wr (sbit s) (8 * s.size) (mdM (sbit s) (8 * s.size)) (mdV (sbit s) (8 * s.size)) Md.zero (mdM_wr _ _) (mdV_wr _ _) h.m1 b
    rw [hv]
    have hlw := ueW_le (h.m1.length : Int) b
    have h5 : (ueW (h.m1.length : Int) b).length ≤ M + 64 := by omega
    have hle : (rwM (sbit s) (8 * s.size) (mdM (sbit s) (8 * s.size)) Md.zero h.m1 (.wr b)).len ≤ M + 4000 := by
      rw [rwM_wr]
      have h1 := itM_len_le (mdM (sbit s) (8 * s.size)) 192 (mdM_len _ _) h.m1 (.wr (ueW h.m1.length b))
      have h2 : (Wk.wr (ueW (h.m1.length : Int) b)).len = (ueW (h.m1.length : Int) b).length := rfl
      have h3 : h.m1.length ≤ 16 := hR.len.2.1
      omega
    have hiw : (rwM (sbit s) (8 * s.size) (mdM (sbit s) (8 * s.size)) Md.zero h.m1 (.wr b)).isW = true := rwM_isW _ _ _ _ (isW_md _ _) _ _
    exact ⟨⟨v2, q1.trans r1 (fun _ _ e => e.elim), q2.touch r1.touch (by rintro (e | e | e); exact hghw e; exact H.gh.2 e; exact e), q3.step (r1.mono (fun _ _ e => e.elim))⟩, hiw, hR, hle, H.lt, H.gh, H.vt⟩
  | rd a bad many =>
    obtain rfl : W = false := hmode.symm
    have hR0 : RwsR w0 w h.ls q 1 := hrows
    obtain ⟨e1, e2, e3⟩ := hR0.f1 (Nat.le_refl _)
    have e1' : h.m1 = [] := e1
    have hc : (hdV h q)[10]? = some (.slice none 0 0) := by
      show some (Value.slice q.m1 (h.m1).length q.cm1) = _
      rw [e1', e2, e3]
      rfl
    refine (listMd_r q1.at_ hs q2 hc hghw H.gh.2).mono ?_
    rintro e w' ⟨he, A, c, ⟨v2, r1, r2⟩, hnew0⟩
    refine ⟨he, { q with m1 := A, cm1 := c }, ?_⟩
    rw [e1']
    have hR := RwsR.keep (w' := w') hR0 (fun B T cs hB hb => hb.touch r1.touch (by
      have := H.lt
      rintro (e | e | e)
      · exact q1.at_.nws (by omega) e
      · omega
      · omega))
    have hnew : RowNew w0 w' 113 A 2 mdF (rwV (sbit s) (8 * s.size) (mdM (sbit s) (8 * s.size)) (mdV (sbit s) (8 * s.size)) Md.zero [] (.rd a bad many)) := by
      rcases hnew0 with hnew0 | ⟨Br, cs, z1, z2, z3⟩
      · exact .inl hnew0
      · exact .inr ⟨Br, cs, z1, Nat.le_trans q1.touch.size z2, z3⟩
    have hiw : (rwM (sbit s) (8 * s.size) (mdM (sbit s) (8 * s.size)) Md.zero [] (.rd a bad many)).isW = false := rwM_isW _ _ _ _ (isW_md _ _) _ _
    refine ⟨⟨v2, q1.trans r1 (fun _ _ e => e), r2, q3.step r1⟩, hiw, ?_, by rw [isW_len hiw]; omega, H.lt, H.gh, H.vt⟩
    have hlenN := rwV_len_rd (sbit s) (8 * s.size) (mdM (sbit s) (8 * s.size)) (mdV (sbit s) (8 * s.size)) Md.zero a bad many q1.at_.io.2.2
    show RwsR w0 w' _ _ 2
    exact ⟨hR.m0, hnew, hR.w0, hR.w1, hR.ops, fun e => absurd e (by omega), fun e => absurd e (by omega), fun e => hR.f2 (by omega), fun e => hR.f3 (by omega), fun e => hR.f4 (by omega), ⟨hR.len.1, hlenN, hR.len.2.2.1, hR.len.2.2.2.1, hR.len.2.2.2.2⟩⟩
end
section
variable {W : Bool} {w0 w : World} {base g gk gh : Nat} {s : ByteArray} {v : Value} {X : List (Nat × TypeId × Array Value)} {t : Hw} {q : Ha} {M : Nat}
theorem HwAt.list_ops (H : HwAt W w0 w base g gk gh s v X t q 4 M) (hs : s.size ≤ 140737488351232) (hM : M ≤ 700000) :
    Calls Tryz.prog 75 #[.pointer (some ⟨gk, 0, none⟩), .pointer (some ⟨gh, 16, none⟩), .int .i64 16, .func (.func 76) #[.pointer (some ⟨gk, 0, none⟩)] #[]] w fun e w' => e = .returned (.tuple #[]) ∧ ∃ q', HwAt W w0 w' base g gk gh s v X ⟨rwM (sbit s) (8 * s.size) (moM (sbit s) (8 * s.size)) Mo.zero t.h.ops t.k, { t.h with ops := rwV (sbit s) (8 * s.size) (moM (sbit s) (8 * s.size)) (moV (sbit s) (8 * s.size)) Mo.zero t.h.ops t.k }⟩ q' 5 (M + 4000) := by
  obtain ⟨k, h⟩ := t
  obtain ⟨v1, q1, q2, q3⟩ := H.fld
  have hmode := H.mode
  have hrows := H.rows
  have hlen := H.len
  have hghw : ¬ WS g v1 gh := q1.ws H.lt.2.2 H.gh.1
  simp only at q1 q2 hmode hrows hlen ⊢
  cases k with
  | wr b =>
    obtain rfl : W = true := hmode.symm
    have hR : RwsW w0 g gk gh v h.ls q := hrows
    have hcell : ∀ (p : Addr) (x : Value), w0.cell? p = some x → ∀ ad, q.ops = some ad → p.block = ad.block → w.cell? p = some x := fun p x hx ad he hb => by
      obtain ⟨z1, z2, z3, z4⟩ := hR.away _ (.inr (.inr (.inr (.inr rfl)))) ad he
      exact q1.cell hx (hb ▸ z1) (hb ▸ z2) (hb ▸ z3)
    have hr : RwAt w w.heap.size q.ops 3 moF h.ops := fun hn => by
      obtain ⟨ad, e, hb, hc⟩ := hR.ops hn
      refine ⟨ad, e, Nat.lt_of_lt_of_le hb q1.touch.size, fun i hi => ⟨hcell _ _ (hc i hi).1 ad e (by rw [block_add]), fun j h0 hj => hcell _ _ ((hc i hi).2 j h0 hj) ad e (by show (ad.add _).block = _; rw [block_add])⟩⟩
    have hl : b.length ≤ M := hlen
    refine (listMo_w h.ops q.ops q.cops ⟨gh, 16, none⟩ q1.at_ (by omega) hR.len.2.2.2.2 (q2.cell 16) hr hghw H.gh.2 (fun ad he => ?_)).mono ?_
    · obtain ⟨z1, z2, z3, z4⟩ := hR.away _ (.inr (.inr (.inr (.inr rfl)))) ad he
      exact ⟨q1.ws z4 z1, z2⟩
    rintro e w' ⟨he, v2, r1⟩
    refine ⟨he, q, ?_⟩
    have hv := rwV_wr (sbit s) (8 * s.size) (moM (sbit s) (8 * s.size)) (moV (sbit s) (8 * s.size)) Mo.zero (moM_wr _ _) (moV_wr _ _) h.ops b
    rw [hv]
    have hlw := ueW_le (h.ops.length : Int) b
    have h5 : (ueW (h.ops.length : Int) b).length ≤ M + 64 := by omega
    have hle : (rwM (sbit s) (8 * s.size) (moM (sbit s) (8 * s.size)) Mo.zero h.ops (.wr b)).len ≤ M + 4000 := by
      rw [rwM_wr]
      have h1 := itM_len_le (moM (sbit s) (8 * s.size)) 192 (moM_len _ _) h.ops (.wr (ueW h.ops.length b))
      have h2 : (Wk.wr (ueW (h.ops.length : Int) b)).len = (ueW (h.ops.length : Int) b).length := rfl
      have h3 : h.ops.length ≤ 16 := hR.len.2.2.2.2
      omega
    have hiw : (rwM (sbit s) (8 * s.size) (moM (sbit s) (8 * s.size)) Mo.zero h.ops (.wr b)).isW = true := rwM_isW _ _ _ _ (isW_mo _ _) _ _
    exact ⟨⟨v2, q1.trans r1 (fun _ _ e => e.elim), q2.touch r1.touch (by rintro (e | e | e); exact hghw e; exact H.gh.2 e; exact e), q3.step (r1.mono (fun _ _ e => e.elim))⟩, hiw, hR, hle, H.lt, H.gh, H.vt⟩
  | rd a bad many =>
    obtain rfl : W = false := hmode.symm
    have hR0 : RwsR w0 w h.ls q 4 := hrows
    obtain ⟨e1, e2, e3⟩ := hR0.f4 (Nat.le_refl _)
    have e1' : h.ops = [] := e1
    have hc : (hdV h q)[16]? = some (.slice none 0 0) := by
      show some (Value.slice q.ops (h.ops).length q.cops) = _
      rw [e1', e2, e3]
      rfl
    refine (listMo_r q1.at_ hs q2 hc hghw H.gh.2).mono ?_
    rintro e w' ⟨he, A, c, ⟨v2, r1, r2⟩, hnew0⟩
    refine ⟨he, { q with ops := A, cops := c }, ?_⟩
    rw [e1']
    have hR := RwsR.keep (w' := w') hR0 (fun B T cs hB hb => hb.touch r1.touch (by
      have := H.lt
      rintro (e | e | e)
      · exact q1.at_.nws (by omega) e
      · omega
      · omega))
    have hnew : RowNew w0 w' 118 A 3 moF (rwV (sbit s) (8 * s.size) (moM (sbit s) (8 * s.size)) (moV (sbit s) (8 * s.size)) Mo.zero [] (.rd a bad many)) := by
      rcases hnew0 with hnew0 | ⟨Br, cs, z1, z2, z3⟩
      · exact .inl hnew0
      · exact .inr ⟨Br, cs, z1, Nat.le_trans q1.touch.size z2, z3⟩
    have hiw : (rwM (sbit s) (8 * s.size) (moM (sbit s) (8 * s.size)) Mo.zero [] (.rd a bad many)).isW = false := rwM_isW _ _ _ _ (isW_mo _ _) _ _
    refine ⟨⟨v2, q1.trans r1 (fun _ _ e => e), r2, q3.step r1⟩, hiw, ?_, by rw [isW_len hiw]; omega, H.lt, H.gh, H.vt⟩
    have hlenN := rwV_len_rd (sbit s) (8 * s.size) (moM (sbit s) (8 * s.size)) (moV (sbit s) (8 * s.size)) Mo.zero a bad many q1.at_.io.2.2
    show RwsR w0 w' _ _ 5
    exact ⟨hR.m0, hR.m1, hR.w0, hR.w1, hnew, fun e => absurd e (by omega), fun e => absurd e (by omega), fun e => absurd e (by omega), fun e => absurd e (by omega), fun e => absurd e (by omega), ⟨hR.len.1, hR.len.2.1, hR.len.2.2.1, hR.len.2.2.2.1, hlenN⟩⟩
end
section
variable {W : Bool} {w0 w : World} {base g gk gh : Nat} {s : ByteArray} {v : Value} {X : List (Nat × TypeId × Array Value)} {t : Hw} {q : Ha} {M : Nat}
theorem HwAt.weights_w0 (H : HwAt W w0 w base g gk gh s v X t q 2 M) (hs : s.size ≤ 140737488351232) (hM : M ≤ 700000) (m0 : 0 ≤ t.h.a0) (m1 : t.h.a0 ≤ 2147483647) :
    Calls Tryz.prog 104 #[.pointer (some ⟨gk, 0, none⟩), .pointer (some ⟨gh, 13, none⟩), .int .i64 t.h.a0] w fun e w' => e = .returned (.tuple #[]) ∧ ∃ q', HwAt W w0 w' base g gk gh s v X ⟨wsM (sbit s) (8 * s.size) t.h.w0 t.h.a0 t.k, { t.h with w0 := wsV (sbit s) (8 * s.size) t.h.w0 t.h.a0 t.k }⟩ q' 3 (M + 8000) := by
  obtain ⟨k, h⟩ := t
  obtain ⟨v1, q1, q2, q3⟩ := H.fld
  have hmode := H.mode
  have hrows := H.rows
  have hlen := H.len
  have hghw : ¬ WS g v1 gh := q1.ws H.lt.2.2 H.gh.1
  simp only at q1 q2 hmode hrows hlen m0 m1 ⊢
  cases k with
  | wr b =>
    obtain rfl : W = true := hmode.symm
    have hR : RwsW w0 g gk gh v h.ls q := hrows
    have hcell : ∀ (p : Addr) (x : Value), w0.cell? p = some x → ∀ ad, q.w0 = some ad → p.block = ad.block → w.cell? p = some x := fun p x hx ad he hb => by
      obtain ⟨z1, z2, z3, z4⟩ := hR.away _ (.inr (.inr (.inl rfl))) ad he
      exact q1.cell hx (hb ▸ z1) (hb ▸ z2) (hb ▸ z3)
    have hr : RwAt w w.heap.size q.w0 6 wtF h.w0 := fun hn => by
      obtain ⟨ad, e, hb, hc⟩ := hR.w0 hn
      refine ⟨ad, e, Nat.lt_of_lt_of_le hb q1.touch.size, fun i hi => ⟨hcell _ _ (hc i hi).1 ad e (by rw [block_add]), fun j h0 hj => hcell _ _ ((hc i hi).2 j h0 hj) ad e (by show (ad.add _).block = _; rw [block_add])⟩⟩
    have hl : b.length ≤ M := hlen
    refine (weights_w h.w0 q.w0 q.cw0 ⟨gh, 13, none⟩ h.a0 q1.at_ (by omega) hR.len.2.2.1 (q2.cell 13) hr hghw H.gh.2 (fun ad he => ?_)).mono ?_
    · obtain ⟨z1, z2, z3, z4⟩ := hR.away _ (.inr (.inr (.inl rfl))) ad he
      exact ⟨q1.ws z4 z1, z2⟩
    rintro e w' ⟨he, v2, r1⟩
    refine ⟨he, q, ?_⟩
    have hv : wsV (sbit s) (8 * s.size) h.w0 h.a0 (.wr b) = h.w0 := itV_wr _ _ (wtM_wr _ _) (wtV_wr _ _) h.w0 b
    rw [hv]
    have hiw : (wsM (sbit s) (8 * s.size) h.w0 h.a0 (.wr b)).isW = true := itM_isW _ (isW_wt _ _) _ _
    have hle : (wsM (sbit s) (8 * s.size) h.w0 h.a0 (.wr b)).len ≤ M + 8000 := by
      have h1 : (wsM (sbit s) (8 * s.size) h.w0 h.a0 (.wr b)).len ≤ (Wk.wr b).len + h.w0.length * 384 := itM_len_le (wtM (sbit s) (8 * s.size)) 384 (wtM_len _ _) h.w0 (.wr b)
      have h3 : h.w0.length ≤ 16 := hR.len.2.2.1
      omega
    exact ⟨⟨v2, q1.trans r1 (fun _ _ e => e.elim), q2.touch r1.touch (by rintro (e | e | e); exact hghw e; exact H.gh.2 e; exact e), q3.step (r1.mono (fun _ _ e => e.elim))⟩, hiw, hR, hle, H.lt, H.gh, H.vt⟩
  | rd a bad many =>
    obtain rfl : W = false := hmode.symm
    have hR0 : RwsR w0 w h.ls q 2 := hrows
    obtain ⟨e1, e2, e3⟩ := hR0.f2 (Nat.le_refl _)
    have e1' : h.w0 = [] := e1
    have hc : (hdV h q)[13]? = some (.slice none 0 0) := by
      show some (Value.slice q.w0 (h.w0).length q.cw0) = _
      rw [e1', e2, e3]
      rfl
    refine (weights_r h.a0 m0 m1 q1.at_ hs q2 hc hghw H.gh.2).mono ?_
    rintro e w' ⟨he, A, c, ⟨v2, r1, r2⟩, hnew0⟩
    refine ⟨he, { q with w0 := A, cw0 := c }, ?_⟩
    rw [e1']
    have hR := RwsR.keep (w' := w') hR0 (fun B T cs hB hb => hb.touch r1.touch (by
      have := H.lt
      rintro (e | e | e)
      · exact q1.at_.nws (by omega) e
      · omega
      · omega))
    have hnew : RowNew w0 w' 116 A 6 wtF (wsV (sbit s) (8 * s.size) [] h.a0 (.rd a bad many)) := by
      rcases hnew0 with hnew0 | ⟨Br, cs, z1, z2, z3⟩
      · exact .inl hnew0
      · exact .inr ⟨Br, cs, z1, Nat.le_trans q1.touch.size z2, z3⟩
    have hiw : (wsM (sbit s) (8 * s.size) [] h.a0 (.rd a bad many)).isW = false := itM_isW _ (isW_wt _ _) _ _
    refine ⟨⟨v2, q1.trans r1 (fun _ _ e => e), r2, q3.step r1⟩, hiw, ?_, by rw [isW_len hiw]; omega, H.lt, H.gh, H.vt⟩
    have hlenN := wsV_len_rd (sbit s) (8 * s.size) h.a0 a bad many m1
    show RwsR w0 w' _ _ 3
    exact ⟨hR.m0, hR.m1, hnew, hR.w1, hR.ops, fun e => absurd e (by omega), fun e => absurd e (by omega), fun e => absurd e (by omega), fun e => hR.f3 (by omega), fun e => hR.f4 (by omega), ⟨hR.len.1, hR.len.2.1, hlenN, hR.len.2.2.2.1, hR.len.2.2.2.2⟩⟩
end
section
variable {W : Bool} {w0 w : World} {base g gk gh : Nat} {s : ByteArray} {v : Value} {X : List (Nat × TypeId × Array Value)} {t : Hw} {q : Ha} {M : Nat}
theorem HwAt.weights_w1 (H : HwAt W w0 w base g gk gh s v X t q 3 M) (hs : s.size ≤ 140737488351232) (hM : M ≤ 700000) (m0 : 0 ≤ t.h.a1) (m1 : t.h.a1 ≤ 2147483647) :
    Calls Tryz.prog 104 #[.pointer (some ⟨gk, 0, none⟩), .pointer (some ⟨gh, 14, none⟩), .int .i64 t.h.a1] w fun e w' => e = .returned (.tuple #[]) ∧ ∃ q', HwAt W w0 w' base g gk gh s v X ⟨wsM (sbit s) (8 * s.size) t.h.w1 t.h.a1 t.k, { t.h with w1 := wsV (sbit s) (8 * s.size) t.h.w1 t.h.a1 t.k }⟩ q' 4 (M + 8000) := by
  obtain ⟨k, h⟩ := t
  obtain ⟨v1, q1, q2, q3⟩ := H.fld
  have hmode := H.mode
  have hrows := H.rows
  have hlen := H.len
  have hghw : ¬ WS g v1 gh := q1.ws H.lt.2.2 H.gh.1
  simp only at q1 q2 hmode hrows hlen m0 m1 ⊢
  cases k with
  | wr b =>
    obtain rfl : W = true := hmode.symm
    have hR : RwsW w0 g gk gh v h.ls q := hrows
    have hcell : ∀ (p : Addr) (x : Value), w0.cell? p = some x → ∀ ad, q.w1 = some ad → p.block = ad.block → w.cell? p = some x := fun p x hx ad he hb => by
      obtain ⟨z1, z2, z3, z4⟩ := hR.away _ (.inr (.inr (.inr (.inl rfl)))) ad he
      exact q1.cell hx (hb ▸ z1) (hb ▸ z2) (hb ▸ z3)
    have hr : RwAt w w.heap.size q.w1 6 wtF h.w1 := fun hn => by
      obtain ⟨ad, e, hb, hc⟩ := hR.w1 hn
      refine ⟨ad, e, Nat.lt_of_lt_of_le hb q1.touch.size, fun i hi => ⟨hcell _ _ (hc i hi).1 ad e (by rw [block_add]), fun j h0 hj => hcell _ _ ((hc i hi).2 j h0 hj) ad e (by show (ad.add _).block = _; rw [block_add])⟩⟩
    have hl : b.length ≤ M := hlen
    refine (weights_w h.w1 q.w1 q.cw1 ⟨gh, 14, none⟩ h.a1 q1.at_ (by omega) hR.len.2.2.2.1 (q2.cell 14) hr hghw H.gh.2 (fun ad he => ?_)).mono ?_
    · obtain ⟨z1, z2, z3, z4⟩ := hR.away _ (.inr (.inr (.inr (.inl rfl)))) ad he
      exact ⟨q1.ws z4 z1, z2⟩
    rintro e w' ⟨he, v2, r1⟩
    refine ⟨he, q, ?_⟩
    have hv : wsV (sbit s) (8 * s.size) h.w1 h.a1 (.wr b) = h.w1 := itV_wr _ _ (wtM_wr _ _) (wtV_wr _ _) h.w1 b
    rw [hv]
    have hiw : (wsM (sbit s) (8 * s.size) h.w1 h.a1 (.wr b)).isW = true := itM_isW _ (isW_wt _ _) _ _
    have hle : (wsM (sbit s) (8 * s.size) h.w1 h.a1 (.wr b)).len ≤ M + 8000 := by
      have h1 : (wsM (sbit s) (8 * s.size) h.w1 h.a1 (.wr b)).len ≤ (Wk.wr b).len + h.w1.length * 384 := itM_len_le (wtM (sbit s) (8 * s.size)) 384 (wtM_len _ _) h.w1 (.wr b)
      have h3 : h.w1.length ≤ 16 := hR.len.2.2.2.1
      omega
    exact ⟨⟨v2, q1.trans r1 (fun _ _ e => e.elim), q2.touch r1.touch (by rintro (e | e | e); exact hghw e; exact H.gh.2 e; exact e), q3.step (r1.mono (fun _ _ e => e.elim))⟩, hiw, hR, hle, H.lt, H.gh, H.vt⟩
  | rd a bad many =>
    obtain rfl : W = false := hmode.symm
    have hR0 : RwsR w0 w h.ls q 3 := hrows
    obtain ⟨e1, e2, e3⟩ := hR0.f3 (Nat.le_refl _)
    have e1' : h.w1 = [] := e1
    have hc : (hdV h q)[14]? = some (.slice none 0 0) := by
      show some (Value.slice q.w1 (h.w1).length q.cw1) = _
      rw [e1', e2, e3]
      rfl
    refine (weights_r h.a1 m0 m1 q1.at_ hs q2 hc hghw H.gh.2).mono ?_
    rintro e w' ⟨he, A, c, ⟨v2, r1, r2⟩, hnew0⟩
    refine ⟨he, { q with w1 := A, cw1 := c }, ?_⟩
    rw [e1']
    have hR := RwsR.keep (w' := w') hR0 (fun B T cs hB hb => hb.touch r1.touch (by
      have := H.lt
      rintro (e | e | e)
      · exact q1.at_.nws (by omega) e
      · omega
      · omega))
    have hnew : RowNew w0 w' 116 A 6 wtF (wsV (sbit s) (8 * s.size) [] h.a1 (.rd a bad many)) := by
      rcases hnew0 with hnew0 | ⟨Br, cs, z1, z2, z3⟩
      · exact .inl hnew0
      · exact .inr ⟨Br, cs, z1, Nat.le_trans q1.touch.size z2, z3⟩
    have hiw : (wsM (sbit s) (8 * s.size) [] h.a1 (.rd a bad many)).isW = false := itM_isW _ (isW_wt _ _) _ _
    refine ⟨⟨v2, q1.trans r1 (fun _ _ e => e), r2, q3.step r1⟩, hiw, ?_, by rw [isW_len hiw]; omega, H.lt, H.gh, H.vt⟩
    have hlenN := wsV_len_rd (sbit s) (8 * s.size) h.a1 a bad many m1
    show RwsR w0 w' _ _ 4
    exact ⟨hR.m0, hR.m1, hR.w0, hnew, hR.ops, fun e => absurd e (by omega), fun e => absurd e (by omega), fun e => absurd e (by omega), fun e => absurd e (by omega), fun e => hR.f4 (by omega), ⟨hR.len.1, hR.len.2.1, hR.len.2.2.1, hlenN, hR.len.2.2.2.2⟩⟩
end
end Go.Proofs.YtjokibagciehlaaGreat

namespace Go.Proofs.YtjokibagciehlaaGreat
open Go.RowKit
set_option linter.unusedVariables false
set_option linter.unusedSimpArgs false

theorem below_drewN {B : Nat} {a b : World} (h : Below B a b) (n : Nat) : Below B a (b.drewN n) := ⟨h.os, h.tape, h.output, h.size, h.block⟩
/-- a header's type, its counts -/
structure Ty (t : Hw) (c : Int) : Prop where
  ty : t.h.type = c
  a0 : 0 ≤ t.h.a0 ∧ t.h.a0 ≤ 2147483647
  a1 : 0 ≤ t.h.a1 ∧ t.h.a1 ≤ 2147483647
theorem HwAt.le {W : Bool} {w0 w : World} {base g gk gh : Nat} {s : ByteArray} {v : Value} {X : List (Nat × TypeId × Array Value)} {t : Hw} {q : Ha} {n M : Nat} (H : HwAt W w0 w base g gk gh s v X t q n M) : ∀ a b c, t.k = .rd a b c → a ≤ 8 * s.size := by
  obtain ⟨v1, q1, q2, q3⟩ := H.fld
  exact q1.at_.le
theorem lsV_bd (f : Nat → Bool) (N : Nat) (x : Int) (k : Wk) (hk : ∀ a b c, k = .rd a b c → a ≤ N) (h : 0 ≤ x ∧ x ≤ 2147483647) : 0 ≤ lsV f N x k ∧ lsV f N x k ≤ 2147483647 := by
  unfold lsV
  have := ueV_bd f N (x - 1) k hk
  omega
section
variable {f : Nat → Bool} {N : Nat} {t : Hw} {c : Int}
theorem Ty.liA (h : Ty t c) : Ty (liA f N t) c := by
  unfold Go.Proofs.YtjokibagciehlaaGreat.liA
  split
  · exact ⟨h.ty, h.a0, h.a1⟩
  · exact h
theorem Ty.liB (h : Ty t c) (hk : ∀ a b c, t.k = .rd a b c → a ≤ N) : Ty (liB f N t) c := by
  unfold Go.Proofs.YtjokibagciehlaaGreat.liB
  split
  · exact ⟨h.ty, lsV_bd f N _ _ hk h.a0, h.a1⟩
  · exact h
theorem Ty.liC (h : Ty t c) (hk : ∀ a b c, t.k = .rd a b c → a ≤ N) : Ty (liC f N t) c := by
  unfold Go.Proofs.YtjokibagciehlaaGreat.liC
  split
  · exact ⟨h.ty, h.a0, lsV_bd f N _ _ hk h.a1⟩
  · exact h
theorem Ty.liD (h : Ty t c) : Ty (liD t) c := ⟨h.ty, h.a0, h.a1⟩
theorem Ty.liE (h : Ty t c) : Ty (liE f N t) c := by
  unfold Go.Proofs.YtjokibagciehlaaGreat.liE
  split
  · exact ⟨h.ty, h.a0, h.a1⟩
  · exact h
theorem Ty.liF (h : Ty t c) : Ty (liF f N t) c := by
  unfold Go.Proofs.YtjokibagciehlaaGreat.liF
  split
  · exact ⟨h.ty, h.a0, h.a1⟩
  · exact h
theorem Ty.liG (h : Ty t c) : Ty (liG f N t) c := ⟨h.ty, h.a0, h.a1⟩
theorem Ty.liH (h : Ty t c) : Ty (liH f N t) c := ⟨h.ty, h.a0, h.a1⟩
theorem Ty.liI (h : Ty t c) : Ty (liI f N t) c := ⟨h.ty, h.a0, h.a1⟩
end
section
variable {W : Bool} {w0 w : World} {base g gk gh : Nat} {s : ByteArray} {v : Value} {X : List (Nat × TypeId × Array Value)} {t : Hw} {q : Ha} {M : Nat}
set_option maxRecDepth 100000 in
set_option maxHeartbeats 12800000 in
theorem lists_I (p : Pp) (H : HwAt W w0 w base g gk gh s v X t q 0 M) (hs : s.size ≤ 140737488351232) (hM : M ≤ 600000) (T : Ty t 2) :
    Calls Tryz.prog 73 #[.pointer (some ⟨gk, 0, none⟩), .pointer (some ⟨gh, 0, none⟩), .agg (ppV p)] w fun e w' => e = .returned (.tuple #[]) ∧ ∃ q', HwAt W w0 w' base g gk gh s v X (liS (sbit s) (8 * s.size) p t) q' 4 (M + 30000) := by
  have HF : Hid (HwAt W w0 (w.alloc (.cells (ppV p) 31)) base g gk gh s v ((w.heap.size, 31, ppV p) :: X) t q 0 M) := Lib.hid (H.push 31 (ppV p))
  have HS := Lib.hid hs
  have HT := Lib.hid T
  have c2 := HF.out.hb.cell 2
  simp only [hdV, List.getElem?_toArray, List.getElem?_cons_succ, List.getElem?_cons_zero] at c2
  rw [T.ty] at c2
  obtain ⟨wg, hwg⟩ : ∃ b, wgt 2 p = b := ⟨_, rfl⟩
  have D4 : Hid (∀ w, Calls Tryz.prog 86 #[.int .i64 2, .agg (ppV p)] w fun e w' => e = .returned (.bool wg) ∧ Below w.heap.size w w') := Lib.hid (fun w => hwg ▸ wgt_any 2 p w)
  simp only [ppV] at D4 c2 ⊢
  have HWG := Lib.hid hwg
  have hpl : w.heap.size < w.heap.size + 1 := by omega
  clear H hs T hwg
  go_enter Tryz.func73, Tryz.ntmps73
  go_wp2_with fail
  go_quiet (fail)
  clear c2
  obtain ⟨wz, hwz⟩ : ∃ wz, wz = (w.alloc (.cells (ppV p) 31)).drewN nq := ⟨_, rfl⟩
  replace HF : Hid (HwAt W w0 wz base g gk gh s v ((w.heap.size, 31, ppV p) :: X) t q 0 M) := Lib.hid (by rw [hwz]; exact HF.out.go (below_drewN (Below.refl _ _) nq))
  rw [show (w.alloc (.cells #[.bool p.cabac, .bool p.weighted, .int .i64 p.bipred, .int .i64 p.qp, .int .i64 p.cqp, .bool p.con, .bool p.deb, .int .i64 p.a0, .int .i64 p.a1] 31)).drewN nq = wz from hwz.symm]
  clear hwz
  obtain ⟨tA, htA⟩ : ∃ x, liA (sbit s) (8 * s.size) t = x := ⟨_, rfl⟩
  replace HF := Lib.hid (HF.out.eqv ((if_neg (by rw [HT.out.ty]; omega)).symm.trans htA))
  replace HT := Lib.hid (show Ty tA 2 from htA ▸ HT.out.liA)
  have HF0 := HF
  obtain ⟨tB, htB⟩ : ∃ x, liB (sbit s) (8 * s.size) tA = x := ⟨_, rfl⟩
  replace HF := Lib.hid (HF.out.eqv ((if_neg (fun e => e HT.out.ty)).symm.trans htB))
  replace HT := Lib.hid (show Ty tB 2 from htB ▸ HT.out.liB HF0.out.le)
  clear HF0
  have HF0 := HF
  obtain ⟨tC, htC⟩ : ∃ x, liC (sbit s) (8 * s.size) tB = x := ⟨_, rfl⟩
  replace HF := Lib.hid (HF.out.eqv ((if_neg (by rw [HT.out.ty]; omega)).symm.trans htC))
  replace HT := Lib.hid (show Ty tC 2 from htC ▸ HT.out.liC HF0.out.le)
  clear HF0
  obtain ⟨tD, htD⟩ : ∃ x, liD tC = x := ⟨_, rfl⟩
  go_upto_region 8 with fail
  go_cut [] (fun wx => HwAt W w0 wx base g gk gh s v ((w.heap.size, 31, ppV p) :: X) tD q 0 M)
  case first =>
    have c7 := HF.out.hb.cell 7
    have c8 := HF.out.hb.cell 8
    simp [hdV] at c7 c8
    obtain ⟨x0, hx0⟩ : ∃ x, tC.h.a0 = x := ⟨_, rfl⟩
    obtain ⟨x1, hx1⟩ : ∃ x, tC.h.a1 = x := ⟨_, rfl⟩
    have hD : tD = ⟨ckM (decide (x0 ≤ 8) && decide (x1 ≤ 8)) tC.k, tC.h⟩ := by rw [← htD, ← hx0, ← hx1]; rfl
    rw [hx0] at c7
    rw [hx1] at c8
    have HD := Lib.hid hD
    clear hx0 hx1 hD htD
    by_cases z0 : x0 ≤ 8
    · by_cases z1 : x1 ≤ 8
      · rw [decide_eq_true z0, decide_eq_true z1] at HD
        go_wp2_with fail
        refine (HF.out.check _).mono ?_
        rintro e wd ⟨rfl, hq⟩
        replace HF := Lib.hid (hq.eqv HD.out.symm)
        clear hq c7 c8
        go_wp2_with fail
        go_meet
        exact HF.out
      · rw [decide_eq_true z0, decide_eq_false z1] at HD
        have z1' : 8 < x1 := by omega
        go_wp2_with fail
        refine (HF.out.check _).mono ?_
        rintro e wd ⟨rfl, hq⟩
        replace HF := Lib.hid (hq.eqv HD.out.symm)
        clear hq c7 c8
        go_wp2_with fail
        go_meet
        exact HF.out
    · rw [decide_eq_false z0] at HD
      have z0' : 8 < x0 := by omega
      go_wp2_with fail
      refine (HF.out.check _).mono ?_
      rintro e wd ⟨rfl, hq⟩
      replace HF := Lib.hid (hq.eqv HD.out.symm)
      clear hq c7 c8
      go_wp2_with fail
      go_meet
      exact HF.out
  case rest =>
    replace HF := Lib.hid hcut
    clear hcut
    replace HT := Lib.hid (show Ty tD 2 from htD ▸ HT.out.liD)
    obtain ⟨tE, htE⟩ : ∃ x, liE (sbit s) (8 * s.size) tD = x := ⟨_, rfl⟩
    replace HF := Lib.hid (HF.out.eqv ((if_neg (fun e => e HT.out.ty)).symm.trans htE))
    replace HF := Lib.hid (HF.out.more (show 0 ≤ 1 by omega) (Nat.le_refl _))
    replace HT := Lib.hid (show Ty tE 2 from htE ▸ HT.out.liE)
    obtain ⟨tF, htF⟩ : ∃ x, liF (sbit s) (8 * s.size) tE = x := ⟨_, rfl⟩
    replace HF := Lib.hid (HF.out.eqv ((if_neg (by rw [HT.out.ty]; omega)).symm.trans htF))
    replace HF := Lib.hid (HF.out.more (show 1 ≤ 2 by omega) (Nat.le_refl _))
    replace HT := Lib.hid (show Ty tF 2 from htF ▸ HT.out.liF)
    obtain ⟨tW, htW⟩ : ∃ x, liW (sbit s) (8 * s.size) p tF = x := ⟨_, rfl⟩
    obtain ⟨st, hst⟩ : ∃ b, tF.k.stop = b := ⟨_, rfl⟩
    have hcW : (wgt tF.h.type p && !tF.k.stop) = (wg && !st) := by rw [HT.out.ty, HWG.out, hst]
    have hfin : liS (sbit s) (8 * s.size) p t = tW := by unfold liS; rw [htA, htB, htC, htD, htE, htF, htW]
    have HFIN := Lib.hid hfin
    have HCW := Lib.hid hcW
    have HTW := Lib.hid htW
    have HST : Hid (∀ w', Below wc.heap.size wc w' → Calls Tryz.prog 103 #[.pointer (some ⟨gk, 0, none⟩)] w' fun e w'' => e = .returned (.bool st) ∧ w' = w'') := Lib.hid (fun w' hb => hst ▸ (HF.out.go hb).stop)
    clear hst hcW htA htB htC htD htE htF htW hfin
    go_upto_region 13 with fail
    have c2 := HF.out.hb.cell 2
    simp [hdV] at c2
    rw [HT.out.ty] at c2
    have g0 := (HF.out.box (List.mem_cons_self ..)).cell 0
    have g1 := (HF.out.box (List.mem_cons_self ..)).cell 1
    have g2 := (HF.out.box (List.mem_cons_self ..)).cell 2
    have g3 := (HF.out.box (List.mem_cons_self ..)).cell 3
    have g4 := (HF.out.box (List.mem_cons_self ..)).cell 4
    have g5 := (HF.out.box (List.mem_cons_self ..)).cell 5
    have g6 := (HF.out.box (List.mem_cons_self ..)).cell 6
    have g7 := (HF.out.box (List.mem_cons_self ..)).cell 7
    have g8 := (HF.out.box (List.mem_cons_self ..)).cell 8
    simp [ppV] at g0 g1 g2 g3 g4 g5 g6 g7 g8
    have hpl2 : w.heap.size < wc.heap.size := (HF.out.box (List.mem_cons_self ..)).lt
    have hgl2 : gh < wc.heap.size := HF.out.hb.lt
    obtain rfl : wg = false := by rw [← HWG.out]; rfl
    refine wp_region_class (fun w' => Below wc.heap.size wc w') (by kernel_rfl) (by kernel_rfl) ((Below.refl _ _).drew) ?_
    repeat (first
      | go_big_quiet_skip
      | (go_big_quiet_want; first
          | (go_big_quiet_op; go_big_quiet_on)
          | (refine qv_val (v := ?_) ?_ ?_; rotate_left 1; (intro w' hw'; obtain ⟨hcc, hff⟩ := bcell hw'; clear hff hw'; go_simp; (try with_reducible rfl)); (try simp only [Act.put, List.setIfInBounds_toArray, List.set_cons_zero, List.set_cons_succ]); go_big_quiet_on)
          | (refine qv_call (v := ?_) (f := ?_) (args := ?_) ?_ ?_ ?_; rotate_left 3; (intro w' hw'; clear hw'; go_simp; (refine ⟨?_, ?_⟩ <;> rfl)); (first | (intro w' hw'; refine (D4.out _).mono ?_; rintro e wh ⟨rfl, hbh⟩; refine ⟨?_, Below.trans hw' (hbh.mono hw'.size)⟩; skip; rfl)); (try simp only [Act.put, List.setIfInBounds_toArray, List.set_cons_zero, List.set_cons_succ]); go_big_quiet_on)))
    with_reducible refine wpQuiet_nil ?_
    intro wq hq
    clear c2 g0 g1 g2 g3 g4 g5 g6 g7 g8
    replace HF := Lib.hid (HF.out.go hq)
    clear hq
    go_wp2_with fail
    go_end0
    rw [HFIN.out]
    exact ⟨rfl, q, (HF.out.eqv ((if_neg (by rw [HCW.out]; simp)).symm.trans HTW.out)).pop.more (by omega) (by omega)⟩
set_option maxRecDepth 100000 in
set_option maxHeartbeats 12800000 in
theorem lists_P (ty : Int) (p : Pp) (H : HwAt W w0 w base g gk gh s v X t q 0 M) (hs : s.size ≤ 140737488351232) (hM : M ≤ 600000) (T : Ty t ty) (n1 : ¬ ty = 1) (n2 : ¬ ty = 2) :
    Calls Tryz.prog 73 #[.pointer (some ⟨gk, 0, none⟩), .pointer (some ⟨gh, 0, none⟩), .agg (ppV p)] w fun e w' => e = .returned (.tuple #[]) ∧ ∃ q', HwAt W w0 w' base g gk gh s v X (liS (sbit s) (8 * s.size) p t) q' 4 (M + 30000) := by
  have HF : Hid (HwAt W w0 (w.alloc (.cells (ppV p) 31)) base g gk gh s v ((w.heap.size, 31, ppV p) :: X) t q 0 M) := Lib.hid (H.push 31 (ppV p))
  have HS := Lib.hid hs
  have HT := Lib.hid T
  have c2 := HF.out.hb.cell 2
  simp only [hdV, List.getElem?_toArray, List.getElem?_cons_succ, List.getElem?_cons_zero] at c2
  rw [T.ty] at c2
  obtain ⟨wg, hwg⟩ : ∃ b, wgt ty p = b := ⟨_, rfl⟩
  have D4 : Hid (∀ w, Calls Tryz.prog 86 #[.int .i64 ty, .agg (ppV p)] w fun e w' => e = .returned (.bool wg) ∧ Below w.heap.size w w') := Lib.hid (fun w => hwg ▸ wgt_any ty p w)
  simp only [ppV] at D4 c2 ⊢
  have HWG := Lib.hid hwg
  have hpl : w.heap.size < w.heap.size + 1 := by omega
  clear H hs T hwg
  go_enter Tryz.func73, Tryz.ntmps73
  go_wp2_with fail
  go_quiet (fail)
  clear c2
  obtain ⟨wz, hwz⟩ : ∃ wz, wz = (w.alloc (.cells (ppV p) 31)).drewN nq := ⟨_, rfl⟩
  replace HF : Hid (HwAt W w0 wz base g gk gh s v ((w.heap.size, 31, ppV p) :: X) t q 0 M) := Lib.hid (by rw [hwz]; exact HF.out.go (below_drewN (Below.refl _ _) nq))
  rw [show (w.alloc (.cells #[.bool p.cabac, .bool p.weighted, .int .i64 p.bipred, .int .i64 p.qp, .int .i64 p.cqp, .bool p.con, .bool p.deb, .int .i64 p.a0, .int .i64 p.a1] 31)).drewN nq = wz from hwz.symm]
  clear hwz
  obtain ⟨tA, htA⟩ : ∃ x, liA (sbit s) (8 * s.size) t = x := ⟨_, rfl⟩
  replace HF := Lib.hid (HF.out.eqv ((if_neg (by rw [HT.out.ty]; exact n1)).symm.trans htA))
  replace HT := Lib.hid (show Ty tA ty from htA ▸ HT.out.liA)
  have HF0 := HF
  obtain ⟨tB, htB⟩ : ∃ x, liB (sbit s) (8 * s.size) tA = x := ⟨_, rfl⟩
  go_wp2_with fail
  refine (HF.out.less HS.out tA.h.a0 7 { tA.h with a0 := lsV (sbit s) (8 * s.size) tA.h.a0 tA.k } (by omega) (by have := HT.out.a0; omega) (by have := HT.out.a0; omega) rfl rfl rfl).mono ?_
  rintro e w1 ⟨rfl, hq⟩
  replace HF := Lib.hid (hq.eqv ((if_pos (by rw [HT.out.ty]; exact n2)).symm.trans htB))
  clear hq
  replace HT := Lib.hid (show Ty tB ty from htB ▸ HT.out.liB HF0.out.le)
  clear HF0
  have HF0 := HF
  obtain ⟨tC, htC⟩ : ∃ x, liC (sbit s) (8 * s.size) tB = x := ⟨_, rfl⟩
  replace HF := Lib.hid (HF.out.eqv ((if_neg (by rw [HT.out.ty]; exact n1)).symm.trans htC))
  replace HT := Lib.hid (show Ty tC ty from htC ▸ HT.out.liC HF0.out.le)
  clear HF0
  obtain ⟨tD, htD⟩ : ∃ x, liD tC = x := ⟨_, rfl⟩
  go_upto_region 8 with fail
  go_cut [] (fun wx => HwAt W w0 wx base g gk gh s v ((w.heap.size, 31, ppV p) :: X) tD q 0 (M + 64))
  case first =>
    have c7 := HF.out.hb.cell 7
    have c8 := HF.out.hb.cell 8
    simp [hdV] at c7 c8
    obtain ⟨x0, hx0⟩ : ∃ x, tC.h.a0 = x := ⟨_, rfl⟩
    obtain ⟨x1, hx1⟩ : ∃ x, tC.h.a1 = x := ⟨_, rfl⟩
    have hD : tD = ⟨ckM (decide (x0 ≤ 8) && decide (x1 ≤ 8)) tC.k, tC.h⟩ := by rw [← htD, ← hx0, ← hx1]; rfl
    rw [hx0] at c7
    rw [hx1] at c8
    have HD := Lib.hid hD
    clear hx0 hx1 hD htD
    by_cases z0 : x0 ≤ 8
    · by_cases z1 : x1 ≤ 8
      · rw [decide_eq_true z0, decide_eq_true z1] at HD
        go_wp2_with fail
        refine (HF.out.check _).mono ?_
        rintro e wd ⟨rfl, hq⟩
        replace HF := Lib.hid (hq.eqv HD.out.symm)
        clear hq c7 c8
        go_wp2_with fail
        go_meet
        exact HF.out
      · rw [decide_eq_true z0, decide_eq_false z1] at HD
        have z1' : 8 < x1 := by omega
        go_wp2_with fail
        refine (HF.out.check _).mono ?_
        rintro e wd ⟨rfl, hq⟩
        replace HF := Lib.hid (hq.eqv HD.out.symm)
        clear hq c7 c8
        go_wp2_with fail
        go_meet
        exact HF.out
    · rw [decide_eq_false z0] at HD
      have z0' : 8 < x0 := by omega
      go_wp2_with fail
      refine (HF.out.check _).mono ?_
      rintro e wd ⟨rfl, hq⟩
      replace HF := Lib.hid (hq.eqv HD.out.symm)
      clear hq c7 c8
      go_wp2_with fail
      go_meet
      exact HF.out
  case rest =>
    replace HF := Lib.hid hcut
    clear hcut
    replace HT := Lib.hid (show Ty tD ty from htD ▸ HT.out.liD)
    obtain ⟨tE, htE⟩ : ∃ x, liE (sbit s) (8 * s.size) tD = x := ⟨_, rfl⟩
    go_wp2_with fail
    refine (HF.out.list_m0 HS.out (by omega)).mono ?_
    rintro e w2 ⟨rfl, qE, hq⟩
    replace HF := Lib.hid (hq.eqv ((if_pos (by rw [HT.out.ty]; exact n2)).symm.trans htE))
    clear hq
    replace HT := Lib.hid (show Ty tE ty from htE ▸ HT.out.liE)
    obtain ⟨tF, htF⟩ : ∃ x, liF (sbit s) (8 * s.size) tE = x := ⟨_, rfl⟩
    replace HF := Lib.hid (HF.out.eqv ((if_neg (by rw [HT.out.ty]; exact n1)).symm.trans htF))
    replace HF := Lib.hid (HF.out.more (show 1 ≤ 2 by omega) (Nat.le_refl _))
    replace HT := Lib.hid (show Ty tF ty from htF ▸ HT.out.liF)
    obtain ⟨tW, htW⟩ : ∃ x, liW (sbit s) (8 * s.size) p tF = x := ⟨_, rfl⟩
    obtain ⟨st, hst⟩ : ∃ b, tF.k.stop = b := ⟨_, rfl⟩
    have hcW : (wgt tF.h.type p && !tF.k.stop) = (wg && !st) := by rw [HT.out.ty, HWG.out, hst]
    have hfin : liS (sbit s) (8 * s.size) p t = tW := by unfold liS; rw [htA, htB, htC, htD, htE, htF, htW]
    have HFIN := Lib.hid hfin
    have HCW := Lib.hid hcW
    have HTW := Lib.hid htW
    have HST : Hid (∀ w', Below w2.heap.size w2 w' → Calls Tryz.prog 103 #[.pointer (some ⟨gk, 0, none⟩)] w' fun e w'' => e = .returned (.bool st) ∧ w' = w'') := Lib.hid (fun w' hb => hst ▸ (HF.out.go hb).stop)
    clear hst hcW htA htB htC htD htE htF htW hfin
    go_upto_region 13 with fail
    have c2 := HF.out.hb.cell 2
    simp [hdV] at c2
    rw [HT.out.ty] at c2
    have g0 := (HF.out.box (List.mem_cons_self ..)).cell 0
    have g1 := (HF.out.box (List.mem_cons_self ..)).cell 1
    have g2 := (HF.out.box (List.mem_cons_self ..)).cell 2
    have g3 := (HF.out.box (List.mem_cons_self ..)).cell 3
    have g4 := (HF.out.box (List.mem_cons_self ..)).cell 4
    have g5 := (HF.out.box (List.mem_cons_self ..)).cell 5
    have g6 := (HF.out.box (List.mem_cons_self ..)).cell 6
    have g7 := (HF.out.box (List.mem_cons_self ..)).cell 7
    have g8 := (HF.out.box (List.mem_cons_self ..)).cell 8
    simp [ppV] at g0 g1 g2 g3 g4 g5 g6 g7 g8
    have hpl2 : w.heap.size < w2.heap.size := (HF.out.box (List.mem_cons_self ..)).lt
    have hgl2 : gh < w2.heap.size := HF.out.hb.lt
    cases wg
    · skip
      refine wp_region_class (fun w' => Below w2.heap.size w2 w') (by kernel_rfl) (by kernel_rfl) ((Below.refl _ _).drew) ?_
      repeat (first
        | go_big_quiet_skip
        | (go_big_quiet_want; first
            | (go_big_quiet_op; go_big_quiet_on)
            | (refine qv_val (v := ?_) ?_ ?_; rotate_left 1; (intro w' hw'; obtain ⟨hcc, hff⟩ := bcell hw'; clear hff hw'; go_simp; (try with_reducible rfl)); (try simp only [Act.put, List.setIfInBounds_toArray, List.set_cons_zero, List.set_cons_succ]); go_big_quiet_on)
            | (refine qv_call (v := ?_) (f := ?_) (args := ?_) ?_ ?_ ?_; rotate_left 3; (intro w' hw'; clear hw'; go_simp; (refine ⟨?_, ?_⟩ <;> rfl)); (first | (intro w' hw'; refine (D4.out _).mono ?_; rintro e wh ⟨rfl, hbh⟩; refine ⟨?_, Below.trans hw' (hbh.mono hw'.size)⟩; skip; rfl)); (try simp only [Act.put, List.setIfInBounds_toArray, List.set_cons_zero, List.set_cons_succ]); go_big_quiet_on)))
      with_reducible refine wpQuiet_nil ?_
      intro wq hq
      clear c2 g0 g1 g2 g3 g4 g5 g6 g7 g8
      replace HF := Lib.hid (HF.out.go hq)
      clear hq
      go_wp2_with fail
      go_end0
      rw [HFIN.out]
      exact ⟨rfl, qE, (HF.out.eqv ((if_neg (by rw [HCW.out]; simp)).symm.trans HTW.out)).pop.more (by omega) (by omega)⟩
    · cases st
      · skip
        refine wp_region_class (fun w' => Below w2.heap.size w2 w') (by kernel_rfl) (by kernel_rfl) ((Below.refl _ _).drew) ?_
        repeat (first
          | go_big_quiet_skip
          | (go_big_quiet_want; first
              | (go_big_quiet_op; go_big_quiet_on)
              | (refine qv_val (v := ?_) ?_ ?_; rotate_left 1; (intro w' hw'; obtain ⟨hcc, hff⟩ := bcell hw'; clear hff hw'; go_simp; (try with_reducible rfl)); (try simp only [Act.put, List.setIfInBounds_toArray, List.set_cons_zero, List.set_cons_succ]); go_big_quiet_on)
              | (refine qv_call (v := ?_) (f := ?_) (args := ?_) ?_ ?_ ?_; rotate_left 3; (intro w' hw'; clear hw'; go_simp; (refine ⟨?_, ?_⟩ <;> rfl)); (first | (intro w' hw'; refine (D4.out _).mono ?_; rintro e wh ⟨rfl, hbh⟩; refine ⟨?_, Below.trans hw' (hbh.mono hw'.size)⟩; skip; rfl) | (intro w' hw'; refine (HST.out w' hw').mono ?_; rintro e w'' ⟨rfl, rfl⟩; refine ⟨?_, hw'⟩; skip; rfl)); (try simp only [Act.put, List.setIfInBounds_toArray, List.set_cons_zero, List.set_cons_succ]); go_big_quiet_on)))
        with_reducible refine wpQuiet_nil ?_
        intro wq hq
        clear c2 g0 g1 g2 g3 g4 g5 g6 g7 g8
        replace HF := Lib.hid (HF.out.go hq)
        clear hq HST D4
        obtain ⟨tG, htG⟩ : ∃ x, liG (sbit s) (8 * s.size) tF = x := ⟨_, rfl⟩
        obtain ⟨tH, htH⟩ : ∃ x, liH (sbit s) (8 * s.size) tG = x := ⟨_, rfl⟩
        obtain ⟨tI, htI⟩ : ∃ x, liI (sbit s) (8 * s.size) tH = x := ⟨_, rfl⟩
        obtain ⟨tJ, htJ⟩ : ∃ x, liJ (sbit s) (8 * s.size) tI = x := ⟨_, rfl⟩
        have hW : tJ = tW := by
          rw [← HTW.out, ← htJ, ← htI, ← htH, ← htG]
          exact (if_pos (by rw [HCW.out]; rfl)).symm
        have HW := Lib.hid hW
        clear hW
        go_wp2_with fail
        refine (HF.out.ue HS.out tF.h.log 11 { tF.h with log := ueV (sbit s) (8 * s.size) tF.h.log tF.k } (by omega) rfl rfl rfl).mono ?_
        rintro e wG ⟨rfl, hq⟩
        replace HF := Lib.hid (hq.eqv htG)
        replace HT := Lib.hid (show Ty tG ty from htG ▸ HT.out.liG)
        clear hq htG
        go_wp2_with fail
        refine (HF.out.ue HS.out tG.h.logC 12 { tG.h with logC := ueV (sbit s) (8 * s.size) tG.h.logC tG.k } (by omega) rfl rfl rfl).mono ?_
        rintro e wH ⟨rfl, hq⟩
        replace HF := Lib.hid (hq.eqv htH)
        replace HT := Lib.hid (show Ty tH ty from htH ▸ HT.out.liH)
        clear hq htH
        have c7 := HF.out.hb.cell 7
        simp [hdV] at c7
        replace HF := Lib.hid ((HF.out.go ((Below.refl _ _).drew)).more (show 2 ≤ 2 by omega) (Nat.le_refl _))
        go_wp2_with fail
        go_still_tail 8, (by kernel_rfl)
        change wpList _ _ _ _ _ (World.drew _)
        clear c7
        go_wp2_with fail
        refine (HF.out.weights_w0 HS.out (by omega) HT.out.a0.1 HT.out.a0.2).mono ?_
        rintro e wI ⟨rfl, qI, hq⟩
        replace HF := Lib.hid (hq.eqv htI)
        replace HT := Lib.hid (show Ty tI ty from htI ▸ HT.out.liI)
        clear hq htI
        have c8 := HF.out.hb.cell 8
        simp [hdV] at c8
        replace HF := Lib.hid (HF.out.go ((Below.refl _ _).drew))
        go_wp2_with fail
        go_still_tail 8, (by kernel_rfl)
        change wpList _ _ _ _ _ (World.drew _)
        clear c8
        go_wp2_with fail
        refine (HF.out.weights_w1 HS.out (by omega) HT.out.a1.1 HT.out.a1.2).mono ?_
        rintro e wJ ⟨rfl, qJ, hq⟩
        replace HF := Lib.hid (hq.eqv (htJ.trans HW.out))
        clear hq htJ
        go_wp2_with fail
        go_end0
        rw [HFIN.out]
        exact ⟨rfl, qJ, HF.out.pop.more (by omega) (by omega)⟩
      · skip
        refine wp_region_class (fun w' => Below w2.heap.size w2 w') (by kernel_rfl) (by kernel_rfl) ((Below.refl _ _).drew) ?_
        repeat (first
          | go_big_quiet_skip
          | (go_big_quiet_want; first
              | (go_big_quiet_op; go_big_quiet_on)
              | (refine qv_val (v := ?_) ?_ ?_; rotate_left 1; (intro w' hw'; obtain ⟨hcc, hff⟩ := bcell hw'; clear hff hw'; go_simp; (try with_reducible rfl)); (try simp only [Act.put, List.setIfInBounds_toArray, List.set_cons_zero, List.set_cons_succ]); go_big_quiet_on)
              | (refine qv_call (v := ?_) (f := ?_) (args := ?_) ?_ ?_ ?_; rotate_left 3; (intro w' hw'; clear hw'; go_simp; (refine ⟨?_, ?_⟩ <;> rfl)); (first | (intro w' hw'; refine (D4.out _).mono ?_; rintro e wh ⟨rfl, hbh⟩; refine ⟨?_, Below.trans hw' (hbh.mono hw'.size)⟩; skip; rfl) | (intro w' hw'; refine (HST.out w' hw').mono ?_; rintro e w'' ⟨rfl, rfl⟩; refine ⟨?_, hw'⟩; skip; rfl)); (try simp only [Act.put, List.setIfInBounds_toArray, List.set_cons_zero, List.set_cons_succ]); go_big_quiet_on)))
        with_reducible refine wpQuiet_nil ?_
        intro wq hq
        clear c2 g0 g1 g2 g3 g4 g5 g6 g7 g8
        replace HF := Lib.hid (HF.out.go hq)
        clear hq
        go_wp2_with fail
        go_end0
        rw [HFIN.out]
        exact ⟨rfl, qE, (HF.out.eqv ((if_neg (by rw [HCW.out]; simp)).symm.trans HTW.out)).pop.more (by omega) (by omega)⟩
set_option maxRecDepth 100000 in
set_option maxHeartbeats 12800000 in
theorem lists_B (p : Pp) (H : HwAt W w0 w base g gk gh s v X t q 0 M) (hs : s.size ≤ 140737488351232) (hM : M ≤ 600000) (T : Ty t 1) :
    Calls Tryz.prog 73 #[.pointer (some ⟨gk, 0, none⟩), .pointer (some ⟨gh, 0, none⟩), .agg (ppV p)] w fun e w' => e = .returned (.tuple #[]) ∧ ∃ q', HwAt W w0 w' base g gk gh s v X (liS (sbit s) (8 * s.size) p t) q' 4 (M + 30000) := by
  have HF : Hid (HwAt W w0 (w.alloc (.cells (ppV p) 31)) base g gk gh s v ((w.heap.size, 31, ppV p) :: X) t q 0 M) := Lib.hid (H.push 31 (ppV p))
  have HS := Lib.hid hs
  have HT := Lib.hid T
  have c2 := HF.out.hb.cell 2
  simp only [hdV, List.getElem?_toArray, List.getElem?_cons_succ, List.getElem?_cons_zero] at c2
  rw [T.ty] at c2
  obtain ⟨wg, hwg⟩ : ∃ b, wgt 1 p = b := ⟨_, rfl⟩
  have D4 : Hid (∀ w, Calls Tryz.prog 86 #[.int .i64 1, .agg (ppV p)] w fun e w' => e = .returned (.bool wg) ∧ Below w.heap.size w w') := Lib.hid (fun w => hwg ▸ wgt_any 1 p w)
  simp only [ppV] at D4 c2 ⊢
  have HWG := Lib.hid hwg
  have hpl : w.heap.size < w.heap.size + 1 := by omega
  clear H hs T hwg
  go_enter Tryz.func73, Tryz.ntmps73
  go_wp2_with fail
  go_quiet (fail)
  clear c2
  obtain ⟨wz, hwz⟩ : ∃ wz, wz = (w.alloc (.cells (ppV p) 31)).drewN nq := ⟨_, rfl⟩
  replace HF : Hid (HwAt W w0 wz base g gk gh s v ((w.heap.size, 31, ppV p) :: X) t q 0 M) := Lib.hid (by rw [hwz]; exact HF.out.go (below_drewN (Below.refl _ _) nq))
  rw [show (w.alloc (.cells #[.bool p.cabac, .bool p.weighted, .int .i64 p.bipred, .int .i64 p.qp, .int .i64 p.cqp, .bool p.con, .bool p.deb, .int .i64 p.a0, .int .i64 p.a1] 31)).drewN nq = wz from hwz.symm]
  clear hwz
  obtain ⟨tA, htA⟩ : ∃ x, liA (sbit s) (8 * s.size) t = x := ⟨_, rfl⟩
  go_wp2_with fail
  refine (HF.out.flag HS.out t.h.spatial 6 { t.h with spatial := flV (sbit s) (8 * s.size) t.h.spatial t.k } (by omega) rfl rfl rfl).mono ?_
  rintro e w1 ⟨rfl, hq⟩
  replace HF := Lib.hid (hq.eqv ((if_pos HT.out.ty).symm.trans htA))
  clear hq
  replace HT := Lib.hid (show Ty tA 1 from htA ▸ HT.out.liA)
  have HF0 := HF
  obtain ⟨tB, htB⟩ : ∃ x, liB (sbit s) (8 * s.size) tA = x := ⟨_, rfl⟩
  go_wp2_with fail
  refine (HF.out.less HS.out tA.h.a0 7 { tA.h with a0 := lsV (sbit s) (8 * s.size) tA.h.a0 tA.k } (by omega) (by have := HT.out.a0; omega) (by have := HT.out.a0; omega) rfl rfl rfl).mono ?_
  rintro e w2 ⟨rfl, hq⟩
  replace HF := Lib.hid (hq.eqv ((if_pos (by rw [HT.out.ty]; omega)).symm.trans htB))
  clear hq
  replace HT := Lib.hid (show Ty tB 1 from htB ▸ HT.out.liB HF0.out.le)
  clear HF0
  have HF0 := HF
  obtain ⟨tC, htC⟩ : ∃ x, liC (sbit s) (8 * s.size) tB = x := ⟨_, rfl⟩
  go_wp2_with fail
  refine (HF.out.less HS.out tB.h.a1 8 { tB.h with a1 := lsV (sbit s) (8 * s.size) tB.h.a1 tB.k } (by omega) (by have := HT.out.a1; omega) (by have := HT.out.a1; omega) rfl rfl rfl).mono ?_
  rintro e w3 ⟨rfl, hq⟩
  replace HF := Lib.hid (hq.eqv ((if_pos HT.out.ty).symm.trans htC))
  clear hq
  replace HT := Lib.hid (show Ty tC 1 from htC ▸ HT.out.liC HF0.out.le)
  clear HF0
  obtain ⟨tD, htD⟩ : ∃ x, liD tC = x := ⟨_, rfl⟩
  go_upto_region 8 with fail
  go_cut [] (fun wx => HwAt W w0 wx base g gk gh s v ((w.heap.size, 31, ppV p) :: X) tD q 0 (((M + 64) + 64) + 64))
  case first =>
    have c7 := HF.out.hb.cell 7
    have c8 := HF.out.hb.cell 8
    simp [hdV] at c7 c8
    obtain ⟨x0, hx0⟩ : ∃ x, tC.h.a0 = x := ⟨_, rfl⟩
    obtain ⟨x1, hx1⟩ : ∃ x, tC.h.a1 = x := ⟨_, rfl⟩
    have hD : tD = ⟨ckM (decide (x0 ≤ 8) && decide (x1 ≤ 8)) tC.k, tC.h⟩ := by rw [← htD, ← hx0, ← hx1]; rfl
    rw [hx0] at c7
    rw [hx1] at c8
    have HD := Lib.hid hD
    clear hx0 hx1 hD htD
    by_cases z0 : x0 ≤ 8
    · by_cases z1 : x1 ≤ 8
      · rw [decide_eq_true z0, decide_eq_true z1] at HD
        go_wp2_with fail
        refine (HF.out.check _).mono ?_
        rintro e wd ⟨rfl, hq⟩
        replace HF := Lib.hid (hq.eqv HD.out.symm)
        clear hq c7 c8
        go_wp2_with fail
        go_meet
        exact HF.out
      · rw [decide_eq_true z0, decide_eq_false z1] at HD
        have z1' : 8 < x1 := by omega
        go_wp2_with fail
        refine (HF.out.check _).mono ?_
        rintro e wd ⟨rfl, hq⟩
        replace HF := Lib.hid (hq.eqv HD.out.symm)
        clear hq c7 c8
        go_wp2_with fail
        go_meet
        exact HF.out
    · rw [decide_eq_false z0] at HD
      have z0' : 8 < x0 := by omega
      go_wp2_with fail
      refine (HF.out.check _).mono ?_
      rintro e wd ⟨rfl, hq⟩
      replace HF := Lib.hid (hq.eqv HD.out.symm)
      clear hq c7 c8
      go_wp2_with fail
      go_meet
      exact HF.out
  case rest =>
    replace HF := Lib.hid hcut
    clear hcut
    replace HT := Lib.hid (show Ty tD 1 from htD ▸ HT.out.liD)
    obtain ⟨tE, htE⟩ : ∃ x, liE (sbit s) (8 * s.size) tD = x := ⟨_, rfl⟩
    go_wp2_with fail
    refine (HF.out.list_m0 HS.out (by omega)).mono ?_
    rintro e w4 ⟨rfl, qE, hq⟩
    replace HF := Lib.hid (hq.eqv ((if_pos (by rw [HT.out.ty]; omega)).symm.trans htE))
    clear hq
    replace HT := Lib.hid (show Ty tE 1 from htE ▸ HT.out.liE)
    obtain ⟨tF, htF⟩ : ∃ x, liF (sbit s) (8 * s.size) tE = x := ⟨_, rfl⟩
    go_wp2_with fail
    refine (HF.out.list_m1 HS.out (by omega)).mono ?_
    rintro e w5 ⟨rfl, qF, hq⟩
    replace HF := Lib.hid (hq.eqv ((if_pos HT.out.ty).symm.trans htF))
    clear hq
    replace HT := Lib.hid (show Ty tF 1 from htF ▸ HT.out.liF)
    obtain ⟨tW, htW⟩ : ∃ x, liW (sbit s) (8 * s.size) p tF = x := ⟨_, rfl⟩
    obtain ⟨st, hst⟩ : ∃ b, tF.k.stop = b := ⟨_, rfl⟩
    have hcW : (wgt tF.h.type p && !tF.k.stop) = (wg && !st) := by rw [HT.out.ty, HWG.out, hst]
    have hfin : liS (sbit s) (8 * s.size) p t = tW := by unfold liS; rw [htA, htB, htC, htD, htE, htF, htW]
    have HFIN := Lib.hid hfin
    have HCW := Lib.hid hcW
    have HTW := Lib.hid htW
    have HST : Hid (∀ w', Below w5.heap.size w5 w' → Calls Tryz.prog 103 #[.pointer (some ⟨gk, 0, none⟩)] w' fun e w'' => e = .returned (.bool st) ∧ w' = w'') := Lib.hid (fun w' hb => hst ▸ (HF.out.go hb).stop)
    clear hst hcW htA htB htC htD htE htF htW hfin
    go_upto_region 13 with fail
    have c2 := HF.out.hb.cell 2
    simp [hdV] at c2
    rw [HT.out.ty] at c2
    have g0 := (HF.out.box (List.mem_cons_self ..)).cell 0
    have g1 := (HF.out.box (List.mem_cons_self ..)).cell 1
    have g2 := (HF.out.box (List.mem_cons_self ..)).cell 2
    have g3 := (HF.out.box (List.mem_cons_self ..)).cell 3
    have g4 := (HF.out.box (List.mem_cons_self ..)).cell 4
    have g5 := (HF.out.box (List.mem_cons_self ..)).cell 5
    have g6 := (HF.out.box (List.mem_cons_self ..)).cell 6
    have g7 := (HF.out.box (List.mem_cons_self ..)).cell 7
    have g8 := (HF.out.box (List.mem_cons_self ..)).cell 8
    simp [ppV] at g0 g1 g2 g3 g4 g5 g6 g7 g8
    have hpl2 : w.heap.size < w5.heap.size := (HF.out.box (List.mem_cons_self ..)).lt
    have hgl2 : gh < w5.heap.size := HF.out.hb.lt
    cases wg
    · skip
      refine wp_region_class (fun w' => Below w5.heap.size w5 w') (by kernel_rfl) (by kernel_rfl) ((Below.refl _ _).drew) ?_
      repeat (first
        | go_big_quiet_skip
        | (go_big_quiet_want; first
            | (go_big_quiet_op; go_big_quiet_on)
            | (refine qv_val (v := ?_) ?_ ?_; rotate_left 1; (intro w' hw'; obtain ⟨hcc, hff⟩ := bcell hw'; clear hff hw'; go_simp; (try with_reducible rfl)); (try simp only [Act.put, List.setIfInBounds_toArray, List.set_cons_zero, List.set_cons_succ]); go_big_quiet_on)
            | (refine qv_call (v := ?_) (f := ?_) (args := ?_) ?_ ?_ ?_; rotate_left 3; (intro w' hw'; clear hw'; go_simp; (refine ⟨?_, ?_⟩ <;> rfl)); (first | (intro w' hw'; refine (D4.out _).mono ?_; rintro e wh ⟨rfl, hbh⟩; refine ⟨?_, Below.trans hw' (hbh.mono hw'.size)⟩; skip; rfl)); (try simp only [Act.put, List.setIfInBounds_toArray, List.set_cons_zero, List.set_cons_succ]); go_big_quiet_on)))
      with_reducible refine wpQuiet_nil ?_
      intro wq hq
      clear c2 g0 g1 g2 g3 g4 g5 g6 g7 g8
      replace HF := Lib.hid (HF.out.go hq)
      clear hq
      go_wp2_with fail
      go_end0
      rw [HFIN.out]
      exact ⟨rfl, qF, (HF.out.eqv ((if_neg (by rw [HCW.out]; simp)).symm.trans HTW.out)).pop.more (by omega) (by omega)⟩
    · cases st
      · skip
        refine wp_region_class (fun w' => Below w5.heap.size w5 w') (by kernel_rfl) (by kernel_rfl) ((Below.refl _ _).drew) ?_
        repeat (first
          | go_big_quiet_skip
          | (go_big_quiet_want; first
              | (go_big_quiet_op; go_big_quiet_on)
              | (refine qv_val (v := ?_) ?_ ?_; rotate_left 1; (intro w' hw'; obtain ⟨hcc, hff⟩ := bcell hw'; clear hff hw'; go_simp; (try with_reducible rfl)); (try simp only [Act.put, List.setIfInBounds_toArray, List.set_cons_zero, List.set_cons_succ]); go_big_quiet_on)
              | (refine qv_call (v := ?_) (f := ?_) (args := ?_) ?_ ?_ ?_; rotate_left 3; (intro w' hw'; clear hw'; go_simp; (refine ⟨?_, ?_⟩ <;> rfl)); (first | (intro w' hw'; refine (D4.out _).mono ?_; rintro e wh ⟨rfl, hbh⟩; refine ⟨?_, Below.trans hw' (hbh.mono hw'.size)⟩; skip; rfl) | (intro w' hw'; refine (HST.out w' hw').mono ?_; rintro e w'' ⟨rfl, rfl⟩; refine ⟨?_, hw'⟩; skip; rfl)); (try simp only [Act.put, List.setIfInBounds_toArray, List.set_cons_zero, List.set_cons_succ]); go_big_quiet_on)))
        with_reducible refine wpQuiet_nil ?_
        intro wq hq
        clear c2 g0 g1 g2 g3 g4 g5 g6 g7 g8
        replace HF := Lib.hid (HF.out.go hq)
        clear hq HST D4
        obtain ⟨tG, htG⟩ : ∃ x, liG (sbit s) (8 * s.size) tF = x := ⟨_, rfl⟩
        obtain ⟨tH, htH⟩ : ∃ x, liH (sbit s) (8 * s.size) tG = x := ⟨_, rfl⟩
        obtain ⟨tI, htI⟩ : ∃ x, liI (sbit s) (8 * s.size) tH = x := ⟨_, rfl⟩
        obtain ⟨tJ, htJ⟩ : ∃ x, liJ (sbit s) (8 * s.size) tI = x := ⟨_, rfl⟩
        have hW : tJ = tW := by
          rw [← HTW.out, ← htJ, ← htI, ← htH, ← htG]
          exact (if_pos (by rw [HCW.out]; rfl)).symm
        have HW := Lib.hid hW
        clear hW
        go_wp2_with fail
        refine (HF.out.ue HS.out tF.h.log 11 { tF.h with log := ueV (sbit s) (8 * s.size) tF.h.log tF.k } (by omega) rfl rfl rfl).mono ?_
        rintro e wG ⟨rfl, hq⟩
        replace HF := Lib.hid (hq.eqv htG)
        replace HT := Lib.hid (show Ty tG 1 from htG ▸ HT.out.liG)
        clear hq htG
        go_wp2_with fail
        refine (HF.out.ue HS.out tG.h.logC 12 { tG.h with logC := ueV (sbit s) (8 * s.size) tG.h.logC tG.k } (by omega) rfl rfl rfl).mono ?_
        rintro e wH ⟨rfl, hq⟩
        replace HF := Lib.hid (hq.eqv htH)
        replace HT := Lib.hid (show Ty tH 1 from htH ▸ HT.out.liH)
        clear hq htH
        have c7 := HF.out.hb.cell 7
        simp [hdV] at c7
        replace HF := Lib.hid ((HF.out.go ((Below.refl _ _).drew)).more (show 2 ≤ 2 by omega) (Nat.le_refl _))
        go_wp2_with fail
        go_still_tail 8, (by kernel_rfl)
        change wpList _ _ _ _ _ (World.drew _)
        clear c7
        go_wp2_with fail
        refine (HF.out.weights_w0 HS.out (by omega) HT.out.a0.1 HT.out.a0.2).mono ?_
        rintro e wI ⟨rfl, qI, hq⟩
        replace HF := Lib.hid (hq.eqv htI)
        replace HT := Lib.hid (show Ty tI 1 from htI ▸ HT.out.liI)
        clear hq htI
        have c8 := HF.out.hb.cell 8
        simp [hdV] at c8
        replace HF := Lib.hid (HF.out.go ((Below.refl _ _).drew))
        go_wp2_with fail
        go_still_tail 8, (by kernel_rfl)
        change wpList _ _ _ _ _ (World.drew _)
        clear c8
        go_wp2_with fail
        refine (HF.out.weights_w1 HS.out (by omega) HT.out.a1.1 HT.out.a1.2).mono ?_
        rintro e wJ ⟨rfl, qJ, hq⟩
        replace HF := Lib.hid (hq.eqv (htJ.trans HW.out))
        clear hq htJ
        go_wp2_with fail
        go_end0
        rw [HFIN.out]
        exact ⟨rfl, qJ, HF.out.pop.more (by omega) (by omega)⟩
      · skip
        refine wp_region_class (fun w' => Below w5.heap.size w5 w') (by kernel_rfl) (by kernel_rfl) ((Below.refl _ _).drew) ?_
        repeat (first
          | go_big_quiet_skip
          | (go_big_quiet_want; first
              | (go_big_quiet_op; go_big_quiet_on)
              | (refine qv_val (v := ?_) ?_ ?_; rotate_left 1; (intro w' hw'; obtain ⟨hcc, hff⟩ := bcell hw'; clear hff hw'; go_simp; (try with_reducible rfl)); (try simp only [Act.put, List.setIfInBounds_toArray, List.set_cons_zero, List.set_cons_succ]); go_big_quiet_on)
              | (refine qv_call (v := ?_) (f := ?_) (args := ?_) ?_ ?_ ?_; rotate_left 3; (intro w' hw'; clear hw'; go_simp; (refine ⟨?_, ?_⟩ <;> rfl)); (first | (intro w' hw'; refine (D4.out _).mono ?_; rintro e wh ⟨rfl, hbh⟩; refine ⟨?_, Below.trans hw' (hbh.mono hw'.size)⟩; skip; rfl) | (intro w' hw'; refine (HST.out w' hw').mono ?_; rintro e w'' ⟨rfl, rfl⟩; refine ⟨?_, hw'⟩; skip; rfl)); (try simp only [Act.put, List.setIfInBounds_toArray, List.set_cons_zero, List.set_cons_succ]); go_big_quiet_on)))
        with_reducible refine wpQuiet_nil ?_
        intro wq hq
        clear c2 g0 g1 g2 g3 g4 g5 g6 g7 g8
        replace HF := Lib.hid (HF.out.go hq)
        clear hq
        go_wp2_with fail
        go_end0
        rw [HFIN.out]
        exact ⟨rfl, qF, (HF.out.eqv ((if_neg (by rw [HCW.out]; simp)).symm.trans HTW.out)).pop.more (by omega) (by omega)⟩
theorem Ty.of (a0 : 0 ≤ t.h.a0 ∧ t.h.a0 ≤ 2147483647) (a1 : 0 ≤ t.h.a1 ∧ t.h.a1 ≤ 2147483647) (c : Int) (h : t.h.type = c) : Ty t c := ⟨h, a0, a1⟩
theorem lists_any (p : Pp) (H : HwAt W w0 w base g gk gh s v X t q 0 M) (hs : s.size ≤ 140737488351232) (hM : M ≤ 600000) (a0 : 0 ≤ t.h.a0 ∧ t.h.a0 ≤ 2147483647) (a1 : 0 ≤ t.h.a1 ∧ t.h.a1 ≤ 2147483647) :
    Calls Tryz.prog 73 #[.pointer (some ⟨gk, 0, none⟩), .pointer (some ⟨gh, 0, none⟩), .agg (ppV p)] w fun e w' => e = .returned (.tuple #[]) ∧ ∃ q', HwAt W w0 w' base g gk gh s v X (liS (sbit s) (8 * s.size) p t) q' 4 (M + 30000) := by
  by_cases h2 : t.h.type = 2
  · exact lists_I p H hs hM (Ty.of a0 a1 _ h2)
  by_cases h1 : t.h.type = 1
  · exact lists_B p H hs hM (Ty.of a0 a1 _ h1)
  · exact lists_P t.h.type p H hs hM (Ty.of a0 a1 _ rfl) h1 h2
end
end Go.Proofs.YtjokibagciehlaaGreat

namespace Go.Proofs.YtjokibagciehlaaGreat
open Go.RowKit
set_option linter.unusedVariables false
set_option linter.unusedSimpArgs false

/-- the counts of a header -/
structure Cn (t : Hw) : Prop where
  a0 : 0 ≤ t.h.a0 ∧ t.h.a0 ≤ 2147483647
  a1 : 0 ≤ t.h.a1 ∧ t.h.a1 ≤ 2147483647
section
variable {W : Bool} {w0 w : World} {base g gk gh : Nat} {s : ByteArray} {v : Value} {X : List (Nat × TypeId × Array Value)} {t : Hw} {q : Ha} {M : Nat}
set_option maxRecDepth 100000 in
set_option maxHeartbeats 12800000 in
theorem all_any (sq : Sp) (A : Option Addr) (c : Nat) (p : Pp) (ref : Int) (key : Bool) (H : HwAt W w0 w base g gk gh s v X t q 0 M) (hs : s.size ≤ 140737488351232) (hM : M ≤ 500000) (hc : -4611686018427387904 ≤ t.h.count ∧ t.h.count ≤ 4611686018427387904) (T : Cn t) :
    Calls Tryz.prog 32 #[.pointer (some ⟨gk, 0, none⟩), .pointer (some ⟨gh, 0, none⟩), .agg (spV sq A c), .agg (ppV p), .int .i64 ref, .bool key] w fun e w' => e = .returned (.tuple #[]) ∧ ∃ q', HwAt W w0 w' base g gk gh s v X (alS (sbit s) (8 * s.size) sq p ref key t) q' 5 (M + 40000) := by
  obtain ⟨w1, hw1⟩ : ∃ w1, w1 = w.alloc (.cells (spV sq A c) 29) := ⟨_, rfl⟩
  obtain ⟨w2, hw2⟩ : ∃ w2, w2 = w1.alloc (.cells (ppV p) 31) := ⟨_, rfl⟩
  have hsz : w1.heap.size = w.heap.size + 1 := by rw [hw1]; simp
  have HF : Hid (HwAt W w0 w2 base g gk gh s v ((w.heap.size + 1, 31, ppV p) :: (w.heap.size, 29, spV sq A c) :: X) t q 0 M) := Lib.hid (by
    have h := (H.push 29 (spV sq A c)).push 31 (ppV p)
    rw [← hw1, ← hw2, hsz] at h
    exact h)
  have HS := Lib.hid hs
  have HT := Lib.hid T
  clear H hs T hsz
  have hw2' : w2 = (w.alloc (.cells (spV sq A c) 29)).alloc (.cells (ppV p) 31) := by rw [hw2, hw1]
  simp only [spV, ppV] at hw2' ⊢
  clear hw1 hw2
  go_enter Tryz.func32, Tryz.ntmps32
  go_wp2_with fail
  rw [← hw2']
  clear hw2' 
  obtain ⟨tA, htA⟩ : ∃ x, alA (sbit s) (8 * s.size) t = x := ⟨_, rfl⟩
  skip
  refine (HF.out.ue HS.out t.h.first 0 { t.h with first := ueV (sbit s) (8 * s.size) t.h.first t.k } (by omega) rfl rfl rfl).mono ?_
  rintro e wA ⟨rfl, hq⟩
  replace HF := Lib.hid (hq.eqv htA)
  clear hq
  replace HT := Lib.hid (show Cn tA from htA ▸ ⟨HT.out.a0, HT.out.a1⟩)
  have hcA : tA.h.count = t.h.count := by rw [← htA]; rfl
  rw [← hcA] at hc
  clear hcA
  obtain ⟨tB, htB⟩ : ∃ x, alB (sbit s) (8 * s.size) tA = x := ⟨_, rfl⟩
  go_wp2_with fail
  refine (HF.out.less HS.out tA.h.count 1 { tA.h with count := lsV (sbit s) (8 * s.size) tA.h.count tA.k } (by omega) hc.1 hc.2 rfl rfl rfl).mono ?_
  rintro e wB ⟨rfl, hq⟩
  replace HF := Lib.hid (hq.eqv htB)
  clear hq
  replace HT := Lib.hid (show Cn tB from htB ▸ ⟨HT.out.a0, HT.out.a1⟩)
  clear hc
  obtain ⟨tC, htC⟩ : ∃ x, alC (sbit s) (8 * s.size) tB = x := ⟨_, rfl⟩
  go_wp2_with fail
  refine (HF.out.ue HS.out tB.h.type 2 { tB.h with type := ueV (sbit s) (8 * s.size) tB.h.type tB.k } (by omega) rfl rfl rfl).mono ?_
  rintro e wC ⟨rfl, hq⟩
  replace HF := Lib.hid (hq.eqv htC)
  clear hq
  replace HT := Lib.hid (show Cn tC from htC ▸ ⟨HT.out.a0, HT.out.a1⟩)
  obtain ⟨tD, htD⟩ : ∃ x, alD tC = x := ⟨_, rfl⟩
  have c2 := HF.out.hb.cell 2
  simp [hdV] at c2
  go_wp2_with fail
  refine (hin_any tC.h.type 0 2 wC).mono ?_
  rintro e wC' ⟨rfl, rfl⟩
  clear c2
  go_wp2_with fail
  refine (HF.out.check (inR 0 2 tC.h.type)).mono ?_
  rintro e wD ⟨rfl, hq⟩
  replace HF := Lib.hid (hq.eqv htD)
  clear hq
  replace HT := Lib.hid (show Cn tD from htD ▸ ⟨HT.out.a0, HT.out.a1⟩)
  obtain ⟨tE, htE⟩ : ∃ x, alE (sbit s) (8 * s.size) sq tD = x := ⟨_, rfl⟩
  have s2 := (HF.out.box (List.mem_cons_of_mem _ (List.mem_cons_self ..))).cell 2
  simp [spV] at s2
  go_wp2_with fail
  replace HF := Lib.hid (HF.out.go ((Below.refl _ _).drew))
  go_still_tail 6, (by kernel_rfl)
  change wpList _ _ _ _ _ (World.drew _)
  clear s2
  go_wp2_with fail
  refine (HF.out.fixed HS.out sq.fb tD.h.fn 3 { tD.h with fn := fxV (sbit s) (8 * s.size) sq.fb tD.h.fn tD.k } (by omega) rfl rfl rfl).mono ?_
  rintro e wE ⟨rfl, hq⟩
  replace HF := Lib.hid (hq.eqv htE)
  clear hq
  replace HT := Lib.hid (show Cn tE from htE ▸ ⟨HT.out.a0, HT.out.a1⟩)
  obtain ⟨tF, htF⟩ : ∃ x, alF (sbit s) (8 * s.size) key tE = x := ⟨_, rfl⟩
  go_upto_if 41 with fail
  go_cut [] (fun wx => HwAt W w0 wx base g gk gh s v ((w.heap.size + 1, 31, ppV p) :: (w.heap.size, 29, spV sq A c) :: X) tF q 0 ((M + 64 + 64 + 64 + 64) + 64))
  case first =>
    cases key
    · replace HF := Lib.hid ((HF.out.eqv ((if_neg (by simp)).symm.trans htF)).more (Nat.le_refl _) (show _ ≤ (M + 64 + 64 + 64 + 64) + 64 by omega))
      go_wp2_with fail
      go_meet
      exact HF.out
    · skip
      go_wp2_with fail
      refine (HF.out.ue HS.out tE.h.id 4 { tE.h with id := ueV (sbit s) (8 * s.size) tE.h.id tE.k } (by omega) rfl rfl rfl).mono ?_
      rintro e wF ⟨rfl, hq⟩
      replace HF := Lib.hid (hq.eqv ((if_pos rfl).symm.trans htF))
      clear hq
      go_wp2_with fail
      go_meet
      exact HF.out
  case rest =>
    replace HF := Lib.hid hcut
    clear hcut
    replace HT := Lib.hid (show Cn tF from htF ▸ (by unfold alF; split <;> exact ⟨HT.out.a0, HT.out.a1⟩))
    obtain ⟨tG, htG⟩ : ∃ x, alG (sbit s) (8 * s.size) sq tF = x := ⟨_, rfl⟩
    have hsl : w.heap.size < wc.heap.size := (HF.out.box (List.mem_cons_of_mem _ (List.mem_cons_self ..))).lt
    have s3 := (HF.out.box (List.mem_cons_of_mem _ (List.mem_cons_self ..))).cell 3
    simp [spV] at s3
    go_upto_if 49 with fail
    clear s3
    go_cut [] (fun wx => HwAt W w0 wx base g gk gh s v ((w.heap.size + 1, 31, ppV p) :: (w.heap.size, 29, spV sq A c) :: X) tG q 0 ((M + 64 + 64 + 64 + 64 + 64) + 64))
    case first =>
      by_cases hp : sq.pt = 0
      · have hp' : (sq.pt == 0) = true := by rw [hp]; rfl
        have s4 := (HF.out.box (List.mem_cons_of_mem _ (List.mem_cons_self ..))).cell 4
        simp [spV] at s4
        have HP := Lib.hid hp
        clear hp
        go_wp2_with fail
        replace HF := Lib.hid (HF.out.go ((Below.refl _ _).drew))
        go_still_tail 6, (by kernel_rfl)
        change wpList _ _ _ _ _ (World.drew _)
        clear s4
        go_wp2_with fail
        refine (HF.out.fixed HS.out sq.pb tF.h.poc 5 { tF.h with poc := fxV (sbit s) (8 * s.size) sq.pb tF.h.poc tF.k } (by omega) rfl rfl rfl).mono ?_
        rintro e wG ⟨rfl, hq⟩
        replace HF := Lib.hid (hq.eqv ((if_pos HP.out).symm.trans htG))
        clear hq
        go_wp2_with fail
        go_meet
        exact HF.out
      · have hp' : (sq.pt == 0) = false := by simpa using hp
        replace HF := Lib.hid ((HF.out.eqv ((if_neg hp).symm.trans htG)).more (Nat.le_refl _) (show _ ≤ (M + 64 + 64 + 64 + 64 + 64) + 64 by omega))
        clear hp
        go_wp2_with fail
        go_meet
        exact HF.out
    case rest =>
      replace HF := Lib.hid hcut
      clear hcut
      replace HT := Lib.hid (show Cn tG from htG ▸ (by unfold alG; split <;> exact ⟨HT.out.a0, HT.out.a1⟩))
      clear hsl
      obtain ⟨tL, htL⟩ : ∃ x, liS (sbit s) (8 * s.size) p tG = x := ⟨_, rfl⟩
      have g0 := (HF.out.box (List.mem_cons_self ..)).cell 0
      have g1 := (HF.out.box (List.mem_cons_self ..)).cell 1
      have g2 := (HF.out.box (List.mem_cons_self ..)).cell 2
      have g3 := (HF.out.box (List.mem_cons_self ..)).cell 3
      have g4 := (HF.out.box (List.mem_cons_self ..)).cell 4
      have g5 := (HF.out.box (List.mem_cons_self ..)).cell 5
      have g6 := (HF.out.box (List.mem_cons_self ..)).cell 6
      have g7 := (HF.out.box (List.mem_cons_self ..)).cell 7
      have g8 := (HF.out.box (List.mem_cons_self ..)).cell 8
      simp [ppV] at g0 g1 g2 g3 g4 g5 g6 g7 g8
      have HLI : Hid (Calls Tryz.prog 73 #[.pointer (some ⟨gk, 0, none⟩), .pointer (some ⟨gh, 0, none⟩), .agg #[.bool p.cabac, .bool p.weighted, .int .i64 p.bipred, .int .i64 p.qp, .int .i64 p.cqp, .bool p.con, .bool p.deb, .int .i64 p.a0, .int .i64 p.a1]] wc fun e w' => e = .returned (.tuple #[]) ∧ ∃ q', HwAt W w0 w' base g gk gh s v ((w.heap.size + 1, 31, ppV p) :: (w.heap.size, 29, spV sq A c) :: X) (liS (sbit s) (8 * s.size) p tG) q' 4 ((M + 64 + 64 + 64 + 64 + 64 + 64) + 30000)) := Lib.hid (lists_any p HF.out HS.out (by omega) HT.out.a0 HT.out.a1)
      go_wp2_with fail
      refine HLI.out.mono ?_
      rintro e wL ⟨rfl, qL, hq⟩
      replace HF : Hid (HwAt W w0 wL base g gk gh s v ((w.heap.size + 1, 31, ppV p) :: (w.heap.size, 29, spV sq A c) :: X) tL qL 4 ((M + 64 + 64 + 64 + 64 + 64 + 64) + 30000)) := Lib.hid (hq.eqv htL)
      clear hq HLI g0 g1 g2 g3 g4 g5 g6 g7 g8
      obtain ⟨tH, htH⟩ : ∃ x, alH (sbit s) (8 * s.size) ref key tL = x := ⟨_, rfl⟩
      obtain ⟨tQ, htQ⟩ : ∃ x, alQ (sbit s) (8 * s.size) tH = x := ⟨_, rfl⟩
      have hfin : alS (sbit s) (8 * s.size) sq p ref key t = alI (sbit s) (8 * s.size) p tQ := by unfold alS al1; rw [htA, htB, htC, htD, htE, htF, htG, htL, htH, htQ]
      have HFIN := Lib.hid hfin
      clear hfin htA htB htC htD htE htF htG htL HT
      obtain ⟨db, hdb⟩ : ∃ b, p.deb = b := ⟨_, rfl⟩
      have HDB := Lib.hid hdb
      clear hdb
      by_cases hr : 0 < ref
      · have HR := Lib.hid hr
        cases key
        · have hH : alH (sbit s) (8 * s.size) ref false tL = alO (sbit s) (8 * s.size) tL := by unfold alH; rw [if_pos hr]; exact if_neg (by simp)
          have hO : (⟨rwM (sbit s) (8 * s.size) (moM (sbit s) (8 * s.size)) Mo.zero tL.h.ops tL.k, { tL.h with ops := rwV (sbit s) (8 * s.size) (moM (sbit s) (8 * s.size)) (moV (sbit s) (8 * s.size)) Mo.zero tL.h.ops tL.k }⟩ : Hw) = tH := by rw [← htH, hH]; rfl
          go_wp2_with fail
          refine (HF.out.list_ops HS.out (by omega)).mono ?_
          rintro e wH ⟨rfl, qO, hq⟩
          replace HF := Lib.hid (hq.eqv hO)
          clear hq hO hH htH
          have s6 := (HF.out.box (List.mem_cons_self ..)).cell 6
          simp [ppV] at s6
          rw [HDB.out] at s6
          go_wp2_with fail
          refine (HF.out.ue HS.out tH.h.qp 17 { tH.h with qp := ueV (sbit s) (8 * s.size) tH.h.qp tH.k } (by omega) rfl rfl rfl).mono ?_
          rintro e wQ ⟨rfl, hq⟩
          replace HF := Lib.hid (hq.eqv htQ)
          clear hq
          clear s6
          have s6 := (HF.out.box (List.mem_cons_self ..)).cell 6
          simp [ppV] at s6
          rw [HDB.out] at s6
          have hdbl : w.heap.size + 1 < wQ.heap.size := (HF.out.box (List.mem_cons_self ..)).lt
          cases db
          · have hI : alI (sbit s) (8 * s.size) p tQ = tQ := if_neg (by rw [HDB.out]; simp)
            go_wp2_with fail
            first | refine bodyPost_ret (results_none rfl _ _ _) rfl ?_ | go_end0
            rw [HFIN.out, hI]
            exact ⟨rfl, qO, HF.out.pop.pop.more (by omega) (by omega)⟩
          · obtain ⟨tX, htX⟩ : ∃ x, alX (sbit s) (8 * s.size) tQ = x := ⟨_, rfl⟩
            have hI : alI (sbit s) (8 * s.size) p tQ = alV (sbit s) (8 * s.size) tX := by rw [← htX]; exact if_pos HDB.out
            go_wp2_with fail
            refine (HF.out.flag HS.out tQ.h.off 18 { tQ.h with off := flV (sbit s) (8 * s.size) tQ.h.off tQ.k } (by omega) rfl rfl rfl).mono ?_
            rintro e wX ⟨rfl, hq⟩
            replace HF := Lib.hid (hq.eqv htX)
            clear hq
            clear s6
            have c18 := HF.out.hb.cell 18
            simp [hdV] at c18
            obtain ⟨of, hof⟩ : ∃ b, tX.h.off = b := ⟨_, rfl⟩
            rw [hof] at c18
            have HI := Lib.hid hI
            clear hI
            cases of
            · obtain ⟨tY, htY⟩ : ∃ x, alY (sbit s) (8 * s.size) tX = x := ⟨_, rfl⟩
              obtain ⟨tZ, htZ⟩ : ∃ x, alZ (sbit s) (8 * s.size) tY = x := ⟨_, rfl⟩
              have hV : alV (sbit s) (8 * s.size) tX = tZ := by rw [← htZ, ← htY]; exact if_neg (by rw [hof]; simp)
              have HV := Lib.hid hV
              clear hV hof
              go_wp2_with fail
              refine (HF.out.se HS.out tX.h.a 19 { tX.h with a := seV (sbit s) (8 * s.size) tX.h.a tX.k } (by omega) rfl rfl rfl).mono ?_
              rintro e wY ⟨rfl, hq⟩
              replace HF := Lib.hid (hq.eqv htY)
              clear hq
              clear c18
              go_wp2_with fail
              refine (HF.out.se HS.out tY.h.b 20 { tY.h with b := seV (sbit s) (8 * s.size) tY.h.b tY.k } (by omega) rfl rfl rfl).mono ?_
              rintro e wZ ⟨rfl, hq⟩
              replace HF := Lib.hid (hq.eqv htZ)
              clear hq
              go_wp2_with fail
              go_end0
              rw [HFIN.out, HI.out, HV.out]
              exact ⟨rfl, qO, HF.out.pop.pop.more (by omega) (by omega)⟩
            · have hV : alV (sbit s) (8 * s.size) tX = tX := if_pos hof
              have HV := Lib.hid hV
              clear hV hof
              go_wp2_with fail
              go_end0
              rw [HFIN.out, HI.out, HV.out]
              exact ⟨rfl, qO, HF.out.pop.pop.more (by omega) (by omega)⟩
        · have hH : alH (sbit s) (8 * s.size) ref true tL = alK (sbit s) (8 * s.size) tL := by unfold alH; rw [if_pos hr]; exact if_pos rfl
          have hK : (⟨flM (sbit s) (8 * s.size) tL.h.longKey tL.k, { tL.h with longKey := flV (sbit s) (8 * s.size) tL.h.longKey tL.k }⟩ : Hw) = tH := by rw [← htH, hH]; rfl
          go_wp2_with fail
          refine (HF.out.flag HS.out tL.h.longKey 15 { tL.h with longKey := flV (sbit s) (8 * s.size) tL.h.longKey tL.k } (by omega) rfl rfl rfl).mono ?_
          rintro e wH ⟨rfl, hq⟩
          replace HF := Lib.hid (hq.eqv hK)
          clear hq
          clear hK hH htH
          have s6 := (HF.out.box (List.mem_cons_self ..)).cell 6
          simp [ppV] at s6
          rw [HDB.out] at s6
          go_wp2_with fail
          refine (HF.out.ue HS.out tH.h.qp 17 { tH.h with qp := ueV (sbit s) (8 * s.size) tH.h.qp tH.k } (by omega) rfl rfl rfl).mono ?_
          rintro e wQ ⟨rfl, hq⟩
          replace HF := Lib.hid (hq.eqv htQ)
          clear hq
          clear s6
          have s6 := (HF.out.box (List.mem_cons_self ..)).cell 6
          simp [ppV] at s6
          rw [HDB.out] at s6
          have hdbl : w.heap.size + 1 < wQ.heap.size := (HF.out.box (List.mem_cons_self ..)).lt
          cases db
          · have hI : alI (sbit s) (8 * s.size) p tQ = tQ := if_neg (by rw [HDB.out]; simp)
            go_wp2_with fail
            first | refine bodyPost_ret (results_none rfl _ _ _) rfl ?_ | go_end0
            rw [HFIN.out, hI]
            exact ⟨rfl, qL, HF.out.pop.pop.more (by omega) (by omega)⟩
          · obtain ⟨tX, htX⟩ : ∃ x, alX (sbit s) (8 * s.size) tQ = x := ⟨_, rfl⟩
            have hI : alI (sbit s) (8 * s.size) p tQ = alV (sbit s) (8 * s.size) tX := by rw [← htX]; exact if_pos HDB.out
            go_wp2_with fail
            refine (HF.out.flag HS.out tQ.h.off 18 { tQ.h with off := flV (sbit s) (8 * s.size) tQ.h.off tQ.k } (by omega) rfl rfl rfl).mono ?_
            rintro e wX ⟨rfl, hq⟩
            replace HF := Lib.hid (hq.eqv htX)
            clear hq
            clear s6
            have c18 := HF.out.hb.cell 18
            simp [hdV] at c18
            obtain ⟨of, hof⟩ : ∃ b, tX.h.off = b := ⟨_, rfl⟩
            rw [hof] at c18
            have HI := Lib.hid hI
            clear hI
            cases of
            · obtain ⟨tY, htY⟩ : ∃ x, alY (sbit s) (8 * s.size) tX = x := ⟨_, rfl⟩
              obtain ⟨tZ, htZ⟩ : ∃ x, alZ (sbit s) (8 * s.size) tY = x := ⟨_, rfl⟩
              have hV : alV (sbit s) (8 * s.size) tX = tZ := by rw [← htZ, ← htY]; exact if_neg (by rw [hof]; simp)
              have HV := Lib.hid hV
              clear hV hof
              go_wp2_with fail
              refine (HF.out.se HS.out tX.h.a 19 { tX.h with a := seV (sbit s) (8 * s.size) tX.h.a tX.k } (by omega) rfl rfl rfl).mono ?_
              rintro e wY ⟨rfl, hq⟩
              replace HF := Lib.hid (hq.eqv htY)
              clear hq
              clear c18
              go_wp2_with fail
              refine (HF.out.se HS.out tY.h.b 20 { tY.h with b := seV (sbit s) (8 * s.size) tY.h.b tY.k } (by omega) rfl rfl rfl).mono ?_
              rintro e wZ ⟨rfl, hq⟩
              replace HF := Lib.hid (hq.eqv htZ)
              clear hq
              go_wp2_with fail
              go_end0
              rw [HFIN.out, HI.out, HV.out]
              exact ⟨rfl, qL, HF.out.pop.pop.more (by omega) (by omega)⟩
            · have hV : alV (sbit s) (8 * s.size) tX = tX := if_pos hof
              have HV := Lib.hid hV
              clear hV hof
              go_wp2_with fail
              go_end0
              rw [HFIN.out, HI.out, HV.out]
              exact ⟨rfl, qL, HF.out.pop.pop.more (by omega) (by omega)⟩
      · have hH : alH (sbit s) (8 * s.size) ref key tL = tL := if_neg hr
        have hr' : ref ≤ 0 := by omega
        replace HF := Lib.hid (HF.out.eqv (hH.symm.trans htH))
        clear hH htH
        have s6 := (HF.out.box (List.mem_cons_self ..)).cell 6
        simp [ppV] at s6
        rw [HDB.out] at s6
        go_wp2_with fail
        refine (HF.out.ue HS.out tH.h.qp 17 { tH.h with qp := ueV (sbit s) (8 * s.size) tH.h.qp tH.k } (by omega) rfl rfl rfl).mono ?_
        rintro e wQ ⟨rfl, hq⟩
        replace HF := Lib.hid (hq.eqv htQ)
        clear hq
        clear s6
        have s6 := (HF.out.box (List.mem_cons_self ..)).cell 6
        simp [ppV] at s6
        rw [HDB.out] at s6
        have hdbl : w.heap.size + 1 < wQ.heap.size := (HF.out.box (List.mem_cons_self ..)).lt
        cases db
        · have hI : alI (sbit s) (8 * s.size) p tQ = tQ := if_neg (by rw [HDB.out]; simp)
          go_wp2_with fail
          first | refine bodyPost_ret (results_none rfl _ _ _) rfl ?_ | go_end0
          rw [HFIN.out, hI]
          exact ⟨rfl, qL, HF.out.pop.pop.more (by omega) (by omega)⟩
        · obtain ⟨tX, htX⟩ : ∃ x, alX (sbit s) (8 * s.size) tQ = x := ⟨_, rfl⟩
          have hI : alI (sbit s) (8 * s.size) p tQ = alV (sbit s) (8 * s.size) tX := by rw [← htX]; exact if_pos HDB.out
          go_wp2_with fail
          refine (HF.out.flag HS.out tQ.h.off 18 { tQ.h with off := flV (sbit s) (8 * s.size) tQ.h.off tQ.k } (by omega) rfl rfl rfl).mono ?_
          rintro e wX ⟨rfl, hq⟩
          replace HF := Lib.hid (hq.eqv htX)
          clear hq
          clear s6
          have c18 := HF.out.hb.cell 18
          simp [hdV] at c18
          obtain ⟨of, hof⟩ : ∃ b, tX.h.off = b := ⟨_, rfl⟩
          rw [hof] at c18
          have HI := Lib.hid hI
          clear hI
          cases of
          · obtain ⟨tY, htY⟩ : ∃ x, alY (sbit s) (8 * s.size) tX = x := ⟨_, rfl⟩
            obtain ⟨tZ, htZ⟩ : ∃ x, alZ (sbit s) (8 * s.size) tY = x := ⟨_, rfl⟩
            have hV : alV (sbit s) (8 * s.size) tX = tZ := by rw [← htZ, ← htY]; exact if_neg (by rw [hof]; simp)
            have HV := Lib.hid hV
            clear hV hof
            go_wp2_with fail
            refine (HF.out.se HS.out tX.h.a 19 { tX.h with a := seV (sbit s) (8 * s.size) tX.h.a tX.k } (by omega) rfl rfl rfl).mono ?_
            rintro e wY ⟨rfl, hq⟩
            replace HF := Lib.hid (hq.eqv htY)
            clear hq
            clear c18
            go_wp2_with fail
            refine (HF.out.se HS.out tY.h.b 20 { tY.h with b := seV (sbit s) (8 * s.size) tY.h.b tY.k } (by omega) rfl rfl rfl).mono ?_
            rintro e wZ ⟨rfl, hq⟩
            replace HF := Lib.hid (hq.eqv htZ)
            clear hq
            go_wp2_with fail
            go_end0
            rw [HFIN.out, HI.out, HV.out]
            exact ⟨rfl, qL, HF.out.pop.pop.more (by omega) (by omega)⟩
          · have hV : alV (sbit s) (8 * s.size) tX = tX := if_pos hof
            have HV := Lib.hid hV
            clear hV hof
            go_wp2_with fail
            go_end0
            rw [HFIN.out, HI.out, HV.out]
            exact ⟨rfl, qL, HF.out.pop.pop.more (by omega) (by omega)⟩
end
end Go.Proofs.YtjokibagciehlaaGreat
