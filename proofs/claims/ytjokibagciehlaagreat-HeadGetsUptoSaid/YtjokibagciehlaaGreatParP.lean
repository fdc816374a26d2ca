/- Parameters, plainly: which there are, their bits, what is read. No function of the program. -/
import Derived.Test.YtjokibagciehlaaGreatParI
namespace Go.Proofs.YtjokibagciehlaaGreat
set_option linter.unusedVariables false

/-- a sequence's parameters -/
structure Sp where
  wide : Int
  high : Int
  fb : Int
  pt : Int
  pb : Int
  nr : Int
  cy : List Int
  refs : Int
  delay : Int
/-- pictures' parameters -/
structure Pp where
  cabac : Bool
  weighted : Bool
  bipred : Int
  qp : Int
  cqp : Int
  con : Bool
  deb : Bool
  a0 : Int
  a1 : Int
def Sp.zero : Sp := ⟨0, 0, 0, 0, 0, 0, [], 0, 0⟩
def Pp.zero : Pp := ⟨false, false, 0, 0, 0, false, false, 0, 0⟩

def cyOk (l : List Int) : Prop := ∀ x ∈ l, -1000 ≤ x ∧ x ≤ 1000
instance (l : List Int) : Decidable (cyOk l) := by unfold cyOk; infer_instance
def SpOk (s : Sp) : Prop :=
  (1 ≤ s.wide ∧ s.wide ≤ 8) ∧ (1 ≤ s.high ∧ s.high ≤ 8) ∧ (4 ≤ s.fb ∧ s.fb ≤ 8) ∧ (4 ≤ s.pb ∧ s.pb ≤ 8) ∧ (0 ≤ s.pt ∧ s.pt ≤ 2) ∧ (-1000 ≤ s.nr ∧ s.nr ≤ 1000) ∧ s.cy.length ≤ 4 ∧ cyOk s.cy ∧
    (s.pt = 1 ∨ s.nr = 0 ∧ s.cy.length = 0) ∧ (s.pt = 0 ∨ s.pb = 4) ∧ (1 ≤ s.refs ∧ s.refs ≤ 8) ∧ (0 ≤ s.delay ∧ s.delay ≤ s.refs) ∧ (s.pt ≠ 2 ∨ s.delay = 0)
instance (s : Sp) : Decidable (SpOk s) := by unfold SpOk; infer_instance
def maySp (s : Sp) : Bool := decide (SpOk s)
theorem maySp_iff (s : Sp) : maySp s = true ↔ SpOk s := decide_eq_true_iff
theorem maySp_no (s : Sp) (h : ¬ SpOk s) : maySp s = false := decide_eq_false h
def PpOk (p : Pp) : Prop := (0 ≤ p.bipred ∧ p.bipred ≤ 2) ∧ (0 ≤ p.qp ∧ p.qp ≤ 51) ∧ (-12 ≤ p.cqp ∧ p.cqp ≤ 12) ∧ (1 ≤ p.a0 ∧ p.a0 ≤ 8) ∧ (1 ≤ p.a1 ∧ p.a1 ≤ 8)
instance (p : Pp) : Decidable (PpOk p) := by unfold PpOk; infer_instance
def mayPp (p : Pp) : Bool := decide (PpOk p)
theorem mayPp_iff (p : Pp) : mayPp p = true ↔ PpOk p := decide_eq_true_iff

/-- the bits -/
def cyL (l : List Int) : List Bool := l.flatMap seL
theorem cyL_snoc (l : List Int) (x : Int) : cyL (l ++ [x]) = cyL l ++ seL x := by simp [cyL]
def mid (s : Sp) : List Bool := if s.pt = 0 then ueL (s.pb - 4).toNat else if s.pt = 1 then seL s.nr ++ ueL s.cy.length ++ cyL s.cy else []
def spL (s : Sp) : List Bool := ueL (s.wide - 1).toNat ++ ueL (s.high - 1).toNat ++ ueL (s.fb - 4).toNat ++ ueL s.pt.toNat ++ mid s ++ ueL s.refs.toNat ++ ueL s.delay.toNat
def ppL (p : Pp) : List Bool := [p.cabac] ++ [p.weighted] ++ dig p.bipred.toNat 2 ++ ueL p.qp.toNat ++ seL p.cqp ++ [p.con] ++ [p.deb] ++ ueL (p.a0 - 1).toNat ++ ueL (p.a1 - 1).toNat
def putSpE (s : Sp) : Int := if maySp s = true then 0 else 301
def putSpS (s : Sp) : ByteArray := if maySp s = true then packS (trL (spL s)) else ByteArray.empty
def putPpE (p : Pp) : Int := if mayPp p = true then 0 else 301
def putPpS (p : Pp) : ByteArray := if mayPp p = true then packS (trL (ppL p)) else ByteArray.empty

/-- where a reader stands, and whether a field was none -/
structure St where
  a : Nat
  bad : Bool
def neB (e : Nat) : Bool := ((e : Int) != 0)
theorem neB_iff (e : Nat) : neB e = true ↔ e ≠ 0 := by unfold neB; simp
theorem neB_no (e : Nat) : neB e = false ↔ e = 0 := by unfold neB; simp
section
variable (f : Nat → Bool) (N : Nat)
def ueS (s : St) : St := ⟨(ueR f N s.a).at_, s.bad || neB (ueR f N s.a).e⟩
def ueX (s : St) : Int := (ueR f N s.a).x
def seX (s : St) : Int := (seR f N s.a).x
def btS (n : Int) (s : St) : St := ⟨(bitsR f N s.a n).at_, s.bad || neB (bitsR f N s.a n).e⟩
def btX (n : Int) (s : St) : Int := (bitsR f N s.a n).x
/-- the numbers of a cycle -/
def cyS : Nat → St → St
  | 0, s => s
  | k + 1, s => ueS f N (cyS k s)
def cyX : Nat → St → List Int
  | 0, s => []
  | k + 1, s => cyX k s ++ [seX f N (cyS f N k s)]
theorem cyX_len : ∀ (k : Nat) (s : St), (cyX f N k s).length = k
  | 0, s => rfl
  | k + 1, s => by simp [cyX, cyX_len k s]
/-- behind a failed number all are none -/
def Good (s : St) : Prop := s.a ≤ N ∧ (s.bad = true → (ueR f N s.a).e ≠ 0)
variable {f N}
theorem Good.ue {s : St} (h : Good f N s) : Good f N (ueS f N s) := by
  have hb := ueR_bd f N s.a h.1
  refine ⟨hb.2.2.2.1, fun q => ?_⟩
  show (ueR f N (ueR f N s.a).at_).e ≠ 0
  have hne : (ueR f N s.a).e ≠ 0 := by
    have q' : (s.bad || neB (ueR f N s.a).e) = true := q
    rcases Bool.or_eq_true _ _ ▸ q' with q1 | q1
    · exact h.2 q1
    · exact (neB_iff _).1 q1
  rcases hb.2.2.2.2 with h0 | ⟨_, h1, _⟩
  · exact absurd h0 hne
  · rw [h1]; exact hne
theorem Good.x0 {s : St} (h : Good f N s) (hb : s.bad = true) : ueX f N s = 0 ∧ seX f N s = 0 ∧ ueS f N s = s := by
  have hbd := ueR_bd f N s.a h.1
  rcases hbd.2.2.2.2 with h0 | ⟨h0, h1, _⟩
  · exact absurd h0 (h.2 hb)
  · refine ⟨h0, ?_, ?_⟩
    · show sgn (ueR f N s.a).x = 0
      rw [h0]; rfl
    · obtain ⟨a, b⟩ := s
      simp only at hb h1
      subst hb
      show (⟨(ueR f N a).at_, true || neB (ueR f N a).e⟩ : St) = ⟨a, true⟩
      rw [h1, Bool.true_or]
theorem Good.cy {s : St} (h : Good f N s) : ∀ k, Good f N (cyS f N k s)
  | 0 => h
  | k + 1 => (h.cy k).ue
theorem Good.bd {s : St} (h : Good f N s) : 0 ≤ ueX f N s ∧ ueX f N s ≤ 2147483646 ∧ -1073741823 ≤ seX f N s ∧ seX f N s ≤ 1073741823 := by
  have hbd := ueR_bd f N s.a h.1
  refine ⟨hbd.1, hbd.2.1, ?_, ?_⟩
  · show _ ≤ sgn (ueR f N s.a).x
    unfold sgn; split <;> omega
  · show sgn (ueR f N s.a).x ≤ _
    unfold sgn; split <;> omega
variable (f N)

/-- a sequence's parameters, read: the end -/
def finSp (s : Sp) (t : St) : Sp × Int :=
  if (ueS f N (ueS f N t)).bad = true ∨ (trailR f N (ueS f N (ueS f N t)).a).1 ≠ 0 then (.zero, 300)
  else if maySp { s with refs := ueX f N t, delay := ueX f N (ueS f N t) } = true then ({ s with refs := ueX f N t, delay := ueX f N (ueS f N t) }, 0) else (.zero, 301)
def u1 : St := ueS f N ⟨0, false⟩
def u2 : St := ueS f N (u1 f N)
def u3 : St := ueS f N (u2 f N)
def u4 : St := ueS f N (u3 f N)
def u5 : St := ueS f N (u4 f N)
def u6 : St := ueS f N (u5 f N)
def hdSp : Sp := ⟨ueX f N ⟨0, false⟩ + 1, ueX f N (u1 f N) + 1, ueX f N (u2 f N) + 4, ueX f N (u3 f N), 4, 0, [], 0, 0⟩
/-- too many numbers of a cycle -/
def overSp : Bool := ueX f N (u3 f N) == 1 && !(u6 f N).bad && decide (4 < ueX f N (u5 f N))
def getSp : Sp × Int :=
  if ueX f N (u3 f N) = 0 then finSp f N { hdSp f N with pb := ueX f N (u4 f N) + 4 } (u5 f N)
  else if ueX f N (u3 f N) = 1 then
    if (u6 f N).bad = false ∧ 4 < ueX f N (u5 f N) then (.zero, 301)
    else finSp f N { hdSp f N with nr := seX f N (u4 f N), cy := cyX f N (ueX f N (u5 f N)).toNat (u6 f N) } (cyS f N (ueX f N (u5 f N)).toNat (u6 f N))
  else finSp f N (hdSp f N) (u4 f N)
end
end Go.Proofs.YtjokibagciehlaaGreat
