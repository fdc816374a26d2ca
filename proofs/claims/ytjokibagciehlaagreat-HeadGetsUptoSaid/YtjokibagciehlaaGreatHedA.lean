/- Headers: rows of structs; in, weighted, has. -/
import Derived.Test.YtjokibagciehlaaGreatHedP
import Derived.Test.YtjokibagciehlaaGreatParC
import Derived.Test.YtjokibagciehlaaGreatStructs
namespace Go.Proofs.YtjokibagciehlaaGreat
open Go.RowKit
set_option linter.unusedVariables false
set_option linter.unusedSimpArgs false

/-- a row of structs of C cells in memory -/
def RwAt {α : Type} (w : World) (B : Nat) (A : Option Addr) (C : Nat) (f : α → Nat → Value) (l : List α) : Prop :=
  0 < l.length → ∃ ad, A = some ad ∧ ad.block < B ∧ ∀ k (hk : k < l.length), w.cell? (ad.add (k * C)) = some (f l[k] 0) ∧ ∀ j, 0 < j → j < C → w.cell? ⟨(ad.add (k * C)).block, (ad.add (k * C)).off + j, none⟩ = some (f l[k] j)
section
variable {α : Type} {w w' : World} {B B' C : Nat} {A : Option Addr} {f : α → Nat → Value} {l : List α}
theorem RwAt.keep (h : RwAt w B A C f l) (hk : ∀ p : Addr, p.block < B → w'.cell? p = w.cell? p) : RwAt w' B A C f l := fun hn => by
  obtain ⟨ad, e, hb, hc⟩ := h hn
  have hl : ∀ j, (ad.add j).block < B := fun j => by rw [block_add]; exact hb
  exact ⟨ad, e, hb, fun k hkk => ⟨(hk _ (hl _)).trans (hc k hkk).1, fun j h0 hj => (hk ⟨(ad.add (k * C)).block, _, none⟩ (hl _)).trans ((hc k hkk).2 j h0 hj)⟩⟩
theorem RwAt.below (h : RwAt w B A C f l) (hb : Below B' w w') (hB : B ≤ B') : RwAt w' B A C f l := h.keep fun p hp => hb.cell (Nat.lt_of_lt_of_le hp hB)
theorem RwAt.more (h : RwAt w B A C f l) (hB : B ≤ B') : RwAt w B' A C f l := fun hn => by
  obtain ⟨ad, e, hb, hc⟩ := h hn
  exact ⟨ad, e, Nat.lt_of_lt_of_le hb hB, hc⟩
theorem RwAt.go (h : RwAt w w.heap.size A C f l) (hb : Below w.heap.size w w') : RwAt w' w'.heap.size A C f l := (h.below hb (Nat.le_refl _)).more hb.size
theorem RwAt.past (h : RwAt w w.heap.size A C f l) (o : Obj) : RwAt (w.alloc o) (w.alloc o).heap.size A C f l := h.go ((Below.refl _ _).alloc (Nat.le_refl _) o)
theorem RwAt.nil (w : World) (B : Nat) (A : Option Addr) (C : Nat) (f : α → Nat → Value) : RwAt w B A C f [] := fun h => by simp at h
end
def mdF (m : Md) (j : Nat) : Value := match j with | 0 => .int .i64 m.k | _ => .int .i64 m.v
def wtF (x : Wt) (j : Nat) : Value := match j with | 0 => .int .i64 x.s0 | 1 => .int .i64 x.s1 | 2 => .int .i64 x.s2 | 3 => .int .i64 x.o0 | 4 => .int .i64 x.o1 | _ => .int .i64 x.o2
def moF (m : Mo) (j : Nat) : Value := match j with | 0 => .int .i64 m.k | 1 => .int .i64 m.a | _ => .int .i64 m.b

set_option maxRecDepth 100000 in
theorem hin_any (x l h : Int) (w : World) : Calls Tryz.prog 42 #[.int .i64 x, .int .i64 l, .int .i64 h] w fun e w' => e = .returned (.bool (inR l h x)) ∧ w = w' := by
  by_cases h1 : l ≤ x
  · by_cases h2 : x ≤ h
    · rw [inR_yes ⟨h1, h2⟩]
      go_enter Tryz.func42, Tryz.ntmps42
      go_wp2_with fail
      go_ret
      exact ⟨rfl, rfl⟩
    · rw [inR_no (fun q => h2 q.2)]
      go_enter Tryz.func42, Tryz.ntmps42
      go_wp2_with fail
      go_ret
      exact ⟨rfl, rfl⟩
  · rw [inR_no (fun q => h1 q.1)]
    go_enter Tryz.func42, Tryz.ntmps42
    go_wp2_with fail
    go_ret
    exact ⟨rfl, rfl⟩
set_option maxRecDepth 100000 in
theorem wgt_any (t : Int) (p : Pp) (w : World) : Calls Tryz.prog 86 #[.int .i64 t, .agg (ppV p)] w fun e w' => e = .returned (.bool (wgt t p)) ∧ Below w.heap.size w w' := by
  obtain ⟨p0, p1, p2, p3, p4, p5, p6, p7, p8⟩ := p
  have HB := Lib.hid ((Below.refl w.heap.size w).alloc (Nat.le_refl _) (.cells (ppV ⟨p0, p1, p2, p3, p4, p5, p6, p7, p8⟩) 31))
  obtain ⟨b0, h0⟩ : ∃ b, (t == 0) = b := ⟨_, rfl⟩
  obtain ⟨b1, h1⟩ : ∃ b, (t == 1) = b := ⟨_, rfl⟩
  obtain ⟨b2, h2⟩ : ∃ b, (p2 == 1) = b := ⟨_, rfl⟩
  have hW : wgt t ⟨p0, p1, p2, p3, p4, p5, p6, p7, p8⟩ = (b0 && p1 || b1 && b2) := by unfold wgt; rw [h0, h1, h2]
  rw [hW]
  clear hW
  simp only [ppV] at *
  cases b0 <;> cases p1 <;> cases b1 <;> cases b2
  all_goals
    go_enter Tryz.func86, Tryz.ntmps86
    go_wp2_with fail
    go_ret
    exact ⟨rfl, HB.out⟩
set_option maxRecDepth 100000 in
theorem has_any2 (k : Int) (w : World) : Calls Tryz.prog 88 #[.int .i64 k] w fun e w' => e = .returned (.tuple #[.bool (hasA k), .bool (hasB k)]) ∧ w = w' := by
  by_cases h1 : k = 1
  · subst h1; go_enter Tryz.func88, Tryz.ntmps88; go_wp2_with fail; go_ret2; exact ⟨rfl, rfl⟩
  by_cases h2 : k = 2
  · subst h2; go_enter Tryz.func88, Tryz.ntmps88; go_wp2_with fail; go_ret2; exact ⟨rfl, rfl⟩
  by_cases h4 : k = 4
  · subst h4; go_enter Tryz.func88, Tryz.ntmps88; go_wp2_with fail; go_ret2; exact ⟨rfl, rfl⟩
  by_cases h6 : k = 6
  · subst h6; go_enter Tryz.func88, Tryz.ntmps88; go_wp2_with fail; go_ret2; exact ⟨rfl, rfl⟩
  by_cases h3 : k = 3
  · subst h3; go_enter Tryz.func88, Tryz.ntmps88; go_wp2_with fail; go_ret2; exact ⟨rfl, rfl⟩
  have e1 : (k == 1) = false := by simp; exact h1
  have e2 : (k == 2) = false := by simp; exact h2
  have e3 : (k == 3) = false := by simp; exact h3
  have e4 : (k == 4) = false := by simp; exact h4
  have e6 : (k == 6) = false := by simp; exact h6
  have hA : hasA k = false := by unfold hasA; rw [e1, e2, e3, e4, e6]; rfl
  have hB : hasB k = false := by unfold hasB; exact e3
  rw [hA, hB]
  clear hA hB h1 h2 h3 h4 h6
  go_enter Tryz.func88, Tryz.ntmps88
  go_wp2_with fail
  go_ret2
  exact ⟨rfl, rfl⟩
end Go.Proofs.YtjokibagciehlaaGreat
