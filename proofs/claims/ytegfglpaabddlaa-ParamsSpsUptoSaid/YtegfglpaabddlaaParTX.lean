/- GetSps: lemmas for its walk. GetSps: the walk, PocType 0. Printed by gen-getsps.py. GetSps: the walk, another PocType. Printed by gen-getsps.py. GetSps: the walk, PocType 1. Printed by gen-getsps.py. GetSps: every text. -/
import Derived.Test.YtegfglpaabddlaaParS
namespace Go.Proofs.Ytegfglpaabddlaa
open Go.RowKit
set_option linter.unusedVariables false
set_option linter.unusedSimpArgs false

section
variable {w w' : World} {h g O B : Nat} {s : ByteArray} {t t' : St} {p : Sp} {v : Value}
theorem rg_ueE {x : Int} (H : RG w h g s t) (hs : s.size ≤ 140737488351232) (ha : t.a ≤ 8 * s.size) (hx : ueX (sbit s) (8 * s.size) t = x) (ht : ueS (sbit s) (8 * s.size) t = t') :
    Calls Try.prog 39 #[.pointer (some ⟨h, 0, none⟩)] w fun r w' => r = .returned (.int .i64 x) ∧ RG w' h g s t' ∧ Touch (RGS h g) w w' := by
  subst hx ht; exact rg_ue H hs ha
theorem rg_seE {x : Int} (H : RG w h g s t) (hs : s.size ≤ 140737488351232) (ha : t.a ≤ 8 * s.size) (hx : seX (sbit s) (8 * s.size) t = x) (ht : ueS (sbit s) (8 * s.size) t = t') :
    Calls Try.prog 40 #[.pointer (some ⟨h, 0, none⟩)] w fun r w' => r = .returned (.int .i64 x) ∧ RG w' h g s t' ∧ Touch (RGS h g) w w' := by
  subst hx ht; exact rg_se H hs ha
theorem rg_overE {b : Bool} (H : RG w h g s t) (hs : s.size ≤ 140737488351232) (ha : t.a ≤ 8 * s.size) (hb : (!t.bad && ((trailR (sbit s) (8 * s.size) t.a).1 : Int) == 0) = b) :
    Calls Try.prog 43 #[.pointer (some ⟨h, 0, none⟩)] w fun r w' => r = .returned (.bool b) ∧ Touch (RGS h g) w w' := by
  subst hb; exact rg_over H hs ha
theorem GR.after (H : GR w h g O B s t p v) (ht : Touch (RGS h g) w w') : Bk w' O 24 (spC p v) ∧ w'.ownsRow B 3 1 v p.cy.length (cyV p.cy) :=
  ⟨H.bk.touch ht (fun q => by rcases q with q | q; exact H.oh q; exact H.og q), own_touch H.own ht (fun k hk q => by rcases q with q | q; exact (H.vr k hk).1 q; exact (H.vr k hk).2.1 q)⟩
end
section
variable {f : Nat → Bool} {N : Nat}
theorem Good.start : Good f N ⟨0, false⟩ := ⟨Nat.zero_le _, fun q => by cases q⟩
/-- the next number -/
theorem Good.next {t : St} (g : Good f N t) : ∃ x t', ueX f N t = x ∧ ueS f N t = t' ∧ (0 ≤ x ∧ x ≤ 2147483646) ∧ Good f N t' :=
  ⟨_, _, rfl, rfl, ⟨g.bd.1, g.bd.2.1⟩, g.ue⟩
theorem Good.nextS {t : St} (g : Good f N t) : ∃ x t', seX f N t = x ∧ ueS f N t = t' ∧ (-1073741823 ≤ x ∧ x ≤ 1073741823) ∧ Good f N t' :=
  ⟨_, _, rfl, rfl, ⟨g.bd.2.2.1, g.bd.2.2.2⟩, g.ue⟩
theorem finSp_form {p : Sp} {t t1 t2 : St} {x y : Int} {b : Bool} (e1 : ueX f N t = x) (e2 : ueS f N t = t1) (e3 : ueX f N t1 = y) (e4 : ueS f N t1 = t2) (hb : (!t2.bad && ((trailR f N t2.a).1 : Int) == 0) = b) :
    finSp f N p t = if b = false then (.zero, 300) else if maySp { p with refs := x, delay := y } = true then ({ p with refs := x, delay := y }, 0) else (.zero, 301) := by
  subst e1 e2 e3 e4 hb
  unfold finSp
  cases hq : (ueS f N (ueS f N t)).bad
  · by_cases h : (trailR f N (ueS f N (ueS f N t)).a).1 = 0
    · exact (if_neg (by rintro (q | q); cases q; exact q h)).trans (if_neg (by rw [h]; decide)).symm
    · rw [if_pos (.inr h), if_pos (by rw [Bool.not_false, Bool.true_and]; exact beq_false_of_ne (by omega))]
  · rw [if_pos (.inl rfl), if_pos (by simp)]
/-- getSp by its first numbers -/
theorem getSp_form (x0 x1 x2 x3 : Int) (t1 t2 t3 t4 : St) (e0 : ueX f N ⟨0, false⟩ = x0) (f1 : ueS f N ⟨0, false⟩ = t1) (e1 : ueX f N t1 = x1) (f2 : ueS f N t1 = t2) (e2 : ueX f N t2 = x2) (f3 : ueS f N t2 = t3) (e3 : ueX f N t3 = x3) (f4 : ueS f N t3 = t4) :
    (∀ x4 t5, x3 = 0 → ueX f N t4 = x4 → ueS f N t4 = t5 → getSp f N = finSp f N ⟨x0 + 1, x1 + 1, x2 + 4, x3, x4 + 4, 0, [], 0, 0⟩ t5) ∧
    (∀ x4 t5 n t6, x3 = 1 → seX f N t4 = x4 → ueS f N t4 = t5 → ueX f N t5 = n → ueS f N t5 = t6 →
      getSp f N = if t6.bad = false ∧ 4 < n then (.zero, 301) else finSp f N ⟨x0 + 1, x1 + 1, x2 + 4, x3, 4, x4, cyX f N n.toNat t6, 0, 0⟩ (cyS f N n.toNat t6)) ∧
    (¬ x3 = 0 → ¬ x3 = 1 → getSp f N = finSp f N ⟨x0 + 1, x1 + 1, x2 + 4, x3, 4, 0, [], 0, 0⟩ t4) := by
  subst e0 f1 e1 f2 e2 f3 e3 f4
  refine ⟨fun x4 t5 h e4 f5 => ?_, fun x4 t5 n t6 h e4 f5 e5 f6 => ?_, fun h1 h2 => ?_⟩
  · subst e4 f5
    unfold getSp
    exact if_pos h
  · subst e4 f5 e5 f6
    unfold getSp
    exact (if_neg (by show ¬ ueX f N (ueS f N (ueS f N (ueS f N ⟨0, false⟩))) = 0; omega)).trans (if_pos h)
  · unfold getSp
    exact (if_neg h1).trans (if_neg h2)
/-- behind a bad number nothing is read -/
theorem Good.n0 {t4 t5 t6 : St} {n : Int} (g : Good f N t4) (f5 : ueS f N t4 = t5) (e5 : ueX f N t5 = n) (f6 : ueS f N t5 = t6) (hb : t6.bad = true) : n = 0 := by
  subst f5 e5 f6
  cases h : (ueS f N t4).bad
  · have hbd := ueR_bd f N (ueS f N t4).a g.ue.1
    have hb' : ((ueS f N t4).bad || neB (ueR f N (ueS f N t4).a).e) = true := hb
    rw [h, Bool.false_or] at hb'
    rcases hbd.2.2.2.2 with h0 | ⟨h0, _⟩
    · exact absurd h0 ((neB_iff _).1 hb')
    · exact h0
  · exact (g.ue.x0 h).1
end
theorem Touch.put1s {w w' : World} {g : Nat} (h : Touch (fun k => k = g) w w') (i : Nat) (u : Value) : Touch (fun k => k = g) w (w'.setCell ⟨g, i, none⟩ u) :=
  h.setCell (p := ⟨g, i, none⟩) (fun _ => rfl) u
theorem sps_put {w : World} {M : Nat} {p0 : Sp} {v0 : Value} (p : Sp) (v : Value) (hb : Bk w M 24 (spC p0 v0)) : Bk (((((((((w.setCell ⟨M, 0, none⟩ (.int .i64 p.wide)).setCell ⟨M, 1, none⟩ (.int .i64 p.high)).setCell ⟨M, 2, none⟩ (.int .i64 p.fb)).setCell ⟨M, 3, none⟩ (.int .i64 p.pt)).setCell ⟨M, 4, none⟩ (.int .i64 p.pb)).setCell ⟨M, 5, none⟩ (.int .i64 p.nr)).setCell ⟨M, 6, none⟩ v).setCell ⟨M, 7, none⟩ (.int .i64 p.refs)).setCell ⟨M, 8, none⟩ (.int .i64 p.delay)) M 24 (spC p v) ∧ Touch (fun k => k = M) w (((((((((w.setCell ⟨M, 0, none⟩ (.int .i64 p.wide)).setCell ⟨M, 1, none⟩ (.int .i64 p.high)).setCell ⟨M, 2, none⟩ (.int .i64 p.fb)).setCell ⟨M, 3, none⟩ (.int .i64 p.pt)).setCell ⟨M, 4, none⟩ (.int .i64 p.pb)).setCell ⟨M, 5, none⟩ (.int .i64 p.nr)).setCell ⟨M, 6, none⟩ v).setCell ⟨M, 7, none⟩ (.int .i64 p.refs)).setCell ⟨M, 8, none⟩ (.int .i64 p.delay)) := by
  have h9 := (((((((((hb.set_ 0 (.int .i64 p.wide)).set_ 1 (.int .i64 p.high)).set_ 2 (.int .i64 p.fb)).set_ 3 (.int .i64 p.pt)).set_ 4 (.int .i64 p.pb)).set_ 5 (.int .i64 p.nr)).set_ 6 v).set_ 7 (.int .i64 p.refs)).set_ 8 (.int .i64 p.delay))
  have e : ((((((((((spC p0 v0).setIfInBounds 0 (.int .i64 p.wide)).setIfInBounds 1 (.int .i64 p.high)).setIfInBounds 2 (.int .i64 p.fb)).setIfInBounds 3 (.int .i64 p.pt)).setIfInBounds 4 (.int .i64 p.pb)).setIfInBounds 5 (.int .i64 p.nr)).setIfInBounds 6 v).setIfInBounds 7 (.int .i64 p.refs)).setIfInBounds 8 (.int .i64 p.delay)) = spC p v := by simp [spC]
  rw [e] at h9
  exact ⟨h9, (((((((((Touch.refl (fun k => k = M) w).put1s 0 _).put1s 1 _).put1s 2 _).put1s 3 _).put1s 4 _).put1s 5 _).put1s 6 _).put1s 7 _).put1s 8 _⟩
/-- the answer of GetSps -/
def GPost (V : Sp × Int) (w : World) (e : Ending) (w' : World) : Prop :=
  ∃ v, e = .returned (.tuple #[.agg (spC V.1 v), .int .i64 V.2]) ∧ w'.ownsRow w.heap.size 3 1 v V.1.cy.length (cyV V.1.cy) ∧ Below w.heap.size w w'
theorem GPost.mk {V : Sp × Int} {w w' : World} {e : Ending} (v : Value) (h1 : e = .returned (.tuple #[.agg (spC V.1 v), .int .i64 V.2])) (h2 : w'.ownsRow w.heap.size 3 1 v V.1.cy.length (cyV V.1.cy)) (h3 : Below w.heap.size w w') : GPost V w e w' := ⟨v, h1, h2, h3⟩
theorem cyV_range (l : List Int) : cyV l = (List.range l.length).map fun k => .int .i64 (l.getD k 0) := by
  apply List.ext_getElem (by simp [cyV])
  intro i h1 h2
  simp [cyV] at h1 ⊢
  rw [List.getElem?_eq_getElem h1]; rfl
theorem SpAt.of_own {w : World} {B : Nat} {p : Sp} {A : Option Addr} {c : Nat} (h : w.ownsRow B 3 1 (.slice A p.cy.length c) p.cy.length (cyV p.cy)) : SpAt w w.heap.size p A := by
  rw [cyV_range] at h
  obtain ⟨A', c', q, _, _, h1⟩ := Ri.of_own h
  injection q with q1 q2 q3
  subst q1
  exact h1
theorem own_nil_int (w : World) (B : Nat) : w.ownsRow B 3 1 (.slice none 0 0) 0 (cyV []) := ⟨rfl, .inl ⟨rfl, rfl⟩⟩
/-- a frame of which seven slots have turned -/
def put7 (a : Act) (lo : Nat) (y0 y1 y2 y3 y4 y5 y6 : Value) : Act :=
  ⟨((((((a.tmps.setIfInBounds lo y0).setIfInBounds (lo + 1) y1).setIfInBounds (lo + 2) y2).setIfInBounds (lo + 3) y3).setIfInBounds (lo + 4) y4).setIfInBounds (lo + 5) y5).setIfInBounds (lo + 6) y6, a.defers⟩
theorem ev_tmp (t : Array Value) (d : List Deferred) (i : Nat) (h : i < t.size) : (Act.mk t d).eval (.tmp i) = t[i] := by
  show t.getD i undef = t[i]
  rw [Array.getD_eq_getD_getElem?, Array.getElem?_eq_getElem h, Option.getD_some]
theorem arr_back {ta t0 : Array Value} (lo : Nat) (hs : ta.size = t0.size) (hl : lo + 7 ≤ t0.size) (h : ∀ i (h1 : i < ta.size) (h2 : i < t0.size), (i < lo ∨ lo + 7 ≤ i) → ta[i] = t0[i]) :
    ∃ y0 y1 y2 y3 y4 y5 y6 : Value, ta = ((((((t0.setIfInBounds lo y0).setIfInBounds (lo + 1) y1).setIfInBounds (lo + 2) y2).setIfInBounds (lo + 3) y3).setIfInBounds (lo + 4) y4).setIfInBounds (lo + 5) y5).setIfInBounds (lo + 6) y6 := by
  refine ⟨ta[lo]'(by omega), ta[lo + 1]'(by omega), ta[lo + 2]'(by omega), ta[lo + 3]'(by omega), ta[lo + 4]'(by omega), ta[lo + 5]'(by omega), ta[lo + 6]'(by omega), ?_⟩
  apply Array.ext_getElem?
  intro i
  have hh : (i < lo ∨ lo + 7 ≤ i) → ta[i]? = t0[i]? := fun q => by
    by_cases h2 : i < t0.size
    · rw [Array.getElem?_eq_getElem (by omega : i < ta.size), Array.getElem?_eq_getElem h2, h i (by omega) h2 q]
    · rw [Array.getElem?_eq_none (by omega : ta.size ≤ i), Array.getElem?_eq_none (by omega : t0.size ≤ i)]
  clear h
  simp only [Array.getElem?_setIfInBounds, Array.size_setIfInBounds]
  by_cases q6 : lo + 6 = i
  · subst q6; rw [if_pos rfl, if_pos (by omega), Array.getElem?_eq_getElem (by omega)]
  rw [if_neg q6]
  by_cases q5 : lo + 5 = i
  · subst q5; rw [if_pos rfl, if_pos (by omega), Array.getElem?_eq_getElem (by omega)]
  rw [if_neg q5]
  by_cases q4 : lo + 4 = i
  · subst q4; rw [if_pos rfl, if_pos (by omega), Array.getElem?_eq_getElem (by omega)]
  rw [if_neg q4]
  by_cases q3 : lo + 3 = i
  · subst q3; rw [if_pos rfl, if_pos (by omega), Array.getElem?_eq_getElem (by omega)]
  rw [if_neg q3]
  by_cases q2 : lo + 2 = i
  · subst q2; rw [if_pos rfl, if_pos (by omega), Array.getElem?_eq_getElem (by omega)]
  rw [if_neg q2]
  by_cases q1 : lo + 1 = i
  · subst q1; rw [if_pos rfl, if_pos (by omega), Array.getElem?_eq_getElem (by omega)]
  rw [if_neg q1]
  by_cases q0 : lo = i
  · subst q0; rw [if_pos rfl, if_pos (by omega), Array.getElem?_eq_getElem (by omega)]
  rw [if_neg q0]
  exact hh (by omega)
theorem act_back {a a0 : Act} (lo : Nat) (hs : a.tmps.size = a0.tmps.size) (hd : a.defers = a0.defers) (hl : lo + 7 ≤ a0.tmps.size) (h : ∀ t, t < a0.tmps.size → (t < lo ∨ lo + 7 ≤ t) → a.eval (.tmp t) = a0.eval (.tmp t)) :
    ∃ y0 y1 y2 y3 y4 y5 y6 : Value, a = put7 a0 lo y0 y1 y2 y3 y4 y5 y6 := by
  obtain ⟨y0, y1, y2, y3, y4, y5, y6, e⟩ := arr_back lo hs hl (fun i h1 h2 q => by
    have := h i h2 q
    rw [ev_tmp _ _ _ h1, ev_tmp _ _ _ h2] at this
    exact this)
  obtain ⟨ta, da⟩ := a
  refine ⟨y0, y1, y2, y3, y4, y5, y6, ?_⟩
  unfold put7
  rw [← e, ← hd]
theorem fst_of (L : List Nat) (e : Nat → Value) : (L.map fun t => (t, e t)).map Prod.fst = L := by
  rw [List.map_map]
  exact List.map_id L
theorem with_act {P : Program} {c : Code} {Q : Exit → Act → World → Prop} {w : World} {a : Act} (h : ∀ a0, a0 = a → c.wp P Q a0 w) : c.wp P Q a w := h a rfl
/-- the region that reads a number and lays it behind the cycle: what holds when so many of its operations are done -/
def gsW (wz : World) (R h g O B : Nat) (s : ByteArray) (t t' : St) (p : Sp) (v : Value) (x : Int) (b m : Nat) (k : Nat) (e : Nat → Value) (w : World) : Prop :=
  Below wz.heap.size wz w ∧ Bk w R 24 (spC .zero (.slice none 0 0)) ∧
  (k = 0 → GR w h g O B s t p v) ∧ (k = 1 → GR w h g O B s t' p v) ∧
  (k = 2 → GR w h g O B s t' p v ∧ ∃ M, e b = .slice (some ⟨M, 0, none⟩) 1 1 ∧ w.cell? ⟨M, 0, none⟩ = some (.int .i64 x)) ∧
  (k = 3 → (RG w h g s t' ∧ Bk w O 24 (spC p v)) ∧ w.ownsRow B 3 1 (e m) (p.cy ++ [x]).length (cyV (p.cy ++ [x])) ∧ (∀ k, (e m).ownBlock = some k → k ≠ h ∧ k ≠ g ∧ k ≠ O) ∧ ∀ k, (e m).ownBlock = some k → k < w.heap.size) ∧
  (k = 4 → ∃ v', GR w h g O B s t' { p with cy := p.cy ++ [x] } v')
theorem gsW.bk {wz w : World} {R h g O B : Nat} {s : ByteArray} {t t' : St} {p : Sp} {v : Value} {x : Int} {b m k : Nat} {e : Nat → Value} (H : gsW wz R h g O B s t t' p v x b m k e w) (hk : k ≤ 3) : Bk w O 24 (spC p v) := by
  obtain ⟨_, _, h0, h1, h2, h3, _⟩ := H
  match k, hk with
  | 0, _ => exact (h0 rfl).bk
  | 1, _ => exact (h1 rfl).bk
  | 2, _ => exact (h2 rfl).1.bk
  | 3, _ => exact (h3 rfl).1.2
theorem gsW.looks (wz : World) (R h g O B : Nat) (s : ByteArray) (t t' : St) (p : Sp) (v : Value) (x : Int) (b m : Nat) : Looks [b, m] (gsW wz R h g O B s t t' p v x b m) := by
  intro k e e' w he H
  obtain ⟨g1, g2, h0, h1, h2, h3, h4⟩ := H
  refine ⟨g1, g2, h0, h1, fun q => ?_, fun q => ?_, h4⟩
  · rw [← he b (by simp)]; exact h2 q
  · rw [← he m (by simp)]; exact h3 q
theorem stg_lt {cs : List Nat} {L : Array Bool} {c : Nat} (hc : c ∈ cs) (h : L.getD c false = false) : stg cs L < cs.length := by
  unfold stg
  exact List.length_filter_lt_length_iff_exists.2 ⟨c, hc, by simp [h]⟩
def gsFx (a0 : Act) (lo sz : Nat) : List (Nat × Value) := ((List.range sz).filter fun t => decide (t < lo ∨ lo + 7 ≤ t)).map fun t => (t, a0.eval (.tmp t))
theorem gsFx_mem {a0 : Act} {lo sz : Nat} {p : Nat × Value} (h : p ∈ gsFx a0 lo sz) : p.2 = a0.eval (.tmp p.1) := by
  unfold gsFx at h
  obtain ⟨t, _, rfl⟩ := List.mem_map.1 h
  rfl
theorem gsFx_in {a0 : Act} {lo sz t : Nat} (h : t < sz) (hl : t < lo ∨ lo + 7 ≤ t) : (t, a0.eval (.tmp t)) ∈ gsFx a0 lo sz :=
  List.mem_map.2 ⟨t, List.mem_filter.2 ⟨List.mem_range.2 h, decide_eq_true hl⟩, rfl⟩
theorem gsFx_fst (a0 : Act) (lo sz : Nat) : (gsFx a0 lo sz).map Prod.fst = (List.range sz).filter fun t => decide (t < lo ∨ lo + 7 ≤ t) := fst_of _ _
end Go.Proofs.Ytegfglpaabddlaa

namespace Go.Proofs.Ytegfglpaabddlaa
open Go.RowKit
set_option linter.unusedVariables false
set_option linter.unusedSimpArgs false

set_option maxRecDepth 100000 in
set_option maxHeartbeats 6400000 in
theorem getsp_0 (s : ByteArray) (w : World) (hs : s.size ≤ 140737488351232) (x0 x1 x2 x3 : Int) (t1 t2 t3 t4 : St) (e0 : ueX (sbit s) (8 * s.size) ⟨0, false⟩ = x0) (f1 : ueS (sbit s) (8 * s.size) ⟨0, false⟩ = t1) (e1 : ueX (sbit s) (8 * s.size) t1 = x1) (f2 : ueS (sbit s) (8 * s.size) t1 = t2) (e2 : ueX (sbit s) (8 * s.size) t2 = x2) (f3 : ueS (sbit s) (8 * s.size) t2 = t3) (e3 : ueX (sbit s) (8 * s.size) t3 = x3) (f4 : ueS (sbit s) (8 * s.size) t3 = t4)
    (b0 : 0 ≤ x0 ∧ x0 ≤ 2147483646) (b1 : 0 ≤ x1 ∧ x1 ≤ 2147483646) (b2 : 0 ≤ x2 ∧ x2 ≤ 2147483646) (g1 : Good (sbit s) (8 * s.size) t1) (g2 : Good (sbit s) (8 * s.size) t2) (g3 : Good (sbit s) (8 * s.size) t3) (g4 : Good (sbit s) (8 * s.size) t4) (hx : x3 = 0) (VV : Sp × Int) (hVV : VV = getSp (sbit s) (8 * s.size)) :
    Calls Try.prog 13 #[.string s] w (GPost VV w) := by
  have hF := getSp_form x0 x1 x2 x3 t1 t2 t3 t4 e0 f1 e1 f2 e2 f3 e3 f4
  have HF := Lib.hid (fun x4 t5 => hF.1 x4 t5 hx)
  clear hF
  have HVV := Lib.hid hVV
  have HGD := Lib.hid (And.intro g1 (And.intro g2 (And.intro g3 g4)))
  have HE := Lib.hid (And.intro e0 (And.intro f1 (And.intro e1 (And.intro f2 (And.intro e2 (And.intro f3 (And.intro e3 f4)))))))
  clear hVV e0 f1 e1 f2 e2 f3 e3 f4 g1 g2 g3 g4
  have hR0 := Bk.new w 24 (spC .zero (.slice none 0 0))
  have hb0 := (Below.refl w.heap.size w).alloc (Nat.le_refl _) (.cells (spC .zero (.slice none 0 0)) 24)
  have HR0 := Lib.hid hR0
  have HB0 := Lib.hid hb0
  clear hR0 hb0
  go_enter Try.func13, Try.ntmps13
  go_wp2_with fail
  refine (st_open s _).mono ?_
  rintro e w1 ⟨rfl, hr⟩
  have hR1 := HR0.out.go hr.2.2
  have hb1 := HB0.out.trans (hr.2.2.mono HB0.out.size)
  have hgz := hr.1.lt
  have hR2 := hR1.alloc (.cells #[.pointer (some ⟨w.heap.size + 1, 0, none⟩), .bool false] 69)
  have hb2 := hb1.alloc hb1.size (.cells #[.pointer (some ⟨w.heap.size + 1, 0, none⟩), .bool false] 69)
  have hh2 := Bk.new w1 69 #[.pointer (some ⟨w.heap.size + 1, 0, none⟩), .bool false]
  have hg2 : Rr _ _ s 0 := Bk.alloc hr.1 (.cells #[.pointer (some ⟨w.heap.size + 1, 0, none⟩), .bool false] 69)
  rw [World.size_alloc] at hgz hg2
  obtain ⟨h, hH⟩ : ∃ h, h = w1.heap.size := ⟨_, rfl⟩
  obtain ⟨g, hG⟩ : ∃ g, g = w.heap.size + 1 := ⟨_, rfl⟩
  obtain ⟨R, hR⟩ : ∃ R, R = w.heap.size := ⟨_, rfl⟩
  have hgh : g < h := by omega
  have hRg : R < g := by omega
  have hgB : w.heap.size ≤ g := by omega
  have hhB : w.heap.size ≤ h := by omega
  have hRB : w.heap.size ≤ R := by omega
  have HRn : Hid (¬ RGS h g R) := Lib.hid (fun q => by rcases q with q | q <;> omega)
  have HBn : Hid (∀ i, i < w.heap.size → ¬ RGS h g i) := Lib.hid (fun i hi q => by rcases q with q | q <;> omega)
  have HR := Lib.hid hR2
  have HB := Lib.hid hb2
  have HH := Lib.hid hh2
  have HG := Lib.hid hg2
  clear hr hR1 hb1 hR2 hb2 hh2 hg2 hgz HR0 HB0
  go_wp2_with fail
  rw [← hG, ← hR, ← hH]
  rw [← hG] at HG HH HR HB
  rw [← hR] at HR
  rw [← hH] at HH
  generalize w1.alloc (.cells #[.pointer (some ⟨g, 0, none⟩), .bool false] 69) = w2 at HR HB HH HG ⊢
  have HEQ := Lib.hid (And.intro hH (And.intro hG hR))
  clear hH hG hR
  have H0 : Hid (RG w2 h g s ⟨0, false⟩) := Lib.hid ⟨HH.out, HG.out⟩
  clear HH HG
  refine (rg_ueE H0.out hs (Nat.zero_le _) HE.out.1 HE.out.2.1).mono ?_
  rintro e w3 ⟨rfl, q, tq⟩
  replace H0 := Lib.hid q
  replace HR := Lib.hid (HR.out.touch tq HRn.out)
  replace HB := Lib.hid (Below.touch HB.out tq HBn.out (Nat.le_refl _))
  clear q tq
  generalize w3 = w2 at H0 HR HB ⊢
  go_wp2_with fail
  refine (rg_ueE H0.out hs HGD.out.1.1 HE.out.2.2.1 HE.out.2.2.2.1).mono ?_
  rintro e w3 ⟨rfl, q, tq⟩
  replace H0 := Lib.hid q
  replace HR := Lib.hid (HR.out.touch tq HRn.out)
  replace HB := Lib.hid (Below.touch HB.out tq HBn.out (Nat.le_refl _))
  clear q tq
  generalize w3 = w2 at H0 HR HB ⊢
  go_wp2_with fail
  refine (rg_ueE H0.out hs HGD.out.2.1.1 HE.out.2.2.2.2.1 HE.out.2.2.2.2.2.1).mono ?_
  rintro e w3 ⟨rfl, q, tq⟩
  replace H0 := Lib.hid q
  replace HR := Lib.hid (HR.out.touch tq HRn.out)
  replace HB := Lib.hid (Below.touch HB.out tq HBn.out (Nat.le_refl _))
  clear q tq
  generalize w3 = w2 at H0 HR HB ⊢
  go_wp2_with fail
  refine (rg_ueE H0.out hs HGD.out.2.2.1.1 HE.out.2.2.2.2.2.2.1 HE.out.2.2.2.2.2.2.2).mono ?_
  rintro e w3 ⟨rfl, q, tq⟩
  replace H0 := Lib.hid q
  replace HR := Lib.hid (HR.out.touch tq HRn.out)
  replace HB := Lib.hid (Below.touch HB.out tq HBn.out (Nat.le_refl _))
  clear q tq
  subst hx
  have hsz := HB.out.size
  obtain ⟨O, hO⟩ : ∃ O, O = w3.heap.size := ⟨_, rfl⟩
  have hhlt := H0.out.1.lt
  have hglt := Bk.lt H0.out.2
  have hOh : O ≠ h := by omega
  have hOg : O ≠ g := by omega
  have hOR : O ≠ R := by have := HR.out.lt; omega
  have hOB : w.heap.size ≤ O := by omega
  have hhg : h ≠ g := by omega
  have HG : Hid (GR (w3.alloc (.cells (spC ⟨x0 + 1, x1 + 1, x2 + 4, 0, 4, 0, [], 0, 0⟩ (.slice none 0 0)) 24)) h g O (R + 1) s t4 ⟨x0 + 1, x1 + 1, x2 + 4, 0, 4, 0, [], 0, 0⟩ (.slice none 0 0)) := Lib.hid ⟨⟨H0.out.1.alloc _, Bk.alloc H0.out.2 _⟩, hO ▸ Bk.new w3 24 _, own_nil_int _ _, hOh, hOg, hhg, (fun k q => by simp [Value.ownBlock] at q), fun k q => by simp [Value.ownBlock] at q⟩
  have HRR := Lib.hid (HR.out.alloc (.cells (spC ⟨x0 + 1, x1 + 1, x2 + 4, 0, 4, 0, [], 0, 0⟩ (.slice none 0 0)) 24))
  have HBB := Lib.hid (HB.out.alloc HB.out.size (.cells (spC ⟨x0 + 1, x1 + 1, x2 + 4, 0, 4, 0, [], 0, 0⟩ (.slice none 0 0)) 24))
  have HOO := Lib.hid hO
  have HLT := Lib.hid (And.intro hhlt (And.intro hglt hsz))
  clear hsz hhlt hglt H0 HR HB hO
  go_wp2_with fail
  rw [← HOO.out]
  obtain ⟨x4, t5, hx_, ht_, b4, g_t5⟩ := HGD.out.2.2.2.next
  refine (rg_ueE HG.out.rg hs HGD.out.2.2.2.1 hx_ ht_).mono ?_
  rintro e w4 ⟨rfl, q, tq⟩
  replace HG := Lib.hid (HG.out.call q tq)
  replace HRR := Lib.hid (HRR.out.touch tq HRn.out)
  replace HBB := Lib.hid (Below.touch HBB.out tq HBn.out (Nat.le_refl _))
  have HFIN := Lib.hid (HVV.out.trans (HF.out x4 t5 hx_ ht_))
  have HG5 := Lib.hid g_t5
  clear hx_ ht_ q tq g_t5
  have f4 := HG.out.bk.frozen 4
  have c4 := HG.out.bk.cell 4
  simp [spC] at c4
  replace HG := Lib.hid (HG.out.put (i := 4) (u := .int .i64 (x4 + 4)) (p' := ⟨x0 + 1, x1 + 1, x2 + 4, 0, x4 + 4, 0, [], 0, 0⟩) (by simp [spC]) rfl)
  replace HRR := Lib.hid (HRR.out.far (p := ⟨O, 4, none⟩) (fun q => hOR q.symm) (.int .i64 (x4 + 4)))
  replace HBB := Lib.hid (HBB.out.setCell (p := ⟨O, 4, none⟩) hOB (.int .i64 (x4 + 4)))
  go_wp2_with fail
  clear f4 c4
  obtain ⟨x7, T1, hx_, ht_, b7, g_T1⟩ := HG5.out.next
  refine (rg_ueE HG.out.rg hs HG5.out.1 hx_ ht_).mono ?_
  rintro e wa ⟨rfl, q, tq⟩
  replace HG := Lib.hid (HG.out.call q tq)
  replace HRR := Lib.hid (HRR.out.touch tq HRn.out)
  replace HBB := Lib.hid (Below.touch HBB.out tq HBn.out (Nat.le_refl _))
  have HX7 := Lib.hid (And.intro hx_ ht_)
  have HGT := Lib.hid g_T1
  clear hx_ ht_ g_T1 q tq
  go_wp2_with fail
  obtain ⟨x8, T2, hx_, ht_, b8, g_T2⟩ := HGT.out.next
  refine (rg_ueE HG.out.rg hs HGT.out.1 hx_ ht_).mono ?_
  rintro e wb ⟨rfl, q, tq⟩
  replace HG := Lib.hid (HG.out.call q tq)
  replace HRR := Lib.hid (HRR.out.touch tq HRn.out)
  replace HBB := Lib.hid (Below.touch HBB.out tq HBn.out (Nat.le_refl _))
  obtain ⟨b, hb⟩ : ∃ b, (!T2.bad && ((trailR (sbit s) (8 * s.size) T2.a).1 : Int) == 0) = b := ⟨_, rfl⟩
  have hfin := finSp_form (p := ⟨x0 + 1, x1 + 1, x2 + 4, 0, x4 + 4, 0, [], 0, 0⟩) HX7.out.1 HX7.out.2 hx_ ht_ hb
  rw [← HFIN.out] at hfin
  replace HFIN := Lib.hid hfin
  have HB_ := Lib.hid hb
  have HG2_ := Lib.hid g_T2
  clear hx_ ht_ q tq hfin hb g_T2 HX7 HGT
  have f7 := HG.out.bk.frozen 7
  have f8 := HG.out.bk.frozen 8
  have c7 := HG.out.bk.cell 7
  have c8 := HG.out.bk.cell 8
  simp [spC] at c7 c8
  replace HG := Lib.hid ((HG.out.put (i := 7) (u := .int .i64 x7) (p' := ⟨x0 + 1, x1 + 1, x2 + 4, 0, x4 + 4, 0, [], x7, 0⟩) (by simp [spC]) rfl).put (i := 8) (u := .int .i64 x8) (p' := ⟨x0 + 1, x1 + 1, x2 + 4, 0, x4 + 4, 0, [], x7, x8⟩) (by simp [spC]) rfl)
  replace HRR := Lib.hid ((HRR.out.far (p := ⟨O, 7, none⟩) (fun q => hOR q.symm) (.int .i64 x7)).far (p := ⟨O, 8, none⟩) (fun q => hOR q.symm) (.int .i64 x8))
  replace HBB := Lib.hid ((HBB.out.setCell (p := ⟨O, 7, none⟩) hOB (.int .i64 x7)).setCell (p := ⟨O, 8, none⟩) hOB (.int .i64 x8))
  go_wp2_with fail
  refine (rg_overE HG.out.rg hs HG2_.out.1 HB_.out).mono ?_
  rintro e wd ⟨rfl, tq⟩
  have HA := Lib.hid (HG.out.after tq)
  replace HRR := Lib.hid (HRR.out.touch tq HRn.out)
  replace HBB := Lib.hid (Below.touch HBB.out tq HBn.out (Nat.le_refl _))
  have HV := Lib.hid HG.out.vr
  clear tq f7 f8 c7 c8 HG
  have hRlt := HRR.out.lt
  cases b
  · have hvv := HFIN.out
    rw [if_pos rfl] at hvv
    have HVE := Lib.hid hvv
    clear hvv
    have c0 := HRR.out.cell 0
    have f0 := HRR.out.frozen 0
    have c1 := HRR.out.cell 1
    have f1 := HRR.out.frozen 1
    have c2 := HRR.out.cell 2
    have f2 := HRR.out.frozen 2
    have c3 := HRR.out.cell 3
    have f3 := HRR.out.frozen 3
    have c4 := HRR.out.cell 4
    have f4 := HRR.out.frozen 4
    have c5 := HRR.out.cell 5
    have f5 := HRR.out.frozen 5
    have c6 := HRR.out.cell 6
    have f6 := HRR.out.frozen 6
    have c7 := HRR.out.cell 7
    have f7 := HRR.out.frozen 7
    have c8 := HRR.out.cell 8
    have f8 := HRR.out.frozen 8
    simp [spC, Sp.zero] at c0 c1 c2 c3 c4 c5 c6 c7 c8
    go_wp2_with fail
    have hq := sps_put .zero (.slice none 0 0) HRR.out
    simp only [Sp.zero] at hq
    have HB9 := Lib.hid (Below.touch HBB.out hq.2 (fun i hi q => by omega) (Nat.le_refl _))
    generalize ((((((((wd.setCell ⟨R, 0, none⟩ (.int .i64 0)).setCell ⟨R, 1, none⟩ (.int .i64 0)).setCell ⟨R, 2, none⟩ (.int .i64 0)).setCell ⟨R, 3, none⟩ (.int .i64 0)).setCell ⟨R, 4, none⟩ (.int .i64 0)).setCell ⟨R, 5, none⟩ (.int .i64 0)).setCell ⟨R, 6, none⟩ (.slice none 0 0)).setCell ⟨R, 7, none⟩ (.int .i64 0)).setCell ⟨R, 8, none⟩ (.int .i64 0) = w9 at hq HB9 ⊢
    have d0 := hq.1.cell 0
    have d1 := hq.1.cell 1
    have d2 := hq.1.cell 2
    have d3 := hq.1.cell 3
    have d4 := hq.1.cell 4
    have d5 := hq.1.cell 5
    have d6 := hq.1.cell 6
    have d7 := hq.1.cell 7
    have d8 := hq.1.cell 8
    simp [spC] at d0 d1 d2 d3 d4 d5 d6 d7 d8
    exact bodyPost_ret (v := .tuple #[.agg #[.int .i64 0, .int .i64 0, .int .i64 0, .int .i64 0, .int .i64 0, .int .i64 0, .slice none 0 0, .int .i64 0, .int .i64 0], .int .i64 300]) (by simp [results, Try.results13, go_sem, d0, d1, d2, d3, d4, d5, d6, d7, d8]) rfl (GPost.mk (.slice none 0 0) (by rw [HVE.out]; rfl) (by rw [HVE.out]; exact own_nil_int _ _) HB9.out)
  · have hvv := HFIN.out
    rw [if_neg (by simp)] at hvv
    have HVV2 := Lib.hid hvv
    clear hvv
    have m0 := HA.out.1.cell 0
    have m1 := HA.out.1.cell 1
    have m2 := HA.out.1.cell 2
    have m3 := HA.out.1.cell 3
    have m4 := HA.out.1.cell 4
    have m5 := HA.out.1.cell 5
    have m6 := HA.out.1.cell 6
    have m7 := HA.out.1.cell 7
    have m8 := HA.out.1.cell 8
    simp [spC] at m0 m1 m2 m3 m4 m5 m6 m7 m8
    go_wp2_with fail
    refine (maysp_any ⟨x0 + 1, x1 + 1, x2 + 4, 0, x4 + 4, 0, [], x7, x8⟩ none 0 _ (show SpAt _ _ ⟨x0 + 1, x1 + 1, x2 + 4, 0, x4 + 4, 0, [], x7, x8⟩ none from SpAt.of_own HA.out.2) (by show 0 ≤ _; omega)).mono ?_
    rintro e we ⟨rfl, hb5⟩
    replace HA := Lib.hid (And.intro (HA.out.1.go hb5) (own_go HA.out.2 hb5))
    replace HRR := Lib.hid (HRR.out.go hb5)
    replace HBB := Lib.hid (HBB.out.trans (hb5.mono HBB.out.size))
    clear hb5 m0 m1 m2 m3 m4 m5 m6 m7 m8
    have hRlt := HRR.out.lt
    have m0 := HA.out.1.cell 0
    have m1 := HA.out.1.cell 1
    have m2 := HA.out.1.cell 2
    have m3 := HA.out.1.cell 3
    have m4 := HA.out.1.cell 4
    have m5 := HA.out.1.cell 5
    have m6 := HA.out.1.cell 6
    have m7 := HA.out.1.cell 7
    have m8 := HA.out.1.cell 8
    simp [spC] at m0 m1 m2 m3 m4 m5 m6 m7 m8
    cases hmy : maySp ⟨x0 + 1, x1 + 1, x2 + 4, 0, x4 + 4, 0, [], x7, x8⟩
    · have hvv := HVV2.out
      rw [hmy, if_neg (by simp)] at hvv
      clear hmy
      have HVE := Lib.hid hvv
      clear hvv
      have c0 := HRR.out.cell 0
      have f0 := HRR.out.frozen 0
      have c1 := HRR.out.cell 1
      have f1 := HRR.out.frozen 1
      have c2 := HRR.out.cell 2
      have f2 := HRR.out.frozen 2
      have c3 := HRR.out.cell 3
      have f3 := HRR.out.frozen 3
      have c4 := HRR.out.cell 4
      have f4 := HRR.out.frozen 4
      have c5 := HRR.out.cell 5
      have f5 := HRR.out.frozen 5
      have c6 := HRR.out.cell 6
      have f6 := HRR.out.frozen 6
      have c7 := HRR.out.cell 7
      have f7 := HRR.out.frozen 7
      have c8 := HRR.out.cell 8
      have f8 := HRR.out.frozen 8
      simp [spC, Sp.zero] at c0 c1 c2 c3 c4 c5 c6 c7 c8
      go_wp2_with fail
      have hq := sps_put .zero (.slice none 0 0) HRR.out
      simp only [Sp.zero] at hq
      have HB9 := Lib.hid (Below.touch HBB.out hq.2 (fun i hi q => by omega) (Nat.le_refl _))
      generalize ((((((((we.setCell ⟨R, 0, none⟩ (.int .i64 0)).setCell ⟨R, 1, none⟩ (.int .i64 0)).setCell ⟨R, 2, none⟩ (.int .i64 0)).setCell ⟨R, 3, none⟩ (.int .i64 0)).setCell ⟨R, 4, none⟩ (.int .i64 0)).setCell ⟨R, 5, none⟩ (.int .i64 0)).setCell ⟨R, 6, none⟩ (.slice none 0 0)).setCell ⟨R, 7, none⟩ (.int .i64 0)).setCell ⟨R, 8, none⟩ (.int .i64 0) = w9 at hq HB9 ⊢
      have d0 := hq.1.cell 0
      have d1 := hq.1.cell 1
      have d2 := hq.1.cell 2
      have d3 := hq.1.cell 3
      have d4 := hq.1.cell 4
      have d5 := hq.1.cell 5
      have d6 := hq.1.cell 6
      have d7 := hq.1.cell 7
      have d8 := hq.1.cell 8
      simp [spC] at d0 d1 d2 d3 d4 d5 d6 d7 d8
      exact bodyPost_ret (v := .tuple #[.agg #[.int .i64 0, .int .i64 0, .int .i64 0, .int .i64 0, .int .i64 0, .int .i64 0, .slice none 0 0, .int .i64 0, .int .i64 0], .int .i64 301]) (by simp [results, Try.results13, go_sem, d0, d1, d2, d3, d4, d5, d6, d7, d8]) rfl (GPost.mk (.slice none 0 0) (by rw [HVE.out]; rfl) (by rw [HVE.out]; exact own_nil_int _ _) HB9.out)
    · have hvv := HVV2.out
      rw [hmy, if_pos rfl] at hvv
      have HVE := Lib.hid hvv
      clear hvv hmy
      have c0 := HRR.out.cell 0
      have f0 := HRR.out.frozen 0
      have c1 := HRR.out.cell 1
      have f1 := HRR.out.frozen 1
      have c2 := HRR.out.cell 2
      have f2 := HRR.out.frozen 2
      have c3 := HRR.out.cell 3
      have f3 := HRR.out.frozen 3
      have c4 := HRR.out.cell 4
      have f4 := HRR.out.frozen 4
      have c5 := HRR.out.cell 5
      have f5 := HRR.out.frozen 5
      have c6 := HRR.out.cell 6
      have f6 := HRR.out.frozen 6
      have c7 := HRR.out.cell 7
      have f7 := HRR.out.frozen 7
      have c8 := HRR.out.cell 8
      have f8 := HRR.out.frozen 8
      simp [spC, Sp.zero] at c0 c1 c2 c3 c4 c5 c6 c7 c8
      go_wp2_with fail
      have hq := sps_put ⟨x0 + 1, x1 + 1, x2 + 4, 0, x4 + 4, 0, [], x7, x8⟩ (.slice none 0 0) HRR.out
      simp only at hq
      have HOWN := Lib.hid (own_touch HA.out.2 hq.2 (fun k hk q => by have := (HA.out.2.lt k hk).1; omega))
      have HB9 := Lib.hid (Below.touch HBB.out hq.2 (fun i hi q => by omega) (Nat.le_refl _))
      generalize ((((((((we.setCell ⟨R, 0, none⟩ (.int .i64 (x0 + 1))).setCell ⟨R, 1, none⟩ (.int .i64 (x1 + 1))).setCell ⟨R, 2, none⟩ (.int .i64 (x2 + 4))).setCell ⟨R, 3, none⟩ (.int .i64 0)).setCell ⟨R, 4, none⟩ (.int .i64 (x4 + 4))).setCell ⟨R, 5, none⟩ (.int .i64 0)).setCell ⟨R, 6, none⟩ (.slice none 0 0)).setCell ⟨R, 7, none⟩ (.int .i64 x7)).setCell ⟨R, 8, none⟩ (.int .i64 x8) = w9 at hq HOWN HB9 ⊢
      have d0 := hq.1.cell 0
      have d1 := hq.1.cell 1
      have d2 := hq.1.cell 2
      have d3 := hq.1.cell 3
      have d4 := hq.1.cell 4
      have d5 := hq.1.cell 5
      have d6 := hq.1.cell 6
      have d7 := hq.1.cell 7
      have d8 := hq.1.cell 8
      simp [spC] at d0 d1 d2 d3 d4 d5 d6 d7 d8
      exact bodyPost_ret (v := .tuple #[.agg #[.int .i64 (x0 + 1), .int .i64 (x1 + 1), .int .i64 (x2 + 4), .int .i64 0, .int .i64 (x4 + 4), .int .i64 0, .slice none 0 0, .int .i64 x7, .int .i64 x8], .int .i64 0]) (by simp [results, Try.results13, go_sem, d0, d1, d2, d3, d4, d5, d6, d7, d8]) rfl (GPost.mk (.slice none 0 0) (by rw [HVE.out]; rfl) (by rw [HVE.out]; exact own_less HOWN.out (by omega)) HB9.out)
end Go.Proofs.Ytegfglpaabddlaa

namespace Go.Proofs.Ytegfglpaabddlaa
open Go.RowKit
set_option linter.unusedVariables false
set_option linter.unusedSimpArgs false

set_option maxRecDepth 100000 in
set_option maxHeartbeats 6400000 in
theorem getsp_2 (s : ByteArray) (w : World) (hs : s.size ≤ 140737488351232) (x0 x1 x2 x3 : Int) (t1 t2 t3 t4 : St) (e0 : ueX (sbit s) (8 * s.size) ⟨0, false⟩ = x0) (f1 : ueS (sbit s) (8 * s.size) ⟨0, false⟩ = t1) (e1 : ueX (sbit s) (8 * s.size) t1 = x1) (f2 : ueS (sbit s) (8 * s.size) t1 = t2) (e2 : ueX (sbit s) (8 * s.size) t2 = x2) (f3 : ueS (sbit s) (8 * s.size) t2 = t3) (e3 : ueX (sbit s) (8 * s.size) t3 = x3) (f4 : ueS (sbit s) (8 * s.size) t3 = t4)
    (b0 : 0 ≤ x0 ∧ x0 ≤ 2147483646) (b1 : 0 ≤ x1 ∧ x1 ≤ 2147483646) (b2 : 0 ≤ x2 ∧ x2 ≤ 2147483646) (g1 : Good (sbit s) (8 * s.size) t1) (g2 : Good (sbit s) (8 * s.size) t2) (g3 : Good (sbit s) (8 * s.size) t3) (g4 : Good (sbit s) (8 * s.size) t4) (hx : ¬ x3 = 0 ∧ ¬ x3 = 1) (VV : Sp × Int) (hVV : VV = getSp (sbit s) (8 * s.size)) :
    Calls Try.prog 13 #[.string s] w (GPost VV w) := by
  have hF := getSp_form x0 x1 x2 x3 t1 t2 t3 t4 e0 f1 e1 f2 e2 f3 e3 f4
  have HF := Lib.hid (hF.2.2 hx.1 hx.2)
  clear hF
  have HVV := Lib.hid hVV
  have HGD := Lib.hid (And.intro g1 (And.intro g2 (And.intro g3 g4)))
  have HE := Lib.hid (And.intro e0 (And.intro f1 (And.intro e1 (And.intro f2 (And.intro e2 (And.intro f3 (And.intro e3 f4)))))))
  clear hVV e0 f1 e1 f2 e2 f3 e3 f4 g1 g2 g3 g4
  have hR0 := Bk.new w 24 (spC .zero (.slice none 0 0))
  have hb0 := (Below.refl w.heap.size w).alloc (Nat.le_refl _) (.cells (spC .zero (.slice none 0 0)) 24)
  have HR0 := Lib.hid hR0
  have HB0 := Lib.hid hb0
  clear hR0 hb0
  go_enter Try.func13, Try.ntmps13
  go_wp2_with fail
  refine (st_open s _).mono ?_
  rintro e w1 ⟨rfl, hr⟩
  have hR1 := HR0.out.go hr.2.2
  have hb1 := HB0.out.trans (hr.2.2.mono HB0.out.size)
  have hgz := hr.1.lt
  have hR2 := hR1.alloc (.cells #[.pointer (some ⟨w.heap.size + 1, 0, none⟩), .bool false] 69)
  have hb2 := hb1.alloc hb1.size (.cells #[.pointer (some ⟨w.heap.size + 1, 0, none⟩), .bool false] 69)
  have hh2 := Bk.new w1 69 #[.pointer (some ⟨w.heap.size + 1, 0, none⟩), .bool false]
  have hg2 : Rr _ _ s 0 := Bk.alloc hr.1 (.cells #[.pointer (some ⟨w.heap.size + 1, 0, none⟩), .bool false] 69)
  rw [World.size_alloc] at hgz hg2
  obtain ⟨h, hH⟩ : ∃ h, h = w1.heap.size := ⟨_, rfl⟩
  obtain ⟨g, hG⟩ : ∃ g, g = w.heap.size + 1 := ⟨_, rfl⟩
  obtain ⟨R, hR⟩ : ∃ R, R = w.heap.size := ⟨_, rfl⟩
  have hgh : g < h := by omega
  have hRg : R < g := by omega
  have hgB : w.heap.size ≤ g := by omega
  have hhB : w.heap.size ≤ h := by omega
  have hRB : w.heap.size ≤ R := by omega
  have HRn : Hid (¬ RGS h g R) := Lib.hid (fun q => by rcases q with q | q <;> omega)
  have HBn : Hid (∀ i, i < w.heap.size → ¬ RGS h g i) := Lib.hid (fun i hi q => by rcases q with q | q <;> omega)
  have HR := Lib.hid hR2
  have HB := Lib.hid hb2
  have HH := Lib.hid hh2
  have HG := Lib.hid hg2
  clear hr hR1 hb1 hR2 hb2 hh2 hg2 hgz HR0 HB0
  go_wp2_with fail
  rw [← hG, ← hR, ← hH]
  rw [← hG] at HG HH HR HB
  rw [← hR] at HR
  rw [← hH] at HH
  generalize w1.alloc (.cells #[.pointer (some ⟨g, 0, none⟩), .bool false] 69) = w2 at HR HB HH HG ⊢
  have HEQ := Lib.hid (And.intro hH (And.intro hG hR))
  clear hH hG hR
  have H0 : Hid (RG w2 h g s ⟨0, false⟩) := Lib.hid ⟨HH.out, HG.out⟩
  clear HH HG
  refine (rg_ueE H0.out hs (Nat.zero_le _) HE.out.1 HE.out.2.1).mono ?_
  rintro e w3 ⟨rfl, q, tq⟩
  replace H0 := Lib.hid q
  replace HR := Lib.hid (HR.out.touch tq HRn.out)
  replace HB := Lib.hid (Below.touch HB.out tq HBn.out (Nat.le_refl _))
  clear q tq
  generalize w3 = w2 at H0 HR HB ⊢
  go_wp2_with fail
  refine (rg_ueE H0.out hs HGD.out.1.1 HE.out.2.2.1 HE.out.2.2.2.1).mono ?_
  rintro e w3 ⟨rfl, q, tq⟩
  replace H0 := Lib.hid q
  replace HR := Lib.hid (HR.out.touch tq HRn.out)
  replace HB := Lib.hid (Below.touch HB.out tq HBn.out (Nat.le_refl _))
  clear q tq
  generalize w3 = w2 at H0 HR HB ⊢
  go_wp2_with fail
  refine (rg_ueE H0.out hs HGD.out.2.1.1 HE.out.2.2.2.2.1 HE.out.2.2.2.2.2.1).mono ?_
  rintro e w3 ⟨rfl, q, tq⟩
  replace H0 := Lib.hid q
  replace HR := Lib.hid (HR.out.touch tq HRn.out)
  replace HB := Lib.hid (Below.touch HB.out tq HBn.out (Nat.le_refl _))
  clear q tq
  generalize w3 = w2 at H0 HR HB ⊢
  go_wp2_with fail
  refine (rg_ueE H0.out hs HGD.out.2.2.1.1 HE.out.2.2.2.2.2.2.1 HE.out.2.2.2.2.2.2.2).mono ?_
  rintro e w3 ⟨rfl, q, tq⟩
  replace H0 := Lib.hid q
  replace HR := Lib.hid (HR.out.touch tq HRn.out)
  replace HB := Lib.hid (Below.touch HB.out tq HBn.out (Nat.le_refl _))
  clear q tq
  have hne0 : (x3 == 0) = false := by simp; exact hx.1
  have hne1 : (x3 == 1) = false := by simp; exact hx.2
  have HX := Lib.hid hx
  clear hx
  have hsz := HB.out.size
  obtain ⟨O, hO⟩ : ∃ O, O = w3.heap.size := ⟨_, rfl⟩
  have hhlt := H0.out.1.lt
  have hglt := Bk.lt H0.out.2
  have hOh : O ≠ h := by omega
  have hOg : O ≠ g := by omega
  have hOR : O ≠ R := by have := HR.out.lt; omega
  have hOB : w.heap.size ≤ O := by omega
  have hhg : h ≠ g := by omega
  have HG : Hid (GR (w3.alloc (.cells (spC ⟨x0 + 1, x1 + 1, x2 + 4, x3, 4, 0, [], 0, 0⟩ (.slice none 0 0)) 24)) h g O (R + 1) s t4 ⟨x0 + 1, x1 + 1, x2 + 4, x3, 4, 0, [], 0, 0⟩ (.slice none 0 0)) := Lib.hid ⟨⟨H0.out.1.alloc _, Bk.alloc H0.out.2 _⟩, hO ▸ Bk.new w3 24 _, own_nil_int _ _, hOh, hOg, hhg, (fun k q => by simp [Value.ownBlock] at q), fun k q => by simp [Value.ownBlock] at q⟩
  have HRR := Lib.hid (HR.out.alloc (.cells (spC ⟨x0 + 1, x1 + 1, x2 + 4, x3, 4, 0, [], 0, 0⟩ (.slice none 0 0)) 24))
  have HBB := Lib.hid (HB.out.alloc HB.out.size (.cells (spC ⟨x0 + 1, x1 + 1, x2 + 4, x3, 4, 0, [], 0, 0⟩ (.slice none 0 0)) 24))
  have HOO := Lib.hid hO
  have HLT := Lib.hid (And.intro hhlt (And.intro hglt hsz))
  clear hsz hhlt hglt H0 HR HB hO
  go_wp2_with fail
  rw [← HOO.out]
  have HFIN := Lib.hid (HVV.out.trans HF.out)
  obtain ⟨x7, T1, hx_, ht_, b7, g_T1⟩ := HGD.out.2.2.2.next
  refine (rg_ueE HG.out.rg hs HGD.out.2.2.2.1 hx_ ht_).mono ?_
  rintro e wa ⟨rfl, q, tq⟩
  replace HG := Lib.hid (HG.out.call q tq)
  replace HRR := Lib.hid (HRR.out.touch tq HRn.out)
  replace HBB := Lib.hid (Below.touch HBB.out tq HBn.out (Nat.le_refl _))
  have HX7 := Lib.hid (And.intro hx_ ht_)
  have HGT := Lib.hid g_T1
  clear hx_ ht_ g_T1 q tq
  go_wp2_with fail
  obtain ⟨x8, T2, hx_, ht_, b8, g_T2⟩ := HGT.out.next
  refine (rg_ueE HG.out.rg hs HGT.out.1 hx_ ht_).mono ?_
  rintro e wb ⟨rfl, q, tq⟩
  replace HG := Lib.hid (HG.out.call q tq)
  replace HRR := Lib.hid (HRR.out.touch tq HRn.out)
  replace HBB := Lib.hid (Below.touch HBB.out tq HBn.out (Nat.le_refl _))
  obtain ⟨b, hb⟩ : ∃ b, (!T2.bad && ((trailR (sbit s) (8 * s.size) T2.a).1 : Int) == 0) = b := ⟨_, rfl⟩
  have hfin := finSp_form (p := ⟨x0 + 1, x1 + 1, x2 + 4, x3, 4, 0, [], 0, 0⟩) HX7.out.1 HX7.out.2 hx_ ht_ hb
  rw [← HFIN.out] at hfin
  replace HFIN := Lib.hid hfin
  have HB_ := Lib.hid hb
  have HG2_ := Lib.hid g_T2
  clear hx_ ht_ q tq hfin hb g_T2 HX7 HGT
  have f7 := HG.out.bk.frozen 7
  have f8 := HG.out.bk.frozen 8
  have c7 := HG.out.bk.cell 7
  have c8 := HG.out.bk.cell 8
  simp [spC] at c7 c8
  replace HG := Lib.hid ((HG.out.put (i := 7) (u := .int .i64 x7) (p' := ⟨x0 + 1, x1 + 1, x2 + 4, x3, 4, 0, [], x7, 0⟩) (by simp [spC]) rfl).put (i := 8) (u := .int .i64 x8) (p' := ⟨x0 + 1, x1 + 1, x2 + 4, x3, 4, 0, [], x7, x8⟩) (by simp [spC]) rfl)
  replace HRR := Lib.hid ((HRR.out.far (p := ⟨O, 7, none⟩) (fun q => hOR q.symm) (.int .i64 x7)).far (p := ⟨O, 8, none⟩) (fun q => hOR q.symm) (.int .i64 x8))
  replace HBB := Lib.hid ((HBB.out.setCell (p := ⟨O, 7, none⟩) hOB (.int .i64 x7)).setCell (p := ⟨O, 8, none⟩) hOB (.int .i64 x8))
  go_wp2_with fail
  refine (rg_overE HG.out.rg hs HG2_.out.1 HB_.out).mono ?_
  rintro e wd ⟨rfl, tq⟩
  have HA := Lib.hid (HG.out.after tq)
  replace HRR := Lib.hid (HRR.out.touch tq HRn.out)
  replace HBB := Lib.hid (Below.touch HBB.out tq HBn.out (Nat.le_refl _))
  have HV := Lib.hid HG.out.vr
  clear tq f7 f8 c7 c8 HG
  have hRlt := HRR.out.lt
  cases b
  · have hvv := HFIN.out
    rw [if_pos rfl] at hvv
    have HVE := Lib.hid hvv
    clear hvv
    have c0 := HRR.out.cell 0
    have f0 := HRR.out.frozen 0
    have c1 := HRR.out.cell 1
    have f1 := HRR.out.frozen 1
    have c2 := HRR.out.cell 2
    have f2 := HRR.out.frozen 2
    have c3 := HRR.out.cell 3
    have f3 := HRR.out.frozen 3
    have c4 := HRR.out.cell 4
    have f4 := HRR.out.frozen 4
    have c5 := HRR.out.cell 5
    have f5 := HRR.out.frozen 5
    have c6 := HRR.out.cell 6
    have f6 := HRR.out.frozen 6
    have c7 := HRR.out.cell 7
    have f7 := HRR.out.frozen 7
    have c8 := HRR.out.cell 8
    have f8 := HRR.out.frozen 8
    simp [spC, Sp.zero] at c0 c1 c2 c3 c4 c5 c6 c7 c8
    go_wp2_with fail
    have hq := sps_put .zero (.slice none 0 0) HRR.out
    simp only [Sp.zero] at hq
    have HB9 := Lib.hid (Below.touch HBB.out hq.2 (fun i hi q => by omega) (Nat.le_refl _))
    generalize ((((((((wd.setCell ⟨R, 0, none⟩ (.int .i64 0)).setCell ⟨R, 1, none⟩ (.int .i64 0)).setCell ⟨R, 2, none⟩ (.int .i64 0)).setCell ⟨R, 3, none⟩ (.int .i64 0)).setCell ⟨R, 4, none⟩ (.int .i64 0)).setCell ⟨R, 5, none⟩ (.int .i64 0)).setCell ⟨R, 6, none⟩ (.slice none 0 0)).setCell ⟨R, 7, none⟩ (.int .i64 0)).setCell ⟨R, 8, none⟩ (.int .i64 0) = w9 at hq HB9 ⊢
    have d0 := hq.1.cell 0
    have d1 := hq.1.cell 1
    have d2 := hq.1.cell 2
    have d3 := hq.1.cell 3
    have d4 := hq.1.cell 4
    have d5 := hq.1.cell 5
    have d6 := hq.1.cell 6
    have d7 := hq.1.cell 7
    have d8 := hq.1.cell 8
    simp [spC] at d0 d1 d2 d3 d4 d5 d6 d7 d8
    exact bodyPost_ret (v := .tuple #[.agg #[.int .i64 0, .int .i64 0, .int .i64 0, .int .i64 0, .int .i64 0, .int .i64 0, .slice none 0 0, .int .i64 0, .int .i64 0], .int .i64 300]) (by simp [results, Try.results13, go_sem, d0, d1, d2, d3, d4, d5, d6, d7, d8]) rfl (GPost.mk (.slice none 0 0) (by rw [HVE.out]; rfl) (by rw [HVE.out]; exact own_nil_int _ _) HB9.out)
  · have hvv := HFIN.out
    rw [if_neg (by simp)] at hvv
    have HVV2 := Lib.hid hvv
    clear hvv
    have m0 := HA.out.1.cell 0
    have m1 := HA.out.1.cell 1
    have m2 := HA.out.1.cell 2
    have m3 := HA.out.1.cell 3
    have m4 := HA.out.1.cell 4
    have m5 := HA.out.1.cell 5
    have m6 := HA.out.1.cell 6
    have m7 := HA.out.1.cell 7
    have m8 := HA.out.1.cell 8
    simp [spC] at m0 m1 m2 m3 m4 m5 m6 m7 m8
    go_wp2_with fail
    refine (maysp_any ⟨x0 + 1, x1 + 1, x2 + 4, x3, 4, 0, [], x7, x8⟩ none 0 _ (show SpAt _ _ ⟨x0 + 1, x1 + 1, x2 + 4, x3, 4, 0, [], x7, x8⟩ none from SpAt.of_own HA.out.2) (by show 0 ≤ _; omega)).mono ?_
    rintro e we ⟨rfl, hb5⟩
    replace HA := Lib.hid (And.intro (HA.out.1.go hb5) (own_go HA.out.2 hb5))
    replace HRR := Lib.hid (HRR.out.go hb5)
    replace HBB := Lib.hid (HBB.out.trans (hb5.mono HBB.out.size))
    clear hb5 m0 m1 m2 m3 m4 m5 m6 m7 m8
    have hRlt := HRR.out.lt
    have m0 := HA.out.1.cell 0
    have m1 := HA.out.1.cell 1
    have m2 := HA.out.1.cell 2
    have m3 := HA.out.1.cell 3
    have m4 := HA.out.1.cell 4
    have m5 := HA.out.1.cell 5
    have m6 := HA.out.1.cell 6
    have m7 := HA.out.1.cell 7
    have m8 := HA.out.1.cell 8
    simp [spC] at m0 m1 m2 m3 m4 m5 m6 m7 m8
    cases hmy : maySp ⟨x0 + 1, x1 + 1, x2 + 4, x3, 4, 0, [], x7, x8⟩
    · have hvv := HVV2.out
      rw [hmy, if_neg (by simp)] at hvv
      clear hmy
      have HVE := Lib.hid hvv
      clear hvv
      have c0 := HRR.out.cell 0
      have f0 := HRR.out.frozen 0
      have c1 := HRR.out.cell 1
      have f1 := HRR.out.frozen 1
      have c2 := HRR.out.cell 2
      have f2 := HRR.out.frozen 2
      have c3 := HRR.out.cell 3
      have f3 := HRR.out.frozen 3
      have c4 := HRR.out.cell 4
      have f4 := HRR.out.frozen 4
      have c5 := HRR.out.cell 5
      have f5 := HRR.out.frozen 5
      have c6 := HRR.out.cell 6
      have f6 := HRR.out.frozen 6
      have c7 := HRR.out.cell 7
      have f7 := HRR.out.frozen 7
      have c8 := HRR.out.cell 8
      have f8 := HRR.out.frozen 8
      simp [spC, Sp.zero] at c0 c1 c2 c3 c4 c5 c6 c7 c8
      go_wp2_with fail
      have hq := sps_put .zero (.slice none 0 0) HRR.out
      simp only [Sp.zero] at hq
      have HB9 := Lib.hid (Below.touch HBB.out hq.2 (fun i hi q => by omega) (Nat.le_refl _))
      generalize ((((((((we.setCell ⟨R, 0, none⟩ (.int .i64 0)).setCell ⟨R, 1, none⟩ (.int .i64 0)).setCell ⟨R, 2, none⟩ (.int .i64 0)).setCell ⟨R, 3, none⟩ (.int .i64 0)).setCell ⟨R, 4, none⟩ (.int .i64 0)).setCell ⟨R, 5, none⟩ (.int .i64 0)).setCell ⟨R, 6, none⟩ (.slice none 0 0)).setCell ⟨R, 7, none⟩ (.int .i64 0)).setCell ⟨R, 8, none⟩ (.int .i64 0) = w9 at hq HB9 ⊢
      have d0 := hq.1.cell 0
      have d1 := hq.1.cell 1
      have d2 := hq.1.cell 2
      have d3 := hq.1.cell 3
      have d4 := hq.1.cell 4
      have d5 := hq.1.cell 5
      have d6 := hq.1.cell 6
      have d7 := hq.1.cell 7
      have d8 := hq.1.cell 8
      simp [spC] at d0 d1 d2 d3 d4 d5 d6 d7 d8
      exact bodyPost_ret (v := .tuple #[.agg #[.int .i64 0, .int .i64 0, .int .i64 0, .int .i64 0, .int .i64 0, .int .i64 0, .slice none 0 0, .int .i64 0, .int .i64 0], .int .i64 301]) (by simp [results, Try.results13, go_sem, d0, d1, d2, d3, d4, d5, d6, d7, d8]) rfl (GPost.mk (.slice none 0 0) (by rw [HVE.out]; rfl) (by rw [HVE.out]; exact own_nil_int _ _) HB9.out)
    · have hvv := HVV2.out
      rw [hmy, if_pos rfl] at hvv
      have HVE := Lib.hid hvv
      clear hvv hmy
      have c0 := HRR.out.cell 0
      have f0 := HRR.out.frozen 0
      have c1 := HRR.out.cell 1
      have f1 := HRR.out.frozen 1
      have c2 := HRR.out.cell 2
      have f2 := HRR.out.frozen 2
      have c3 := HRR.out.cell 3
      have f3 := HRR.out.frozen 3
      have c4 := HRR.out.cell 4
      have f4 := HRR.out.frozen 4
      have c5 := HRR.out.cell 5
      have f5 := HRR.out.frozen 5
      have c6 := HRR.out.cell 6
      have f6 := HRR.out.frozen 6
      have c7 := HRR.out.cell 7
      have f7 := HRR.out.frozen 7
      have c8 := HRR.out.cell 8
      have f8 := HRR.out.frozen 8
      simp [spC, Sp.zero] at c0 c1 c2 c3 c4 c5 c6 c7 c8
      go_wp2_with fail
      have hq := sps_put ⟨x0 + 1, x1 + 1, x2 + 4, x3, 4, 0, [], x7, x8⟩ (.slice none 0 0) HRR.out
      simp only at hq
      have HOWN := Lib.hid (own_touch HA.out.2 hq.2 (fun k hk q => by have := (HA.out.2.lt k hk).1; omega))
      have HB9 := Lib.hid (Below.touch HBB.out hq.2 (fun i hi q => by omega) (Nat.le_refl _))
      generalize ((((((((we.setCell ⟨R, 0, none⟩ (.int .i64 (x0 + 1))).setCell ⟨R, 1, none⟩ (.int .i64 (x1 + 1))).setCell ⟨R, 2, none⟩ (.int .i64 (x2 + 4))).setCell ⟨R, 3, none⟩ (.int .i64 x3)).setCell ⟨R, 4, none⟩ (.int .i64 (4))).setCell ⟨R, 5, none⟩ (.int .i64 0)).setCell ⟨R, 6, none⟩ (.slice none 0 0)).setCell ⟨R, 7, none⟩ (.int .i64 x7)).setCell ⟨R, 8, none⟩ (.int .i64 x8) = w9 at hq HOWN HB9 ⊢
      have d0 := hq.1.cell 0
      have d1 := hq.1.cell 1
      have d2 := hq.1.cell 2
      have d3 := hq.1.cell 3
      have d4 := hq.1.cell 4
      have d5 := hq.1.cell 5
      have d6 := hq.1.cell 6
      have d7 := hq.1.cell 7
      have d8 := hq.1.cell 8
      simp [spC] at d0 d1 d2 d3 d4 d5 d6 d7 d8
      exact bodyPost_ret (v := .tuple #[.agg #[.int .i64 (x0 + 1), .int .i64 (x1 + 1), .int .i64 (x2 + 4), .int .i64 x3, .int .i64 (4), .int .i64 0, .slice none 0 0, .int .i64 x7, .int .i64 x8], .int .i64 0]) (by simp [results, Try.results13, go_sem, d0, d1, d2, d3, d4, d5, d6, d7, d8]) rfl (GPost.mk (.slice none 0 0) (by rw [HVE.out]; rfl) (by rw [HVE.out]; exact own_less HOWN.out (by omega)) HB9.out)
end Go.Proofs.Ytegfglpaabddlaa

namespace Go.Proofs.Ytegfglpaabddlaa
open Go.RowKit
set_option linter.unusedVariables false
set_option linter.unusedSimpArgs false

def gsCs : List Nat := [3, 4, 5, 7]
def gsSl (j : Nat) : Option Nat := ([some 58, some 59, some 60, some 61, none, none, some 64, none] : List (Option Nat)).getD j none
def gsVl (h O : Nat) (v : Value) (x : Int) (j : Nat) : Value := ([.pointer (some ⟨O, 6, none⟩), v, .pointer (some ⟨h, 0, none⟩), .int .i64 x, undef, undef, .pointer (some ⟨O, 6, none⟩), undef] : List Value).getD j undef
theorem gs_ok : DOk 8 83 [62, 63] gsSl ((List.range 83).filter fun t => decide (t < 58 ∨ 58 + 7 ≤ t)) := by
  unfold DOk
  decide +kernel
theorem GR.drew {w : World} {h g O B : Nat} {s : ByteArray} {t : St} {p : Sp} {v : Value} (H : GR w h g O B s t p v) : GR w.drew h g O B s t p v := H.go (Below.refl _ _).drew

set_option maxRecDepth 100000 in
set_option maxHeartbeats 6400000 in
theorem getsp_1 (s : ByteArray) (w : World) (hs : s.size ≤ 140737488351232) (x0 x1 x2 x3 : Int) (t1 t2 t3 t4 : St) (e0 : ueX (sbit s) (8 * s.size) ⟨0, false⟩ = x0) (f1 : ueS (sbit s) (8 * s.size) ⟨0, false⟩ = t1) (e1 : ueX (sbit s) (8 * s.size) t1 = x1) (f2 : ueS (sbit s) (8 * s.size) t1 = t2) (e2 : ueX (sbit s) (8 * s.size) t2 = x2) (f3 : ueS (sbit s) (8 * s.size) t2 = t3) (e3 : ueX (sbit s) (8 * s.size) t3 = x3) (f4 : ueS (sbit s) (8 * s.size) t3 = t4)
    (b0 : 0 ≤ x0 ∧ x0 ≤ 2147483646) (b1 : 0 ≤ x1 ∧ x1 ≤ 2147483646) (b2 : 0 ≤ x2 ∧ x2 ≤ 2147483646) (g1 : Good (sbit s) (8 * s.size) t1) (g2 : Good (sbit s) (8 * s.size) t2) (g3 : Good (sbit s) (8 * s.size) t3) (g4 : Good (sbit s) (8 * s.size) t4) (hx : x3 = 1) (VV : Sp × Int) (hVV : VV = getSp (sbit s) (8 * s.size)) :
    Calls Try.prog 13 #[.string s] w (GPost VV w) := by
  have hF := getSp_form x0 x1 x2 x3 t1 t2 t3 t4 e0 f1 e1 f2 e2 f3 e3 f4
  have HF := Lib.hid (fun x4 t5 n t6 => hF.2.1 x4 t5 n t6 hx)
  clear hF
  have HVV := Lib.hid hVV
  have HGD := Lib.hid (And.intro g1 (And.intro g2 (And.intro g3 g4)))
  have HE := Lib.hid (And.intro e0 (And.intro f1 (And.intro e1 (And.intro f2 (And.intro e2 (And.intro f3 (And.intro e3 f4)))))))
  clear hVV e0 f1 e1 f2 e2 f3 e3 f4 g1 g2 g3 g4
  have hR0 := Bk.new w 24 (spC .zero (.slice none 0 0))
  have hb0 := (Below.refl w.heap.size w).alloc (Nat.le_refl _) (.cells (spC .zero (.slice none 0 0)) 24)
  have HR0 := Lib.hid hR0
  have HB0 := Lib.hid hb0
  clear hR0 hb0
  go_enter Try.func13, Try.ntmps13
  go_wp2_with fail
  refine (st_open s _).mono ?_
  rintro e w1 ⟨rfl, hr⟩
  have hR1 := HR0.out.go hr.2.2
  have hb1 := HB0.out.trans (hr.2.2.mono HB0.out.size)
  have hgz := hr.1.lt
  have hR2 := hR1.alloc (.cells #[.pointer (some ⟨w.heap.size + 1, 0, none⟩), .bool false] 69)
  have hb2 := hb1.alloc hb1.size (.cells #[.pointer (some ⟨w.heap.size + 1, 0, none⟩), .bool false] 69)
  have hh2 := Bk.new w1 69 #[.pointer (some ⟨w.heap.size + 1, 0, none⟩), .bool false]
  have hg2 : Rr _ _ s 0 := Bk.alloc hr.1 (.cells #[.pointer (some ⟨w.heap.size + 1, 0, none⟩), .bool false] 69)
  rw [World.size_alloc] at hgz hg2
  obtain ⟨h, hH⟩ : ∃ h, h = w1.heap.size := ⟨_, rfl⟩
  obtain ⟨g, hG⟩ : ∃ g, g = w.heap.size + 1 := ⟨_, rfl⟩
  obtain ⟨R, hR⟩ : ∃ R, R = w.heap.size := ⟨_, rfl⟩
  have hgh : g < h := by omega
  have hRg : R < g := by omega
  have hgB : w.heap.size ≤ g := by omega
  have hhB : w.heap.size ≤ h := by omega
  have hRB : w.heap.size ≤ R := by omega
  have HRn : Hid (¬ RGS h g R) := Lib.hid (fun q => by rcases q with q | q <;> omega)
  have HBn : Hid (∀ i, i < w.heap.size → ¬ RGS h g i) := Lib.hid (fun i hi q => by rcases q with q | q <;> omega)
  have HR := Lib.hid hR2
  have HB := Lib.hid hb2
  have HH := Lib.hid hh2
  have HG := Lib.hid hg2
  clear hr hR1 hb1 hR2 hb2 hh2 hg2 hgz HR0 HB0
  go_wp2_with fail
  rw [← hG, ← hR, ← hH]
  rw [← hG] at HG HH HR HB
  rw [← hR] at HR
  rw [← hH] at HH
  generalize w1.alloc (.cells #[.pointer (some ⟨g, 0, none⟩), .bool false] 69) = w2 at HR HB HH HG ⊢
  have HEQ := Lib.hid (And.intro hH (And.intro hG hR))
  clear hH hG hR
  have H0 : Hid (RG w2 h g s ⟨0, false⟩) := Lib.hid ⟨HH.out, HG.out⟩
  clear HH HG
  refine (rg_ueE H0.out hs (Nat.zero_le _) HE.out.1 HE.out.2.1).mono ?_
  rintro e w3 ⟨rfl, q, tq⟩
  replace H0 := Lib.hid q
  replace HR := Lib.hid (HR.out.touch tq HRn.out)
  replace HB := Lib.hid (Below.touch HB.out tq HBn.out (Nat.le_refl _))
  clear q tq
  generalize w3 = w2 at H0 HR HB ⊢
  go_wp2_with fail
  refine (rg_ueE H0.out hs HGD.out.1.1 HE.out.2.2.1 HE.out.2.2.2.1).mono ?_
  rintro e w3 ⟨rfl, q, tq⟩
  replace H0 := Lib.hid q
  replace HR := Lib.hid (HR.out.touch tq HRn.out)
  replace HB := Lib.hid (Below.touch HB.out tq HBn.out (Nat.le_refl _))
  clear q tq
  generalize w3 = w2 at H0 HR HB ⊢
  go_wp2_with fail
  refine (rg_ueE H0.out hs HGD.out.2.1.1 HE.out.2.2.2.2.1 HE.out.2.2.2.2.2.1).mono ?_
  rintro e w3 ⟨rfl, q, tq⟩
  replace H0 := Lib.hid q
  replace HR := Lib.hid (HR.out.touch tq HRn.out)
  replace HB := Lib.hid (Below.touch HB.out tq HBn.out (Nat.le_refl _))
  clear q tq
  generalize w3 = w2 at H0 HR HB ⊢
  go_wp2_with fail
  refine (rg_ueE H0.out hs HGD.out.2.2.1.1 HE.out.2.2.2.2.2.2.1 HE.out.2.2.2.2.2.2.2).mono ?_
  rintro e w3 ⟨rfl, q, tq⟩
  replace H0 := Lib.hid q
  replace HR := Lib.hid (HR.out.touch tq HRn.out)
  replace HB := Lib.hid (Below.touch HB.out tq HBn.out (Nat.le_refl _))
  clear q tq
  subst hx
  have hsz := HB.out.size
  obtain ⟨O, hO⟩ : ∃ O, O = w3.heap.size := ⟨_, rfl⟩
  have hhlt := H0.out.1.lt
  have hglt := Bk.lt H0.out.2
  have hOh : O ≠ h := by omega
  have hOg : O ≠ g := by omega
  have hOR : O ≠ R := by have := HR.out.lt; omega
  have hOB : w.heap.size ≤ O := by omega
  have hhg : h ≠ g := by omega
  have HG : Hid (GR (w3.alloc (.cells (spC ⟨x0 + 1, x1 + 1, x2 + 4, 1, 4, 0, [], 0, 0⟩ (.slice none 0 0)) 24)) h g O (R + 1) s t4 ⟨x0 + 1, x1 + 1, x2 + 4, 1, 4, 0, [], 0, 0⟩ (.slice none 0 0)) := Lib.hid ⟨⟨H0.out.1.alloc _, Bk.alloc H0.out.2 _⟩, hO ▸ Bk.new w3 24 _, own_nil_int _ _, hOh, hOg, hhg, (fun k q => by simp [Value.ownBlock] at q), fun k q => by simp [Value.ownBlock] at q⟩
  have HRR := Lib.hid (HR.out.alloc (.cells (spC ⟨x0 + 1, x1 + 1, x2 + 4, 1, 4, 0, [], 0, 0⟩ (.slice none 0 0)) 24))
  have HBB := Lib.hid (HB.out.alloc HB.out.size (.cells (spC ⟨x0 + 1, x1 + 1, x2 + 4, 1, 4, 0, [], 0, 0⟩ (.slice none 0 0)) 24))
  have HOO := Lib.hid hO
  have HLT := Lib.hid (And.intro hhlt (And.intro hglt hsz))
  clear hsz hhlt hglt H0 HR HB hO
  go_wp2_with fail
  rw [← HOO.out]
  obtain ⟨x4, t5, hx_, ht_, b4, g_t5⟩ := HGD.out.2.2.2.nextS
  refine (rg_seE HG.out.rg hs HGD.out.2.2.2.1 hx_ ht_).mono ?_
  rintro e w4 ⟨rfl, q, tq⟩
  replace HG := Lib.hid (HG.out.call q tq)
  replace HRR := Lib.hid (HRR.out.touch tq HRn.out)
  replace HBB := Lib.hid (Below.touch HBB.out tq HBn.out (Nat.le_refl _))
  have HX4 := Lib.hid (And.intro hx_ ht_)
  have HG5 := Lib.hid g_t5
  clear hx_ ht_ q tq g_t5
  have f5 := HG.out.bk.frozen 5
  have c5 := HG.out.bk.cell 5
  simp [spC] at c5
  replace HG := Lib.hid (HG.out.put (i := 5) (u := .int .i64 x4) (p' := ⟨x0 + 1, x1 + 1, x2 + 4, 1, 4, x4, [], 0, 0⟩) (by simp [spC]) rfl)
  replace HRR := Lib.hid (HRR.out.far (p := ⟨O, 5, none⟩) (fun q => hOR q.symm) (.int .i64 x4))
  replace HBB := Lib.hid (HBB.out.setCell (p := ⟨O, 5, none⟩) hOB (.int .i64 x4))
  go_wp2_with fail
  clear f5 c5
  obtain ⟨n, t6, hx_, ht_, bn, g_t6⟩ := HG5.out.next
  refine (rg_ueE HG.out.rg hs HG5.out.1 hx_ ht_).mono ?_
  rintro e w5 ⟨rfl, q, tq⟩
  replace HG := Lib.hid (HG.out.call q tq)
  replace HRR := Lib.hid (HRR.out.touch tq HRn.out)
  replace HBB := Lib.hid (Below.touch HBB.out tq HBn.out (Nat.le_refl _))
  have HFIN := Lib.hid (HVV.out.trans (HF.out x4 t5 n t6 HX4.out.1 HX4.out.2 hx_ ht_))
  have HN0 := Lib.hid (fun q => HGD.out.2.2.2.n0 HX4.out.2 hx_ ht_ q)
  have HG6 := Lib.hid g_t6
  clear hx_ ht_ q tq g_t6 HX4 HG5
  have cb := HG.out.rg.1.cell 1
  simp at cb
  obtain ⟨bad, hbad⟩ : ∃ bad, bad = t6.bad := ⟨_, rfl⟩
  rw [← hbad] at cb
  have HBAD := Lib.hid hbad
  clear hbad
  cases bad
  · have hlt0 := HG.out.lts
    by_cases hn : n ≤ 4
    · have hin : inB 0 4 n = true := inB_yes ⟨bn.1, hn⟩
      replace HFIN := Lib.hid (HFIN.out.trans (if_neg (fun q => by omega)))
      clear HN0
      go_wp2_with fail
      refine (ranges_any w5).mono ?_
      rintro e w6 ⟨rfl, hr, hb⟩
      replace HG := Lib.hid (HG.out.go hb)
      replace HRR := Lib.hid (HRR.out.go hb)
      replace HBB := Lib.hid (HBB.out.trans (hb.mono HBB.out.size))
      have r19 := hr.cell 19
      have r20 := hr.cell 20
      simp [rgV] at r19 r20
      clear hr hb cb
      go_wp2_with fail
      refine (has_in 0 4 n _).mono ?_
      rintro e w7 ⟨rfl, hb⟩
      rw [hin]
      replace HG := Lib.hid (HG.out.go hb)
      replace HRR := Lib.hid (HRR.out.go hb)
      replace HBB := Lib.hid (HBB.out.trans (hb.mono HBB.out.size))
      clear hb r19 r20 hin
      obtain ⟨N, hN⟩ : ∃ N : Nat, N = n.toNat := ⟨_, rfl⟩
      have hNn : (N : Int) = n := by omega
      subst hNn
      have hN4 : N ≤ 4 := by omega
      replace HFIN := Lib.hid (show VV = finSp (sbit s) (8 * s.size) ⟨x0 + 1, x1 + 1, x2 + 4, 1, 4, x4, cyX (sbit s) (8 * s.size) N t6, 0, 0⟩ (cyS (sbit s) (8 * s.size) N t6) from HFIN.out)
      clear hN
      go_wp2_with fail
      go_loopw [56] (fun i wr => ∃ (kk : Nat) (v : Value), kk ≤ N ∧ i = .int .i64 kk ∧ GR wr h g O (R + 1) s (cyS (sbit s) (8 * s.size) kk t6) ⟨x0 + 1, x1 + 1, x2 + 4, 1, 4, x4, cyX (sbit s) (8 * s.size) kk t6, 0, 0⟩ v ∧ Bk wr R 24 (spC .zero (.slice none 0 0)) ∧ Below w.heap.size w wr) (fun i _ => N - (intOf i).toNat)
      case atStart => exact ⟨0, .slice none 0 0, Nat.zero_le _, rfl, HG.out, HRR.out, HBB.out⟩
      case round =>
        clear HG HRR HBB
        obtain ⟨kk, v, hk, rfl, hG_, hR_, hB_⟩ := hrel
        have HG_ := Lib.hid hG_
        have HR_ := Lib.hid hR_
        have HB_ := Lib.hid hB_
        clear hG_ hR_ hB_
        by_cases hlt : kk < N
        · have hlt' : (kk : Int) < (N : Int) := by omega
          obtain ⟨Av, cv, hvs, _, _, _⟩ := own_slice HG_.out.own
          have HVS := Lib.hid hvs
          clear hvs
          have hlen := cyX_len (sbit s) (8 * s.size) kk t6
          have HLN := Lib.hid hlen
          clear hlen
          have g_kk := HG6.out.cy kk
          obtain ⟨xk, tk, hx_, ht_, bk_, g_tk⟩ := g_kk.nextS
          have HXT := Lib.hid (And.intro hx_ ht_)
          have HGK := Lib.hid g_kk
          clear hx_ ht_ g_kk g_tk
          go_wp2_with fail
          refine with_act (fun a0 ha0 => ?_)
          have hz0 : a0.tmps.size = 83 := by rw [ha0]; rfl
          have hd0 : a0.defers = [] := by rw [ha0]
          have e4 : a0.eval (.tmp 4) = .pointer (some ⟨h, 0, none⟩) := by rw [ha0]; rfl
          have e5 : a0.eval (.tmp 5) = .pointer (some ⟨O, 0, none⟩) := by rw [ha0]; rfl
          have HA0 := Lib.hid ha0
          clear ha0
          have ok : DOk 8 83 [62, 63] gsSl ((gsFx a0 58 83).map Prod.fst) := by rw [gsFx_fst]; exact gs_ok
          have lk := gsW.looks w R h g O (R + 1) s (cyS (sbit s) (8 * s.size) kk t6) (tk) ⟨x0 + 1, x1 + 1, x2 + 4, 1, 4, x4, cyX (sbit s) (8 * s.size) kk t6, 0, 0⟩ v xk 62 63
          refine wp_region_inv (by kernel_rfl) (fun L a wx => DInv 8 83 gsCs [62, 63] gsSl (gsVl h O v xk) (gsFx a0 58 83) (gsW w R h g O (R + 1) s (cyS (sbit s) (8 * s.size) kk t6) (tk) ⟨x0 + 1, x1 + 1, x2 + 4, 1, 4, x4, cyX (sbit s) (8 * s.size) kk t6, 0, 0⟩ v xk 62 63) L a wx ∧ (L.getD 5 false = true → L.getD 1 false = true)) (down_of (by kernel_rfl)) ?_ ?_ ?_
          · refine ⟨⟨hd0, hz0, fun p hp => (gsFx_mem hp).symm, fun j hj d hd hl => ?_, ?_, ?_⟩, fun q => ?_⟩
            · rw [getD_replicate_false] at hl; cases hl
            · intro j hj i hi hij hl
              rw [getD_replicate_false] at hl; cases hl
            · have e0 : stg gsCs (Array.replicate 8 false) = 0 := by decide +kernel
              show gsW w R h g O (R + 1) s (cyS (sbit s) (8 * s.size) kk t6) (tk) ⟨x0 + 1, x1 + 1, x2 + 4, 1, 4, x4, cyX (sbit s) (8 * s.size) kk t6, 0, 0⟩ v xk 62 63 (stg gsCs (Array.replicate 8 false)) _ _
              rw [e0]
              exact ⟨HB_.out.drew, HR_.out.drew, fun _ => HG_.out.drew, (fun q => by omega), (fun q => by omega), (fun q => by omega), fun q => by omega⟩
            · rw [getD_replicate_false] at q; cases q
          · rintro L a wi i o ho hsz hu hd ⟨hI, hI5⟩
            have hi : i < 8 := (Array.getElem?_eq_some_iff.1 ho).1
            have hL : L.size = 8 := hsz
            have hnu : L.getD i false = false := getD_both hu
            have hcase : i = 0 ∨ i = 1 ∨ i = 2 ∨ i = 3 ∨ i = 4 ∨ i = 5 ∨ i = 6 ∨ i = 7 := by omega
            have ho2 := ho
            have f4 : a.eval (.tmp 4) = .pointer (some ⟨h, 0, none⟩) := (hI.2.2.1 (4, a0.eval (.tmp 4)) (gsFx_in (by omega) (by omega))).trans e4
            have f5 : a.eval (.tmp 5) = .pointer (some ⟨O, 0, none⟩) := (hI.2.2.1 (5, a0.eval (.tmp 5)) (gsFx_in (by omega) (by omega))).trans e5
            have hV := hI.2.2.2.1
            have hcl := hI.2.2.2.2.1
            have hW := hI.2.2.2.2.2
            have k5 : i ≠ 5 → (L.setIfInBounds i true).getD 5 false = true → (L.setIfInBounds i true).getD 1 false = true := fun hne q => by
              rw [getD_done (by omega)] at q ⊢
              rw [if_neg (fun e => hne e.symm)] at q
              by_cases h1 : 1 = i
              · rw [if_pos h1]
              · rw [if_neg h1]; exact hI5 q
            rcases hcase with rfl | rfl | rfl | rfl | rfl | rfl | rfl | rfl
            · simp at ho2
              subst ho2
              exact op_run ho rfl (fa_sp rfl f5) ⟨hI.val ok lk hL (by omega) rfl rfl (by simp [gsCs]), k5 (by omega)⟩
            · simp at ho2
              subst ho2
              have h7 : L.getD 7 false = false := by
                cases q : L.getD 7 false
                · rfl
                · have h5 := hcl 7 (by simp [gsCs]) 5 (by simp [gsCs]) (by omega) q
                  rw [hI5 h5] at hnu
                  cases hnu
              have hbk := hW.bk (by have := stg_lt (cs := gsCs) (c := 7) (by simp [gsCs]) h7; simp [gsCs] at this ⊢; omega)
              have hc6 := hbk.cell 6
              simp [spC] at hc6
              exact op_run ho rfl (ld_sl rfl (hV 0 (by omega) 58 rfl (hd ⟨0, .data⟩ (by simp) rfl)) hc6 HVS.out) ⟨hI.val ok lk hL (by omega) rfl rfl (by simp [gsCs]), k5 (by omega)⟩
            · simp at ho2
              subst ho2
              exact op_run ho rfl (v := .pointer (some ⟨h, 0, none⟩)) (by simp only [execOp, f4]; rfl) ⟨hI.val ok lk hL (by omega) rfl rfl (by simp [gsCs]), k5 (by omega)⟩
            · simp at ho2
              subst ho2
              have hpr : ∀ j ∈ gsCs, j < 3 → L.getD j false = true := fun j hj hlt => by simp [gsCs] at hj; omega
              have hnow := hI.now (i := 3) (by simp [gsCs]) hnu hpr (k := 0) (by decide)
              have he := hV 2 (by omega) 60 rfl (hd ⟨2, .data⟩ (by simp) rfl)
              refine op_call ho rfl (f := 40) (args := #[.pointer (some ⟨h, 0, none⟩)]) (v := .int .i64 xk) (en_se rfl he) ?_
              refine (rg_seE (hnow.2.2.1 rfl).rg hs HGK.out.1 HXT.out.1 HXT.out.2).mono ?_
              rintro e w' ⟨rfl, hq, ht⟩
              refine ⟨rfl, hI.call ok lk hL (by omega) rfl rfl (by simp [gsCs]) hnu hpr (k := 1) (by decide) ?_, k5 (by omega)⟩
              exact ⟨Below.touch hnow.1 ht HBn.out (Nat.le_refl _), hnow.2.1.touch ht HRn.out, (fun q => by omega), (fun _ => (hnow.2.2.1 rfl).call hq ht), (fun q => by omega), (fun q => by omega), fun q => by omega⟩
            · simp at ho2
              subst ho2
              have p3 := hd ⟨3, .data⟩ (by simp) rfl
              have hpr : ∀ j ∈ gsCs, j < 4 → L.getD j false = true := fun j hj hlt => by
                simp [gsCs] at hj
                obtain rfl : j = 3 := by omega
                exact p3
              have hnow := hI.now (i := 4) (by simp [gsCs]) hnu hpr (k := 1) (by decide)
              have hg := hnow.2.2.2.1 rfl
              refine op_run ho rfl (bs_one rfl (hV 3 (by omega) 61 rfl p3)) ⟨hI.give ok hL (by omega) rfl (by simp) (by simp [gsCs]) hnu hpr (k := 2) (by decide) ?_, k5 (by omega)⟩
              exact ⟨hnow.1.alloc hnow.1.size _, hnow.2.1.alloc _, (fun q => by omega), (fun q => by omega), (fun _ => ⟨hg.go ((Below.refl _ _).alloc (Nat.le_refl _) _), wi.heap.size, by simp, (Bk.new wi _ _).cell 0⟩), (fun q => by omega), fun q => by omega⟩
            · simp at ho2
              have hop : o.op = .call { callee := .builtin .append, args := #[.tmp 59, .tmp 62], argTypes := #[22, 22] } := by rw [← ho2]
              have p4 := hd ⟨4, .data⟩ (by rw [← ho2]; simp) rfl
              have p1 := hd ⟨1, .data⟩ (by rw [← ho2]; simp) rfl
              have hpr : ∀ j ∈ gsCs, j < 5 → L.getD j false = true := fun j hj hlt => by
                simp [gsCs] at hj
                by_cases h4 : j = 4
                · subst h4; exact p4
                · exact hcl 4 (by simp [gsCs]) j (by simp [gsCs]; omega) (by omega) p4
              have hnow := hI.now (i := 5) (by simp [gsCs]) hnu hpr (k := 2) (by decide)
              obtain ⟨hg, M, hm1, hm2⟩ := hnow.2.2.2.2.1 rfl
              obtain ⟨v', w', hrun, hown, hgr, hat⟩ := ap_one hop (hV 1 (by omega) 59 rfl p1) hm1 hg.own hm2 (by show (cyX (sbit s) (8 * s.size) kk t6).length ≤ _; rw [HLN.out]; omega) (by have := HR_.out.lt; have := hg.rg.1.lt; have := hnow.1.size; omega)
              obtain ⟨q1, q2, q3, q4⟩ := hg.grow hown hgr hat
              subst ho2
              refine op_run ho rfl hrun ⟨hI.give ok hL (by omega) rfl (by simp) (by simp [gsCs]) hnu hpr (k := 3) (by decide) ?_, fun _ => ?_⟩
              · refine ⟨hnow.1.grown hgr hnow.1.size (fun k hk => ?_), hnow.2.1.grown hgr (fun q => ?_), (fun q => by omega), (fun q => by omega), (fun q => by omega), (fun _ => ?_), fun q => by omega⟩
                · have := (hg.own.lt k hk).1
                  omega
                · have := (hg.own.lt R q.symm).1
                  omega
                · simp only [if_true]
                  exact ⟨⟨q1, q2⟩, hown, q3, q4⟩
              · rw [getD_done (by omega), if_neg (by omega)]
                exact p1
            · simp at ho2
              subst ho2
              exact op_run ho rfl (fa_sp rfl f5) ⟨hI.val ok lk hL (by omega) rfl rfl (by simp [gsCs]), k5 (by omega)⟩
            · simp at ho2
              subst ho2
              have p5 := hd ⟨5, .data⟩ (by simp) rfl
              have p6 := hd ⟨6, .data⟩ (by simp) rfl
              have hpr : ∀ j ∈ gsCs, j < 7 → L.getD j false = true := fun j hj hlt => by
                simp [gsCs] at hj
                by_cases h5 : j = 5
                · subst h5; exact p5
                · exact hcl 5 (by simp [gsCs]) j (by simp [gsCs]; omega) (by omega) p5
              have hnow := hI.now (i := 7) (by simp [gsCs]) hnu hpr (k := 3) (by decide)
              obtain ⟨⟨q1, q2⟩, hown, q3, q4⟩ := hnow.2.2.2.2.2.1 rfl
              obtain ⟨A', c', hvv, _⟩ := own_slice hown
              have hc6 := q2.cell 6
              simp [spC] at hc6
              refine op_skip ho rfl (st_sl rfl (hV 6 (by omega) 64 rfl p6) rfl hvv hc6 (q2.frozen 6)) ?_
              refine ⟨hI.store hL (by omega) rfl (by simp [gsCs]) hnu hpr (k := 4) (by decide) ?_, k5 (by omega)⟩
              have hl := GR.lay q1 q2 hOh hOg hhg hown q3 q4
              exact ⟨hnow.1.setCell hOB _, hnow.2.1.far (fun q => hOR q.symm) _, (fun q => by omega), (fun q => by omega), (fun q => by omega), (fun q => by omega), fun _ => ⟨_, hl⟩⟩
          intro L a wi hsz hl hI
          have hall : ∀ i, i < 8 → L.getD i false = true := fun i hi => by
            have h1 := hl i hi
            have h2 : i < L.size := by rw [hsz]; exact hi
            simp [h2] at h1 ⊢
            exact h1
          have hst : stg gsCs L = 4 := by
            unfold stg
            rw [List.filter_eq_self.2 (fun c hc => hall c (by simp [gsCs] at hc; omega))]
            rfl
          obtain ⟨⟨i0, i1, i2, i3, i4, i5⟩, _⟩ := hI
          rw [hst] at i5
          obtain ⟨v9, hG9⟩ := i5.2.2.2.2.2.2 rfl
          have HG9 := Lib.hid hG9
          have HR9 := Lib.hid i5.2.1
          have HB9 := Lib.hid i5.1
          obtain ⟨y0, y1, y2, y3, y4, y5, y6, hya⟩ := act_back (a := a) (a0 := a0) 58 (i1.trans hz0.symm) (i0.trans hd0.symm) (by rw [hz0]; omega) (fun t ht hlt => i2 (t, a0.eval (.tmp t)) (gsFx_in (by omega) hlt))
          rw [hya, HA0.out]
          clear hya HA0 i0 i1 i2 i3 i4 i5 hst hall hl hsz hG9 ok lk e4 e5 hz0 hd0 a0 a
          simp [put7]
          go_wp2_with fail
          go_roundw
          case rel =>
            refine ⟨kk + 1, v9, by omega, by go_num, ?_, HR9.out, HB9.out⟩
            have hh := HG9.out
            rw [← HXT.out.1, ← HXT.out.2] at hh
            exact hh
          case measure => simp [intOf]; omega
        · have hkN : kk = N := by omega
          subst hkN
          have hlt' : ¬ (kk : Int) < (kk : Int) := by omega
          obtain ⟨CY, hCY⟩ : ∃ CY, CY = cyX (sbit s) (8 * s.size) kk t6 := ⟨_, rfl⟩
          obtain ⟨T, hT⟩ : ∃ T, T = cyS (sbit s) (8 * s.size) kk t6 := ⟨_, rfl⟩
          have hlc : CY.length ≤ 4 := by rw [hCY, cyX_len]; omega
          have gT := HG6.out.cy kk
          have hfin := HFIN.out
          have hG_ := HG_.out
          rw [← hCY, ← hT] at hfin hG_
          rw [← hT] at gT
          obtain ⟨A, c, rfl, hnc, _, _⟩ := own_slice hG_.own
          replace HFIN := Lib.hid hfin
          have HG := Lib.hid hG_
          have HRR := HR_
          have HBB := HB_
          have HGT6 := Lib.hid gT
          clear hfin hG_ gT HG_ HR_ HB_ hCY hT
          go_wp2_with fail
          obtain ⟨x7, T1, hx_, ht_, b7, g_T1⟩ := HGT6.out.next
          refine (rg_ueE HG.out.rg hs HGT6.out.1 hx_ ht_).mono ?_
          rintro e wa ⟨rfl, q, tq⟩
          replace HG := Lib.hid (HG.out.call q tq)
          replace HRR := Lib.hid (HRR.out.touch tq HRn.out)
          replace HBB := Lib.hid (Below.touch HBB.out tq HBn.out (Nat.le_refl _))
          have HX7 := Lib.hid (And.intro hx_ ht_)
          have HGT := Lib.hid g_T1
          clear hx_ ht_ g_T1 q tq
          go_wp2_with fail
          obtain ⟨x8, T2, hx_, ht_, b8, g_T2⟩ := HGT.out.next
          refine (rg_ueE HG.out.rg hs HGT.out.1 hx_ ht_).mono ?_
          rintro e wb ⟨rfl, q, tq⟩
          replace HG := Lib.hid (HG.out.call q tq)
          replace HRR := Lib.hid (HRR.out.touch tq HRn.out)
          replace HBB := Lib.hid (Below.touch HBB.out tq HBn.out (Nat.le_refl _))
          obtain ⟨b, hb⟩ : ∃ b, (!T2.bad && ((trailR (sbit s) (8 * s.size) T2.a).1 : Int) == 0) = b := ⟨_, rfl⟩
          have hfin := finSp_form (p := ⟨x0 + 1, x1 + 1, x2 + 4, 1, 4, x4, CY, 0, 0⟩) HX7.out.1 HX7.out.2 hx_ ht_ hb
          rw [← HFIN.out] at hfin
          replace HFIN := Lib.hid hfin
          have HB_ := Lib.hid hb
          have HG2_ := Lib.hid g_T2
          clear hx_ ht_ q tq hfin hb g_T2 HX7 HGT
          have f7 := HG.out.bk.frozen 7
          have f8 := HG.out.bk.frozen 8
          have c7 := HG.out.bk.cell 7
          have c8 := HG.out.bk.cell 8
          simp [spC] at c7 c8
          replace HG := Lib.hid ((HG.out.put (i := 7) (u := .int .i64 x7) (p' := ⟨x0 + 1, x1 + 1, x2 + 4, 1, 4, x4, CY, x7, 0⟩) (by simp [spC]) rfl).put (i := 8) (u := .int .i64 x8) (p' := ⟨x0 + 1, x1 + 1, x2 + 4, 1, 4, x4, CY, x7, x8⟩) (by simp [spC]) rfl)
          replace HRR := Lib.hid ((HRR.out.far (p := ⟨O, 7, none⟩) (fun q => hOR q.symm) (.int .i64 x7)).far (p := ⟨O, 8, none⟩) (fun q => hOR q.symm) (.int .i64 x8))
          replace HBB := Lib.hid ((HBB.out.setCell (p := ⟨O, 7, none⟩) hOB (.int .i64 x7)).setCell (p := ⟨O, 8, none⟩) hOB (.int .i64 x8))
          go_wp2_with fail
          refine (rg_overE HG.out.rg hs HG2_.out.1 HB_.out).mono ?_
          rintro e wd ⟨rfl, tq⟩
          have HA := Lib.hid (HG.out.after tq)
          replace HRR := Lib.hid (HRR.out.touch tq HRn.out)
          replace HBB := Lib.hid (Below.touch HBB.out tq HBn.out (Nat.le_refl _))
          have HV := Lib.hid HG.out.vr
          clear tq f7 f8 c7 c8 HG
          have hRlt := HRR.out.lt
          cases b
          · have hvv := HFIN.out
            rw [if_pos rfl] at hvv
            have HVE := Lib.hid hvv
            clear hvv
            have c0 := HRR.out.cell 0
            have f0 := HRR.out.frozen 0
            have c1 := HRR.out.cell 1
            have f1 := HRR.out.frozen 1
            have c2 := HRR.out.cell 2
            have f2 := HRR.out.frozen 2
            have c3 := HRR.out.cell 3
            have f3 := HRR.out.frozen 3
            have c4 := HRR.out.cell 4
            have f4 := HRR.out.frozen 4
            have c5 := HRR.out.cell 5
            have f5 := HRR.out.frozen 5
            have c6 := HRR.out.cell 6
            have f6 := HRR.out.frozen 6
            have c7 := HRR.out.cell 7
            have f7 := HRR.out.frozen 7
            have c8 := HRR.out.cell 8
            have f8 := HRR.out.frozen 8
            simp [spC, Sp.zero] at c0 c1 c2 c3 c4 c5 c6 c7 c8
            go_wp2_with fail
            have hq := sps_put .zero (.slice none 0 0) HRR.out
            simp only [Sp.zero] at hq
            have HB9 := Lib.hid (Below.touch HBB.out hq.2 (fun i hi q => by omega) (Nat.le_refl _))
            generalize ((((((((wd.setCell ⟨R, 0, none⟩ (.int .i64 0)).setCell ⟨R, 1, none⟩ (.int .i64 0)).setCell ⟨R, 2, none⟩ (.int .i64 0)).setCell ⟨R, 3, none⟩ (.int .i64 0)).setCell ⟨R, 4, none⟩ (.int .i64 0)).setCell ⟨R, 5, none⟩ (.int .i64 0)).setCell ⟨R, 6, none⟩ (.slice none 0 0)).setCell ⟨R, 7, none⟩ (.int .i64 0)).setCell ⟨R, 8, none⟩ (.int .i64 0) = w9 at hq HB9 ⊢
            have d0 := hq.1.cell 0
            have d1 := hq.1.cell 1
            have d2 := hq.1.cell 2
            have d3 := hq.1.cell 3
            have d4 := hq.1.cell 4
            have d5 := hq.1.cell 5
            have d6 := hq.1.cell 6
            have d7 := hq.1.cell 7
            have d8 := hq.1.cell 8
            simp [spC] at d0 d1 d2 d3 d4 d5 d6 d7 d8
            exact bodyPost_ret (v := .tuple #[.agg #[.int .i64 0, .int .i64 0, .int .i64 0, .int .i64 0, .int .i64 0, .int .i64 0, .slice none 0 0, .int .i64 0, .int .i64 0], .int .i64 300]) (by simp [results, Try.results13, go_sem, d0, d1, d2, d3, d4, d5, d6, d7, d8]) rfl (GPost.mk (.slice none 0 0) (by rw [HVE.out]; rfl) (by rw [HVE.out]; exact own_nil_int _ _) HB9.out)
          · have hvv := HFIN.out
            rw [if_neg (by simp)] at hvv
            have HVV2 := Lib.hid hvv
            clear hvv
            have m0 := HA.out.1.cell 0
            have m1 := HA.out.1.cell 1
            have m2 := HA.out.1.cell 2
            have m3 := HA.out.1.cell 3
            have m4 := HA.out.1.cell 4
            have m5 := HA.out.1.cell 5
            have m6 := HA.out.1.cell 6
            have m7 := HA.out.1.cell 7
            have m8 := HA.out.1.cell 8
            simp [spC] at m0 m1 m2 m3 m4 m5 m6 m7 m8
            go_wp2_with fail
            refine (maysp_any ⟨x0 + 1, x1 + 1, x2 + 4, 1, 4, x4, CY, x7, x8⟩ A c _ (show SpAt _ _ ⟨x0 + 1, x1 + 1, x2 + 4, 1, 4, x4, CY, x7, x8⟩ A from SpAt.of_own HA.out.2) (by show CY.length ≤ _; omega)).mono ?_
            rintro e we ⟨rfl, hb5⟩
            replace HA := Lib.hid (And.intro (HA.out.1.go hb5) (own_go HA.out.2 hb5))
            replace HRR := Lib.hid (HRR.out.go hb5)
            replace HBB := Lib.hid (HBB.out.trans (hb5.mono HBB.out.size))
            clear hb5 m0 m1 m2 m3 m4 m5 m6 m7 m8
            have hRlt := HRR.out.lt
            have m0 := HA.out.1.cell 0
            have m1 := HA.out.1.cell 1
            have m2 := HA.out.1.cell 2
            have m3 := HA.out.1.cell 3
            have m4 := HA.out.1.cell 4
            have m5 := HA.out.1.cell 5
            have m6 := HA.out.1.cell 6
            have m7 := HA.out.1.cell 7
            have m8 := HA.out.1.cell 8
            simp [spC] at m0 m1 m2 m3 m4 m5 m6 m7 m8
            cases hmy : maySp ⟨x0 + 1, x1 + 1, x2 + 4, 1, 4, x4, CY, x7, x8⟩
            · have hvv := HVV2.out
              rw [hmy, if_neg (by simp)] at hvv
              clear hmy
              have HVE := Lib.hid hvv
              clear hvv
              have c0 := HRR.out.cell 0
              have f0 := HRR.out.frozen 0
              have c1 := HRR.out.cell 1
              have f1 := HRR.out.frozen 1
              have c2 := HRR.out.cell 2
              have f2 := HRR.out.frozen 2
              have c3 := HRR.out.cell 3
              have f3 := HRR.out.frozen 3
              have c4 := HRR.out.cell 4
              have f4 := HRR.out.frozen 4
              have c5 := HRR.out.cell 5
              have f5 := HRR.out.frozen 5
              have c6 := HRR.out.cell 6
              have f6 := HRR.out.frozen 6
              have c7 := HRR.out.cell 7
              have f7 := HRR.out.frozen 7
              have c8 := HRR.out.cell 8
              have f8 := HRR.out.frozen 8
              simp [spC, Sp.zero] at c0 c1 c2 c3 c4 c5 c6 c7 c8
              go_wp2_with fail
              have hq := sps_put .zero (.slice none 0 0) HRR.out
              simp only [Sp.zero] at hq
              have HB9 := Lib.hid (Below.touch HBB.out hq.2 (fun i hi q => by omega) (Nat.le_refl _))
              generalize ((((((((we.setCell ⟨R, 0, none⟩ (.int .i64 0)).setCell ⟨R, 1, none⟩ (.int .i64 0)).setCell ⟨R, 2, none⟩ (.int .i64 0)).setCell ⟨R, 3, none⟩ (.int .i64 0)).setCell ⟨R, 4, none⟩ (.int .i64 0)).setCell ⟨R, 5, none⟩ (.int .i64 0)).setCell ⟨R, 6, none⟩ (.slice none 0 0)).setCell ⟨R, 7, none⟩ (.int .i64 0)).setCell ⟨R, 8, none⟩ (.int .i64 0) = w9 at hq HB9 ⊢
              have d0 := hq.1.cell 0
              have d1 := hq.1.cell 1
              have d2 := hq.1.cell 2
              have d3 := hq.1.cell 3
              have d4 := hq.1.cell 4
              have d5 := hq.1.cell 5
              have d6 := hq.1.cell 6
              have d7 := hq.1.cell 7
              have d8 := hq.1.cell 8
              simp [spC] at d0 d1 d2 d3 d4 d5 d6 d7 d8
              exact bodyPost_ret (v := .tuple #[.agg #[.int .i64 0, .int .i64 0, .int .i64 0, .int .i64 0, .int .i64 0, .int .i64 0, .slice none 0 0, .int .i64 0, .int .i64 0], .int .i64 301]) (by simp [results, Try.results13, go_sem, d0, d1, d2, d3, d4, d5, d6, d7, d8]) rfl (GPost.mk (.slice none 0 0) (by rw [HVE.out]; rfl) (by rw [HVE.out]; exact own_nil_int _ _) HB9.out)
            · have hvv := HVV2.out
              rw [hmy, if_pos rfl] at hvv
              have HVE := Lib.hid hvv
              clear hvv hmy
              have c0 := HRR.out.cell 0
              have f0 := HRR.out.frozen 0
              have c1 := HRR.out.cell 1
              have f1 := HRR.out.frozen 1
              have c2 := HRR.out.cell 2
              have f2 := HRR.out.frozen 2
              have c3 := HRR.out.cell 3
              have f3 := HRR.out.frozen 3
              have c4 := HRR.out.cell 4
              have f4 := HRR.out.frozen 4
              have c5 := HRR.out.cell 5
              have f5 := HRR.out.frozen 5
              have c6 := HRR.out.cell 6
              have f6 := HRR.out.frozen 6
              have c7 := HRR.out.cell 7
              have f7 := HRR.out.frozen 7
              have c8 := HRR.out.cell 8
              have f8 := HRR.out.frozen 8
              simp [spC, Sp.zero] at c0 c1 c2 c3 c4 c5 c6 c7 c8
              go_wp2_with fail
              have hq := sps_put ⟨x0 + 1, x1 + 1, x2 + 4, 1, 4, x4, CY, x7, x8⟩ (.slice A CY.length c) HRR.out
              simp only at hq
              have HOWN := Lib.hid (own_touch HA.out.2 hq.2 (fun k hk q => by have := (HA.out.2.lt k hk).1; omega))
              have HB9 := Lib.hid (Below.touch HBB.out hq.2 (fun i hi q => by omega) (Nat.le_refl _))
              generalize ((((((((we.setCell ⟨R, 0, none⟩ (.int .i64 (x0 + 1))).setCell ⟨R, 1, none⟩ (.int .i64 (x1 + 1))).setCell ⟨R, 2, none⟩ (.int .i64 (x2 + 4))).setCell ⟨R, 3, none⟩ (.int .i64 1)).setCell ⟨R, 4, none⟩ (.int .i64 (4))).setCell ⟨R, 5, none⟩ (.int .i64 x4)).setCell ⟨R, 6, none⟩ (.slice A CY.length c)).setCell ⟨R, 7, none⟩ (.int .i64 x7)).setCell ⟨R, 8, none⟩ (.int .i64 x8) = w9 at hq HOWN HB9 ⊢
              have d0 := hq.1.cell 0
              have d1 := hq.1.cell 1
              have d2 := hq.1.cell 2
              have d3 := hq.1.cell 3
              have d4 := hq.1.cell 4
              have d5 := hq.1.cell 5
              have d6 := hq.1.cell 6
              have d7 := hq.1.cell 7
              have d8 := hq.1.cell 8
              simp [spC] at d0 d1 d2 d3 d4 d5 d6 d7 d8
              exact bodyPost_ret (v := .tuple #[.agg #[.int .i64 (x0 + 1), .int .i64 (x1 + 1), .int .i64 (x2 + 4), .int .i64 1, .int .i64 (4), .int .i64 x4, .slice A CY.length c, .int .i64 x7, .int .i64 x8], .int .i64 0]) (by simp [results, Try.results13, go_sem, d0, d1, d2, d3, d4, d5, d6, d7, d8]) rfl (GPost.mk (.slice A CY.length c) (by rw [HVE.out]; rfl) (by rw [HVE.out]; exact own_less HOWN.out (by omega)) HB9.out)
    · have hin : inB 0 4 n = false := inB_no (fun q => hn q.2)
      have hvv := HFIN.out.trans (if_pos ⟨HBAD.out.symm, by omega⟩)
      have HVV3 := Lib.hid hvv
      clear HN0 hvv
      go_wp2_with fail
      refine (ranges_any w5).mono ?_
      rintro e w6 ⟨rfl, hr, hb⟩
      replace HRR := Lib.hid (HRR.out.go hb)
      replace HBB := Lib.hid (HBB.out.trans (hb.mono HBB.out.size))
      have r19 := hr.cell 19
      have r20 := hr.cell 20
      simp [rgV] at r19 r20
      clear hr hb cb
      go_wp2_with fail
      refine (has_in 0 4 n _).mono ?_
      rintro e w7 ⟨rfl, hb⟩
      rw [hin]
      replace HRR := Lib.hid (HRR.out.go hb)
      replace HBB := Lib.hid (HBB.out.trans (hb.mono HBB.out.size))
      clear hb r19 r20 hin HG
      have hRlt := HRR.out.lt
      have hvv := HVV3.out
      have HVE := Lib.hid hvv
      clear hvv
      have c0 := HRR.out.cell 0
      have f0 := HRR.out.frozen 0
      have c1 := HRR.out.cell 1
      have f1 := HRR.out.frozen 1
      have c2 := HRR.out.cell 2
      have f2 := HRR.out.frozen 2
      have c3 := HRR.out.cell 3
      have f3 := HRR.out.frozen 3
      have c4 := HRR.out.cell 4
      have f4 := HRR.out.frozen 4
      have c5 := HRR.out.cell 5
      have f5 := HRR.out.frozen 5
      have c6 := HRR.out.cell 6
      have f6 := HRR.out.frozen 6
      have c7 := HRR.out.cell 7
      have f7 := HRR.out.frozen 7
      have c8 := HRR.out.cell 8
      have f8 := HRR.out.frozen 8
      simp [spC, Sp.zero] at c0 c1 c2 c3 c4 c5 c6 c7 c8
      go_wp2_with fail
      have hq := sps_put .zero (.slice none 0 0) HRR.out
      simp only [Sp.zero] at hq
      have HB9 := Lib.hid (Below.touch HBB.out hq.2 (fun i hi q => by omega) (Nat.le_refl _))
      generalize ((((((((w7.setCell ⟨R, 0, none⟩ (.int .i64 0)).setCell ⟨R, 1, none⟩ (.int .i64 0)).setCell ⟨R, 2, none⟩ (.int .i64 0)).setCell ⟨R, 3, none⟩ (.int .i64 0)).setCell ⟨R, 4, none⟩ (.int .i64 0)).setCell ⟨R, 5, none⟩ (.int .i64 0)).setCell ⟨R, 6, none⟩ (.slice none 0 0)).setCell ⟨R, 7, none⟩ (.int .i64 0)).setCell ⟨R, 8, none⟩ (.int .i64 0) = w9 at hq HB9 ⊢
      have d0 := hq.1.cell 0
      have d1 := hq.1.cell 1
      have d2 := hq.1.cell 2
      have d3 := hq.1.cell 3
      have d4 := hq.1.cell 4
      have d5 := hq.1.cell 5
      have d6 := hq.1.cell 6
      have d7 := hq.1.cell 7
      have d8 := hq.1.cell 8
      simp [spC] at d0 d1 d2 d3 d4 d5 d6 d7 d8
      exact bodyPost_ret (v := .tuple #[.agg #[.int .i64 0, .int .i64 0, .int .i64 0, .int .i64 0, .int .i64 0, .int .i64 0, .slice none 0 0, .int .i64 0, .int .i64 0], .int .i64 301]) (by simp [results, Try.results13, go_sem, d0, d1, d2, d3, d4, d5, d6, d7, d8]) rfl (GPost.mk (.slice none 0 0) (by rw [HVE.out]; rfl) (by rw [HVE.out]; exact own_nil_int _ _) HB9.out)
  · have hn0 : n = 0 := HN0.out HBAD.out.symm
    subst hn0
    replace HFIN := Lib.hid (HFIN.out.trans (if_neg (fun q => by omega)))
    clear HN0
    obtain ⟨n, hnn⟩ : ∃ n : Int, n = 0 := ⟨_, rfl⟩
    rw [← hnn] at HFIN bn ⊢
    have hn : n ≤ 4 := by omega
    go_wp2_with fail
    obtain ⟨N, hN⟩ : ∃ N : Nat, N = n.toNat := ⟨_, rfl⟩
    have hNn : (N : Int) = n := by omega
    subst hNn
    have hN4 : N ≤ 4 := by omega
    replace HFIN := Lib.hid (show VV = finSp (sbit s) (8 * s.size) ⟨x0 + 1, x1 + 1, x2 + 4, 1, 4, x4, cyX (sbit s) (8 * s.size) N t6, 0, 0⟩ (cyS (sbit s) (8 * s.size) N t6) from HFIN.out)
    clear hN
    go_wp2_with fail
    go_loopw [56] (fun i wr => ∃ (kk : Nat) (v : Value), kk ≤ N ∧ i = .int .i64 kk ∧ GR wr h g O (R + 1) s (cyS (sbit s) (8 * s.size) kk t6) ⟨x0 + 1, x1 + 1, x2 + 4, 1, 4, x4, cyX (sbit s) (8 * s.size) kk t6, 0, 0⟩ v ∧ Bk wr R 24 (spC .zero (.slice none 0 0)) ∧ Below w.heap.size w wr) (fun i _ => N - (intOf i).toNat)
    case atStart => exact ⟨0, .slice none 0 0, Nat.zero_le _, rfl, HG.out, HRR.out, HBB.out⟩
    case round =>
      clear HG HRR HBB
      obtain ⟨kk, v, hk, rfl, hG_, hR_, hB_⟩ := hrel
      have HG_ := Lib.hid hG_
      have HR_ := Lib.hid hR_
      have HB_ := Lib.hid hB_
      clear hG_ hR_ hB_
      by_cases hlt : kk < N
      · exfalso; omega
      · have hkN : kk = N := by omega
        subst hkN
        have hlt' : ¬ (kk : Int) < (kk : Int) := by omega
        obtain ⟨CY, hCY⟩ : ∃ CY, CY = cyX (sbit s) (8 * s.size) kk t6 := ⟨_, rfl⟩
        obtain ⟨T, hT⟩ : ∃ T, T = cyS (sbit s) (8 * s.size) kk t6 := ⟨_, rfl⟩
        have hlc : CY.length ≤ 4 := by rw [hCY, cyX_len]; omega
        have gT := HG6.out.cy kk
        have hfin := HFIN.out
        have hG_ := HG_.out
        rw [← hCY, ← hT] at hfin hG_
        rw [← hT] at gT
        obtain ⟨A, c, rfl, hnc, _, _⟩ := own_slice hG_.own
        replace HFIN := Lib.hid hfin
        have HG := Lib.hid hG_
        have HRR := HR_
        have HBB := HB_
        have HGT6 := Lib.hid gT
        clear hfin hG_ gT HG_ HR_ HB_ hCY hT
        go_wp2_with fail
        obtain ⟨x7, T1, hx_, ht_, b7, g_T1⟩ := HGT6.out.next
        refine (rg_ueE HG.out.rg hs HGT6.out.1 hx_ ht_).mono ?_
        rintro e wa ⟨rfl, q, tq⟩
        replace HG := Lib.hid (HG.out.call q tq)
        replace HRR := Lib.hid (HRR.out.touch tq HRn.out)
        replace HBB := Lib.hid (Below.touch HBB.out tq HBn.out (Nat.le_refl _))
        have HX7 := Lib.hid (And.intro hx_ ht_)
        have HGT := Lib.hid g_T1
        clear hx_ ht_ g_T1 q tq
        go_wp2_with fail
        obtain ⟨x8, T2, hx_, ht_, b8, g_T2⟩ := HGT.out.next
        refine (rg_ueE HG.out.rg hs HGT.out.1 hx_ ht_).mono ?_
        rintro e wb ⟨rfl, q, tq⟩
        replace HG := Lib.hid (HG.out.call q tq)
        replace HRR := Lib.hid (HRR.out.touch tq HRn.out)
        replace HBB := Lib.hid (Below.touch HBB.out tq HBn.out (Nat.le_refl _))
        obtain ⟨b, hb⟩ : ∃ b, (!T2.bad && ((trailR (sbit s) (8 * s.size) T2.a).1 : Int) == 0) = b := ⟨_, rfl⟩
        have hfin := finSp_form (p := ⟨x0 + 1, x1 + 1, x2 + 4, 1, 4, x4, CY, 0, 0⟩) HX7.out.1 HX7.out.2 hx_ ht_ hb
        rw [← HFIN.out] at hfin
        replace HFIN := Lib.hid hfin
        have HB_ := Lib.hid hb
        have HG2_ := Lib.hid g_T2
        clear hx_ ht_ q tq hfin hb g_T2 HX7 HGT
        have f7 := HG.out.bk.frozen 7
        have f8 := HG.out.bk.frozen 8
        have c7 := HG.out.bk.cell 7
        have c8 := HG.out.bk.cell 8
        simp [spC] at c7 c8
        replace HG := Lib.hid ((HG.out.put (i := 7) (u := .int .i64 x7) (p' := ⟨x0 + 1, x1 + 1, x2 + 4, 1, 4, x4, CY, x7, 0⟩) (by simp [spC]) rfl).put (i := 8) (u := .int .i64 x8) (p' := ⟨x0 + 1, x1 + 1, x2 + 4, 1, 4, x4, CY, x7, x8⟩) (by simp [spC]) rfl)
        replace HRR := Lib.hid ((HRR.out.far (p := ⟨O, 7, none⟩) (fun q => hOR q.symm) (.int .i64 x7)).far (p := ⟨O, 8, none⟩) (fun q => hOR q.symm) (.int .i64 x8))
        replace HBB := Lib.hid ((HBB.out.setCell (p := ⟨O, 7, none⟩) hOB (.int .i64 x7)).setCell (p := ⟨O, 8, none⟩) hOB (.int .i64 x8))
        go_wp2_with fail
        refine (rg_overE HG.out.rg hs HG2_.out.1 HB_.out).mono ?_
        rintro e wd ⟨rfl, tq⟩
        have HA := Lib.hid (HG.out.after tq)
        replace HRR := Lib.hid (HRR.out.touch tq HRn.out)
        replace HBB := Lib.hid (Below.touch HBB.out tq HBn.out (Nat.le_refl _))
        have HV := Lib.hid HG.out.vr
        clear tq f7 f8 c7 c8 HG
        have hRlt := HRR.out.lt
        cases b
        · have hvv := HFIN.out
          rw [if_pos rfl] at hvv
          have HVE := Lib.hid hvv
          clear hvv
          have c0 := HRR.out.cell 0
          have f0 := HRR.out.frozen 0
          have c1 := HRR.out.cell 1
          have f1 := HRR.out.frozen 1
          have c2 := HRR.out.cell 2
          have f2 := HRR.out.frozen 2
          have c3 := HRR.out.cell 3
          have f3 := HRR.out.frozen 3
          have c4 := HRR.out.cell 4
          have f4 := HRR.out.frozen 4
          have c5 := HRR.out.cell 5
          have f5 := HRR.out.frozen 5
          have c6 := HRR.out.cell 6
          have f6 := HRR.out.frozen 6
          have c7 := HRR.out.cell 7
          have f7 := HRR.out.frozen 7
          have c8 := HRR.out.cell 8
          have f8 := HRR.out.frozen 8
          simp [spC, Sp.zero] at c0 c1 c2 c3 c4 c5 c6 c7 c8
          go_wp2_with fail
          have hq := sps_put .zero (.slice none 0 0) HRR.out
          simp only [Sp.zero] at hq
          have HB9 := Lib.hid (Below.touch HBB.out hq.2 (fun i hi q => by omega) (Nat.le_refl _))
          generalize ((((((((wd.setCell ⟨R, 0, none⟩ (.int .i64 0)).setCell ⟨R, 1, none⟩ (.int .i64 0)).setCell ⟨R, 2, none⟩ (.int .i64 0)).setCell ⟨R, 3, none⟩ (.int .i64 0)).setCell ⟨R, 4, none⟩ (.int .i64 0)).setCell ⟨R, 5, none⟩ (.int .i64 0)).setCell ⟨R, 6, none⟩ (.slice none 0 0)).setCell ⟨R, 7, none⟩ (.int .i64 0)).setCell ⟨R, 8, none⟩ (.int .i64 0) = w9 at hq HB9 ⊢
          have d0 := hq.1.cell 0
          have d1 := hq.1.cell 1
          have d2 := hq.1.cell 2
          have d3 := hq.1.cell 3
          have d4 := hq.1.cell 4
          have d5 := hq.1.cell 5
          have d6 := hq.1.cell 6
          have d7 := hq.1.cell 7
          have d8 := hq.1.cell 8
          simp [spC] at d0 d1 d2 d3 d4 d5 d6 d7 d8
          exact bodyPost_ret (v := .tuple #[.agg #[.int .i64 0, .int .i64 0, .int .i64 0, .int .i64 0, .int .i64 0, .int .i64 0, .slice none 0 0, .int .i64 0, .int .i64 0], .int .i64 300]) (by simp [results, Try.results13, go_sem, d0, d1, d2, d3, d4, d5, d6, d7, d8]) rfl (GPost.mk (.slice none 0 0) (by rw [HVE.out]; rfl) (by rw [HVE.out]; exact own_nil_int _ _) HB9.out)
        · have hvv := HFIN.out
          rw [if_neg (by simp)] at hvv
          have HVV2 := Lib.hid hvv
          clear hvv
          have m0 := HA.out.1.cell 0
          have m1 := HA.out.1.cell 1
          have m2 := HA.out.1.cell 2
          have m3 := HA.out.1.cell 3
          have m4 := HA.out.1.cell 4
          have m5 := HA.out.1.cell 5
          have m6 := HA.out.1.cell 6
          have m7 := HA.out.1.cell 7
          have m8 := HA.out.1.cell 8
          simp [spC] at m0 m1 m2 m3 m4 m5 m6 m7 m8
          go_wp2_with fail
          refine (maysp_any ⟨x0 + 1, x1 + 1, x2 + 4, 1, 4, x4, CY, x7, x8⟩ A c _ (show SpAt _ _ ⟨x0 + 1, x1 + 1, x2 + 4, 1, 4, x4, CY, x7, x8⟩ A from SpAt.of_own HA.out.2) (by show CY.length ≤ _; omega)).mono ?_
          rintro e we ⟨rfl, hb5⟩
          replace HA := Lib.hid (And.intro (HA.out.1.go hb5) (own_go HA.out.2 hb5))
          replace HRR := Lib.hid (HRR.out.go hb5)
          replace HBB := Lib.hid (HBB.out.trans (hb5.mono HBB.out.size))
          clear hb5 m0 m1 m2 m3 m4 m5 m6 m7 m8
          have hRlt := HRR.out.lt
          have m0 := HA.out.1.cell 0
          have m1 := HA.out.1.cell 1
          have m2 := HA.out.1.cell 2
          have m3 := HA.out.1.cell 3
          have m4 := HA.out.1.cell 4
          have m5 := HA.out.1.cell 5
          have m6 := HA.out.1.cell 6
          have m7 := HA.out.1.cell 7
          have m8 := HA.out.1.cell 8
          simp [spC] at m0 m1 m2 m3 m4 m5 m6 m7 m8
          cases hmy : maySp ⟨x0 + 1, x1 + 1, x2 + 4, 1, 4, x4, CY, x7, x8⟩
          · have hvv := HVV2.out
            rw [hmy, if_neg (by simp)] at hvv
            clear hmy
            have HVE := Lib.hid hvv
            clear hvv
            have c0 := HRR.out.cell 0
            have f0 := HRR.out.frozen 0
            have c1 := HRR.out.cell 1
            have f1 := HRR.out.frozen 1
            have c2 := HRR.out.cell 2
            have f2 := HRR.out.frozen 2
            have c3 := HRR.out.cell 3
            have f3 := HRR.out.frozen 3
            have c4 := HRR.out.cell 4
            have f4 := HRR.out.frozen 4
            have c5 := HRR.out.cell 5
            have f5 := HRR.out.frozen 5
            have c6 := HRR.out.cell 6
            have f6 := HRR.out.frozen 6
            have c7 := HRR.out.cell 7
            have f7 := HRR.out.frozen 7
            have c8 := HRR.out.cell 8
            have f8 := HRR.out.frozen 8
            simp [spC, Sp.zero] at c0 c1 c2 c3 c4 c5 c6 c7 c8
            go_wp2_with fail
            have hq := sps_put .zero (.slice none 0 0) HRR.out
            simp only [Sp.zero] at hq
            have HB9 := Lib.hid (Below.touch HBB.out hq.2 (fun i hi q => by omega) (Nat.le_refl _))
            generalize ((((((((we.setCell ⟨R, 0, none⟩ (.int .i64 0)).setCell ⟨R, 1, none⟩ (.int .i64 0)).setCell ⟨R, 2, none⟩ (.int .i64 0)).setCell ⟨R, 3, none⟩ (.int .i64 0)).setCell ⟨R, 4, none⟩ (.int .i64 0)).setCell ⟨R, 5, none⟩ (.int .i64 0)).setCell ⟨R, 6, none⟩ (.slice none 0 0)).setCell ⟨R, 7, none⟩ (.int .i64 0)).setCell ⟨R, 8, none⟩ (.int .i64 0) = w9 at hq HB9 ⊢
            have d0 := hq.1.cell 0
            have d1 := hq.1.cell 1
            have d2 := hq.1.cell 2
            have d3 := hq.1.cell 3
            have d4 := hq.1.cell 4
            have d5 := hq.1.cell 5
            have d6 := hq.1.cell 6
            have d7 := hq.1.cell 7
            have d8 := hq.1.cell 8
            simp [spC] at d0 d1 d2 d3 d4 d5 d6 d7 d8
            exact bodyPost_ret (v := .tuple #[.agg #[.int .i64 0, .int .i64 0, .int .i64 0, .int .i64 0, .int .i64 0, .int .i64 0, .slice none 0 0, .int .i64 0, .int .i64 0], .int .i64 301]) (by simp [results, Try.results13, go_sem, d0, d1, d2, d3, d4, d5, d6, d7, d8]) rfl (GPost.mk (.slice none 0 0) (by rw [HVE.out]; rfl) (by rw [HVE.out]; exact own_nil_int _ _) HB9.out)
          · have hvv := HVV2.out
            rw [hmy, if_pos rfl] at hvv
            have HVE := Lib.hid hvv
            clear hvv hmy
            have c0 := HRR.out.cell 0
            have f0 := HRR.out.frozen 0
            have c1 := HRR.out.cell 1
            have f1 := HRR.out.frozen 1
            have c2 := HRR.out.cell 2
            have f2 := HRR.out.frozen 2
            have c3 := HRR.out.cell 3
            have f3 := HRR.out.frozen 3
            have c4 := HRR.out.cell 4
            have f4 := HRR.out.frozen 4
            have c5 := HRR.out.cell 5
            have f5 := HRR.out.frozen 5
            have c6 := HRR.out.cell 6
            have f6 := HRR.out.frozen 6
            have c7 := HRR.out.cell 7
            have f7 := HRR.out.frozen 7
            have c8 := HRR.out.cell 8
            have f8 := HRR.out.frozen 8
            simp [spC, Sp.zero] at c0 c1 c2 c3 c4 c5 c6 c7 c8
            go_wp2_with fail
            have hq := sps_put ⟨x0 + 1, x1 + 1, x2 + 4, 1, 4, x4, CY, x7, x8⟩ (.slice A CY.length c) HRR.out
            simp only at hq
            have HOWN := Lib.hid (own_touch HA.out.2 hq.2 (fun k hk q => by have := (HA.out.2.lt k hk).1; omega))
            have HB9 := Lib.hid (Below.touch HBB.out hq.2 (fun i hi q => by omega) (Nat.le_refl _))
            generalize ((((((((we.setCell ⟨R, 0, none⟩ (.int .i64 (x0 + 1))).setCell ⟨R, 1, none⟩ (.int .i64 (x1 + 1))).setCell ⟨R, 2, none⟩ (.int .i64 (x2 + 4))).setCell ⟨R, 3, none⟩ (.int .i64 1)).setCell ⟨R, 4, none⟩ (.int .i64 (4))).setCell ⟨R, 5, none⟩ (.int .i64 x4)).setCell ⟨R, 6, none⟩ (.slice A CY.length c)).setCell ⟨R, 7, none⟩ (.int .i64 x7)).setCell ⟨R, 8, none⟩ (.int .i64 x8) = w9 at hq HOWN HB9 ⊢
            have d0 := hq.1.cell 0
            have d1 := hq.1.cell 1
            have d2 := hq.1.cell 2
            have d3 := hq.1.cell 3
            have d4 := hq.1.cell 4
            have d5 := hq.1.cell 5
            have d6 := hq.1.cell 6
            have d7 := hq.1.cell 7
            have d8 := hq.1.cell 8
            simp [spC] at d0 d1 d2 d3 d4 d5 d6 d7 d8
            exact bodyPost_ret (v := .tuple #[.agg #[.int .i64 (x0 + 1), .int .i64 (x1 + 1), .int .i64 (x2 + 4), .int .i64 1, .int .i64 (4), .int .i64 x4, .slice A CY.length c, .int .i64 x7, .int .i64 x8], .int .i64 0]) (by simp [results, Try.results13, go_sem, d0, d1, d2, d3, d4, d5, d6, d7, d8]) rfl (GPost.mk (.slice A CY.length c) (by rw [HVE.out]; rfl) (by rw [HVE.out]; exact own_less HOWN.out (by omega)) HB9.out)
end Go.Proofs.Ytegfglpaabddlaa

namespace Go.Proofs.Ytegfglpaabddlaa
open Go.RowKit
set_option linter.unusedVariables false

theorem getsp_any (s : ByteArray) (w : World) (hs : s.size ≤ 140737488351232) : Calls Try.prog 13 #[.string s] w (GPost (getSp (sbit s) (8 * s.size)) w) := by
  obtain ⟨x0, t1, e0, f1, b0, g1⟩ := (Good.start (f := sbit s) (N := 8 * s.size)).next
  obtain ⟨x1, t2, e1, f2, b1, g2⟩ := g1.next
  obtain ⟨x2, t3, e2, f3, b2, g3⟩ := g2.next
  obtain ⟨x3, t4, e3, f4, b3, g4⟩ := g3.next
  by_cases h0 : x3 = 0
  · exact getsp_0 s w hs x0 x1 x2 x3 t1 t2 t3 t4 e0 f1 e1 f2 e2 f3 e3 f4 b0 b1 b2 g1 g2 g3 g4 h0 _ rfl
  · by_cases h1 : x3 = 1
    · exact getsp_1 s w hs x0 x1 x2 x3 t1 t2 t3 t4 e0 f1 e1 f2 e2 f3 e3 f4 b0 b1 b2 g1 g2 g3 g4 h1 _ rfl
    · exact getsp_2 s w hs x0 x1 x2 x3 t1 t2 t3 t4 e0 f1 e1 f2 e2 f3 e3 f4 b0 b1 b2 g1 g2 g3 g4 ⟨h0, h1⟩ _ rfl
end Go.Proofs.Ytegfglpaabddlaa
