/- GetSps: lemmas for its walk. -/
import Derived.Test.YtegfglpaabddlaaParS
namespace Go.Proofs.Ytegfglpaabddlaa
open Go.RowKit
set_option linter.unusedVariables false
set_option linter.unusedSimpArgs false

section
variable {w w' : World} {h g O B : Nat} {s : ByteArray} {t t' : St} {p : Sp} {v : Value}
theorem rg_ueE {x : Int} (H : RG w h g s t) (hs : s.size ≤ 140737488351232) (ha : t.a ≤ 8 * s.size) (hx : ueX (sbit s) (8 * s.size) t = x) (ht : ueS (sbit s) (8 * s.size) t = t') :
    Calls Try.prog 39 #[.pointer (some ⟨h, 0, none⟩)] w fun r w' => r = .returned (.int .i64 x) ∧ RG w' h g s t' ∧ Touch (RGS h g) w w' := by
  subst hx ht; exact rg_ue H hs ha
theorem rg_seE {x : Int} (H : RG w h g s t) (hs : s.size ≤ 140737488351232) (ha : t.a ≤ 8 * s.size) (hx : seX (sbit s) (8 * s.size) t = x) (ht : ueS (sbit s) (8 * s.size) t = t') :
    Calls Try.prog 40 #[.pointer (some ⟨h, 0, none⟩)] w fun r w' => r = .returned (.int .i64 x) ∧ RG w' h g s t' ∧ Touch (RGS h g) w w' := by
  subst hx ht; exact rg_se H hs ha
theorem rg_overE {b : Bool} (H : RG w h g s t) (hs : s.size ≤ 140737488351232) (ha : t.a ≤ 8 * s.size) (hb : (!t.bad && ((trailR (sbit s) (8 * s.size) t.a).1 : Int) == 0) = b) :
    Calls Try.prog 43 #[.pointer (some ⟨h, 0, none⟩)] w fun r w' => r = .returned (.bool b) ∧ Touch (RGS h g) w w' := by
  subst hb; exact rg_over H hs ha
theorem GR.after (H : GR w h g O B s t p v) (ht : Touch (RGS h g) w w') : Bk w' O 24 (spC p v) ∧ w'.ownsRow B 3 1 v p.cy.length (cyV p.cy) :=
  ⟨H.bk.touch ht (fun q => by rcases q with q | q; exact H.oh q; exact H.og q), own_touch H.own ht (fun k hk q => by rcases q with q | q; exact (H.vr k hk).1 q; exact (H.vr k hk).2.1 q)⟩
end
section
variable {f : Nat → Bool} {N : Nat}
theorem Good.start : Good f N ⟨0, false⟩ := ⟨Nat.zero_le _, fun q => by cases q⟩
/-- the next number -/
theorem Good.next {t : St} (g : Good f N t) : ∃ x t', ueX f N t = x ∧ ueS f N t = t' ∧ (0 ≤ x ∧ x ≤ 2147483646) ∧ Good f N t' :=
  ⟨_, _, rfl, rfl, ⟨g.bd.1, g.bd.2.1⟩, g.ue⟩
theorem Good.nextS {t : St} (g : Good f N t) : ∃ x t', seX f N t = x ∧ ueS f N t = t' ∧ (-1073741823 ≤ x ∧ x ≤ 1073741823) ∧ Good f N t' :=
  ⟨_, _, rfl, rfl, ⟨g.bd.2.2.1, g.bd.2.2.2⟩, g.ue⟩
theorem finSp_form {p : Sp} {t t1 t2 : St} {x y : Int} {b : Bool} (e1 : ueX f N t = x) (e2 : ueS f N t = t1) (e3 : ueX f N t1 = y) (e4 : ueS f N t1 = t2) (hb : (!t2.bad && ((trailR f N t2.a).1 : Int) == 0) = b) :
    finSp f N p t = if b = false then (.zero, 300) else if maySp { p with refs := x, delay := y } = true then ({ p with refs := x, delay := y }, 0) else (.zero, 301) := by
  subst e1 e2 e3 e4 hb
  unfold finSp
  cases hq : (ueS f N (ueS f N t)).bad
  · by_cases h : (trailR f N (ueS f N (ueS f N t)).a).1 = 0
    · exact (if_neg (by rintro (q | q); cases q; exact q h)).trans (if_neg (by rw [h]; decide)).symm
    · rw [if_pos (.inr h), if_pos (by rw [Bool.not_false, Bool.true_and]; exact beq_false_of_ne (by omega))]
  · rw [if_pos (.inl rfl), if_pos (by simp)]
/-- getSp by its first numbers -/
theorem getSp_form (x0 x1 x2 x3 : Int) (t1 t2 t3 t4 : St) (e0 : ueX f N ⟨0, false⟩ = x0) (f1 : ueS f N ⟨0, false⟩ = t1) (e1 : ueX f N t1 = x1) (f2 : ueS f N t1 = t2) (e2 : ueX f N t2 = x2) (f3 : ueS f N t2 = t3) (e3 : ueX f N t3 = x3) (f4 : ueS f N t3 = t4) :
    (∀ x4 t5, x3 = 0 → ueX f N t4 = x4 → ueS f N t4 = t5 → getSp f N = finSp f N ⟨x0 + 1, x1 + 1, x2 + 4, x3, x4 + 4, 0, [], 0, 0⟩ t5) ∧
    (∀ x4 t5 n t6, x3 = 1 → seX f N t4 = x4 → ueS f N t4 = t5 → ueX f N t5 = n → ueS f N t5 = t6 →
      getSp f N = if t6.bad = false ∧ 4 < n then (.zero, 301) else finSp f N ⟨x0 + 1, x1 + 1, x2 + 4, x3, 4, x4, cyX f N n.toNat t6, 0, 0⟩ (cyS f N n.toNat t6)) ∧
    (¬ x3 = 0 → ¬ x3 = 1 → getSp f N = finSp f N ⟨x0 + 1, x1 + 1, x2 + 4, x3, 4, 0, [], 0, 0⟩ t4) := by
  subst e0 f1 e1 f2 e2 f3 e3 f4
  refine ⟨fun x4 t5 h e4 f5 => ?_, fun x4 t5 n t6 h e4 f5 e5 f6 => ?_, fun h1 h2 => ?_⟩
  · subst e4 f5
    unfold getSp
    exact if_pos h
  · subst e4 f5 e5 f6
    unfold getSp
    exact (if_neg (by show ¬ ueX f N (ueS f N (ueS f N (ueS f N ⟨0, false⟩))) = 0; omega)).trans (if_pos h)
  · unfold getSp
    exact (if_neg h1).trans (if_neg h2)
/-- behind a bad number nothing is read -/
theorem Good.n0 {t4 t5 t6 : St} {n : Int} (g : Good f N t4) (f5 : ueS f N t4 = t5) (e5 : ueX f N t5 = n) (f6 : ueS f N t5 = t6) (hb : t6.bad = true) : n = 0 := by
  subst f5 e5 f6
  cases h : (ueS f N t4).bad
  · have hbd := ueR_bd f N (ueS f N t4).a g.ue.1
    have hb' : ((ueS f N t4).bad || neB (ueR f N (ueS f N t4).a).e) = true := hb
    rw [h, Bool.false_or] at hb'
    rcases hbd.2.2.2.2 with h0 | ⟨h0, _⟩
    · exact absurd h0 ((neB_iff _).1 hb')
    · exact h0
  · exact (g.ue.x0 h).1
end
theorem Touch.put1s {w w' : World} {g : Nat} (h : Touch (fun k => k = g) w w') (i : Nat) (u : Value) : Touch (fun k => k = g) w (w'.setCell ⟨g, i, none⟩ u) :=
  h.setCell (p := ⟨g, i, none⟩) (fun _ => rfl) u
theorem sps_put {w : World} {M : Nat} {p0 : Sp} {v0 : Value} (p : Sp) (v : Value) (hb : Bk w M 24 (spC p0 v0)) : Bk (((((((((w.setCell ⟨M, 0, none⟩ (.int .i64 p.wide)).setCell ⟨M, 1, none⟩ (.int .i64 p.high)).setCell ⟨M, 2, none⟩ (.int .i64 p.fb)).setCell ⟨M, 3, none⟩ (.int .i64 p.pt)).setCell ⟨M, 4, none⟩ (.int .i64 p.pb)).setCell ⟨M, 5, none⟩ (.int .i64 p.nr)).setCell ⟨M, 6, none⟩ v).setCell ⟨M, 7, none⟩ (.int .i64 p.refs)).setCell ⟨M, 8, none⟩ (.int .i64 p.delay)) M 24 (spC p v) ∧ Touch (fun k => k = M) w (((((((((w.setCell ⟨M, 0, none⟩ (.int .i64 p.wide)).setCell ⟨M, 1, none⟩ (.int .i64 p.high)).setCell ⟨M, 2, none⟩ (.int .i64 p.fb)).setCell ⟨M, 3, none⟩ (.int .i64 p.pt)).setCell ⟨M, 4, none⟩ (.int .i64 p.pb)).setCell ⟨M, 5, none⟩ (.int .i64 p.nr)).setCell ⟨M, 6, none⟩ v).setCell ⟨M, 7, none⟩ (.int .i64 p.refs)).setCell ⟨M, 8, none⟩ (.int .i64 p.delay)) := by
  have h9 := (((((((((hb.set_ 0 (.int .i64 p.wide)).set_ 1 (.int .i64 p.high)).set_ 2 (.int .i64 p.fb)).set_ 3 (.int .i64 p.pt)).set_ 4 (.int .i64 p.pb)).set_ 5 (.int .i64 p.nr)).set_ 6 v).set_ 7 (.int .i64 p.refs)).set_ 8 (.int .i64 p.delay))
  have e : ((((((((((spC p0 v0).setIfInBounds 0 (.int .i64 p.wide)).setIfInBounds 1 (.int .i64 p.high)).setIfInBounds 2 (.int .i64 p.fb)).setIfInBounds 3 (.int .i64 p.pt)).setIfInBounds 4 (.int .i64 p.pb)).setIfInBounds 5 (.int .i64 p.nr)).setIfInBounds 6 v).setIfInBounds 7 (.int .i64 p.refs)).setIfInBounds 8 (.int .i64 p.delay)) = spC p v := by simp [spC]
  rw [e] at h9
  exact ⟨h9, (((((((((Touch.refl (fun k => k = M) w).put1s 0 _).put1s 1 _).put1s 2 _).put1s 3 _).put1s 4 _).put1s 5 _).put1s 6 _).put1s 7 _).put1s 8 _⟩
/-- the answer of GetSps -/
def GPost (V : Sp × Int) (w : World) (e : Ending) (w' : World) : Prop :=
  ∃ v, e = .returned (.tuple #[.agg (spC V.1 v), .int .i64 V.2]) ∧ w'.ownsRow w.heap.size 3 1 v V.1.cy.length (cyV V.1.cy) ∧ Below w.heap.size w w'
theorem GPost.mk {V : Sp × Int} {w w' : World} {e : Ending} (v : Value) (h1 : e = .returned (.tuple #[.agg (spC V.1 v), .int .i64 V.2])) (h2 : w'.ownsRow w.heap.size 3 1 v V.1.cy.length (cyV V.1.cy)) (h3 : Below w.heap.size w w') : GPost V w e w' := ⟨v, h1, h2, h3⟩
theorem cyV_range (l : List Int) : cyV l = (List.range l.length).map fun k => .int .i64 (l.getD k 0) := by
  apply List.ext_getElem (by simp [cyV])
  intro i h1 h2
  simp [cyV] at h1 ⊢
  rw [List.getElem?_eq_getElem h1]; rfl
theorem SpAt.of_own {w : World} {B : Nat} {p : Sp} {A : Option Addr} {c : Nat} (h : w.ownsRow B 3 1 (.slice A p.cy.length c) p.cy.length (cyV p.cy)) : SpAt w w.heap.size p A := by
  rw [cyV_range] at h
  obtain ⟨A', c', q, _, _, h1⟩ := Ri.of_own h
  injection q with q1 q2 q3
  subst q1
  exact h1
theorem own_nil_int (w : World) (B : Nat) : w.ownsRow B 3 1 (.slice none 0 0) 0 (cyV []) := ⟨rfl, .inl ⟨rfl, rfl⟩⟩
/-- a frame of which seven slots have turned -/
def put7 (a : Act) (lo : Nat) (y0 y1 y2 y3 y4 y5 y6 : Value) : Act :=
  ⟨((((((a.tmps.setIfInBounds lo y0).setIfInBounds (lo + 1) y1).setIfInBounds (lo + 2) y2).setIfInBounds (lo + 3) y3).setIfInBounds (lo + 4) y4).setIfInBounds (lo + 5) y5).setIfInBounds (lo + 6) y6, a.defers⟩
theorem ev_tmp (t : Array Value) (d : List Deferred) (i : Nat) (h : i < t.size) : (Act.mk t d).eval (.tmp i) = t[i] := by
  show t.getD i undef = t[i]
  rw [Array.getD_eq_getD_getElem?, Array.getElem?_eq_getElem h, Option.getD_some]
theorem arr_back {ta t0 : Array Value} (lo : Nat) (hs : ta.size = t0.size) (hl : lo + 7 ≤ t0.size) (h : ∀ i (h1 : i < ta.size) (h2 : i < t0.size), (i < lo ∨ lo + 7 ≤ i) → ta[i] = t0[i]) :
    ∃ y0 y1 y2 y3 y4 y5 y6 : Value, ta = ((((((t0.setIfInBounds lo y0).setIfInBounds (lo + 1) y1).setIfInBounds (lo + 2) y2).setIfInBounds (lo + 3) y3).setIfInBounds (lo + 4) y4).setIfInBounds (lo + 5) y5).setIfInBounds (lo + 6) y6 := by
  refine ⟨ta[lo]'(by omega), ta[lo + 1]'(by omega), ta[lo + 2]'(by omega), ta[lo + 3]'(by omega), ta[lo + 4]'(by omega), ta[lo + 5]'(by omega), ta[lo + 6]'(by omega), ?_⟩
  apply Array.ext_getElem?
  intro i
  have hh : (i < lo ∨ lo + 7 ≤ i) → ta[i]? = t0[i]? := fun q => by
    by_cases h2 : i < t0.size
    · rw [Array.getElem?_eq_getElem (by omega : i < ta.size), Array.getElem?_eq_getElem h2, h i (by omega) h2 q]
    · rw [Array.getElem?_eq_none (by omega : ta.size ≤ i), Array.getElem?_eq_none (by omega : t0.size ≤ i)]
  clear h
  simp only [Array.getElem?_setIfInBounds, Array.size_setIfInBounds]
  by_cases q6 : lo + 6 = i
  · subst q6; rw [if_pos rfl, if_pos (by omega), Array.getElem?_eq_getElem (by omega)]
  rw [if_neg q6]
  by_cases q5 : lo + 5 = i
  · subst q5; rw [if_pos rfl, if_pos (by omega), Array.getElem?_eq_getElem (by omega)]
  rw [if_neg q5]
  by_cases q4 : lo + 4 = i
  · subst q4; rw [if_pos rfl, if_pos (by omega), Array.getElem?_eq_getElem (by omega)]
  rw [if_neg q4]
  by_cases q3 : lo + 3 = i
  · subst q3; rw [if_pos rfl, if_pos (by omega), Array.getElem?_eq_getElem (by omega)]
  rw [if_neg q3]
  by_cases q2 : lo + 2 = i
  · subst q2; rw [if_pos rfl, if_pos (by omega), Array.getElem?_eq_getElem (by omega)]
  rw [if_neg q2]
  by_cases q1 : lo + 1 = i
  · subst q1; rw [if_pos rfl, if_pos (by omega), Array.getElem?_eq_getElem (by omega)]
  rw [if_neg q1]
  by_cases q0 : lo = i
  · subst q0; rw [if_pos rfl, if_pos (by omega), Array.getElem?_eq_getElem (by omega)]
  rw [if_neg q0]
  exact hh (by omega)
theorem act_back {a a0 : Act} (lo : Nat) (hs : a.tmps.size = a0.tmps.size) (hd : a.defers = a0.defers) (hl : lo + 7 ≤ a0.tmps.size) (h : ∀ t, t < a0.tmps.size → (t < lo ∨ lo + 7 ≤ t) → a.eval (.tmp t) = a0.eval (.tmp t)) :
    ∃ y0 y1 y2 y3 y4 y5 y6 : Value, a = put7 a0 lo y0 y1 y2 y3 y4 y5 y6 := by
  obtain ⟨y0, y1, y2, y3, y4, y5, y6, e⟩ := arr_back lo hs hl (fun i h1 h2 q => by
    have := h i h2 q
    rw [ev_tmp _ _ _ h1, ev_tmp _ _ _ h2] at this
    exact this)
  obtain ⟨ta, da⟩ := a
  refine ⟨y0, y1, y2, y3, y4, y5, y6, ?_⟩
  unfold put7
  rw [← e, ← hd]
theorem fst_of (L : List Nat) (e : Nat → Value) : (L.map fun t => (t, e t)).map Prod.fst = L := by
  rw [List.map_map]
  exact List.map_id L
theorem with_act {P : Program} {c : Code} {Q : Exit → Act → World → Prop} {w : World} {a : Act} (h : ∀ a0, a0 = a → c.wp P Q a0 w) : c.wp P Q a w := h a rfl
/-- the region that reads a number and lays it behind the cycle: what holds when so many of its operations are done -/
def gsW (wz : World) (R h g O B : Nat) (s : ByteArray) (t t' : St) (p : Sp) (v : Value) (x : Int) (b m : Nat) (k : Nat) (e : Nat → Value) (w : World) : Prop :=
  Below wz.heap.size wz w ∧ Bk w R 24 (spC .zero (.slice none 0 0)) ∧
  (k = 0 → GR w h g O B s t p v) ∧ (k = 1 → GR w h g O B s t' p v) ∧
  (k = 2 → GR w h g O B s t' p v ∧ ∃ M, e b = .slice (some ⟨M, 0, none⟩) 1 1 ∧ w.cell? ⟨M, 0, none⟩ = some (.int .i64 x)) ∧
  (k = 3 → (RG w h g s t' ∧ Bk w O 24 (spC p v)) ∧ w.ownsRow B 3 1 (e m) (p.cy ++ [x]).length (cyV (p.cy ++ [x])) ∧ (∀ k, (e m).ownBlock = some k → k ≠ h ∧ k ≠ g ∧ k ≠ O) ∧ ∀ k, (e m).ownBlock = some k → k < w.heap.size) ∧
  (k = 4 → ∃ v', GR w h g O B s t' { p with cy := p.cy ++ [x] } v')
theorem gsW.bk {wz w : World} {R h g O B : Nat} {s : ByteArray} {t t' : St} {p : Sp} {v : Value} {x : Int} {b m k : Nat} {e : Nat → Value} (H : gsW wz R h g O B s t t' p v x b m k e w) (hk : k ≤ 3) : Bk w O 24 (spC p v) := by
  obtain ⟨_, _, h0, h1, h2, h3, _⟩ := H
  match k, hk with
  | 0, _ => exact (h0 rfl).bk
  | 1, _ => exact (h1 rfl).bk
  | 2, _ => exact (h2 rfl).1.bk
  | 3, _ => exact (h3 rfl).1.2
theorem gsW.looks (wz : World) (R h g O B : Nat) (s : ByteArray) (t t' : St) (p : Sp) (v : Value) (x : Int) (b m : Nat) : Looks [b, m] (gsW wz R h g O B s t t' p v x b m) := by
  intro k e e' w he H
  obtain ⟨g1, g2, h0, h1, h2, h3, h4⟩ := H
  refine ⟨g1, g2, h0, h1, fun q => ?_, fun q => ?_, h4⟩
  · rw [← he b (by simp)]; exact h2 q
  · rw [← he m (by simp)]; exact h3 q
theorem stg_lt {cs : List Nat} {L : Array Bool} {c : Nat} (hc : c ∈ cs) (h : L.getD c false = false) : stg cs L < cs.length := by
  unfold stg
  exact List.length_filter_lt_length_iff_exists.2 ⟨c, hc, by simp [h]⟩
def gsFx (a0 : Act) (lo sz : Nat) : List (Nat × Value) := ((List.range sz).filter fun t => decide (t < lo ∨ lo + 7 ≤ t)).map fun t => (t, a0.eval (.tmp t))
theorem gsFx_mem {a0 : Act} {lo sz : Nat} {p : Nat × Value} (h : p ∈ gsFx a0 lo sz) : p.2 = a0.eval (.tmp p.1) := by
  unfold gsFx at h
  obtain ⟨t, _, rfl⟩ := List.mem_map.1 h
  rfl
theorem gsFx_in {a0 : Act} {lo sz t : Nat} (h : t < sz) (hl : t < lo ∨ lo + 7 ≤ t) : (t, a0.eval (.tmp t)) ∈ gsFx a0 lo sz :=
  List.mem_map.2 ⟨t, List.mem_filter.2 ⟨List.mem_range.2 h, decide_eq_true hl⟩, rfl⟩
theorem gsFx_fst (a0 : Act) (lo sz : Nat) : (gsFx a0 lo sz).map Prod.fst = (List.range sz).filter fun t => decide (t < lo ∨ lo + 7 ≤ t) := fst_of _ _
end Go.Proofs.Ytegfglpaabddlaa
