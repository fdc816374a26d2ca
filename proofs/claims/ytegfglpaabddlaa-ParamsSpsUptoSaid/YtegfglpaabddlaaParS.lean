/- A region that draws, with a chain of operations of which some hand on values that are found only then; GetSps' round. -/
import Derived.Test.YtegfglpaabddlaaParM
import Derived.Test.YtegfglpaabddlaaParF
import Derived.Test.YtegfglpaabddlaaInts
import Derived.Test.YtegfglpaabddlaaSep
import Derived.Maps.AppendAt
namespace Go.Proofs.Ytegfglpaabddlaa
open Go.RowKit
set_option linter.unusedVariables false
set_option linter.unusedSimpArgs false

def DInv (n sz : Nat) (cs ss : List Nat) (sl : Nat → Option Nat) (vl : Nat → Value) (fx : List (Nat × Value)) (W : Nat → (Nat → Value) → World → Prop) (L : Array Bool) (a : Act) (w : World) : Prop :=
  a.defers = [] ∧ a.tmps.size = sz ∧ (∀ p ∈ fx, a.eval (.tmp p.1) = p.2) ∧ (∀ j, j < n → ∀ d, sl j = some d → L.getD j false = true → a.eval (.tmp d) = vl j) ∧ Closed cs L ∧ W (stg cs L) (fun t => a.eval (.tmp t)) w
/-- the slots lie apart -/
def DOk (n sz : Nat) (ss : List Nat) (sl : Nat → Option Nat) (fk : List Nat) : Prop :=
  (∀ s ∈ ss, s < sz ∧ ∀ p ∈ fk, p ≠ s) ∧ ∀ i, i < n → ∀ d, sl i = some d → d < sz ∧ d ∉ ss ∧ (∀ p ∈ fk, p ≠ d) ∧ ∀ j, j < n → j ≠ i → sl j ≠ some d
/-- W looks at the slots ss alone -/
def Looks (ss : List Nat) (W : Nat → (Nat → Value) → World → Prop) : Prop := ∀ k e e' w, (∀ s ∈ ss, e s = e' s) → W k e w → W k e' w
section
variable {n sz : Nat} {cs ss : List Nat} {sl : Nat → Option Nat} {vl : Nat → Value} {fx : List (Nat × Value)} {W : Nat → (Nat → Value) → World → Prop} {L : Array Bool} {a : Act} {w w' : World}
theorem DInv.val (ok : DOk n sz ss sl (fx.map Prod.fst)) (lk : Looks ss W) (h : DInv n sz cs ss sl vl fx W L a w) (hL : L.size = n) {i d : Nat} (hi : i < n) (hd : sl i = some d) {v : Value} (hv : v = vl i) (hcs : i ∉ cs) :
    DInv n sz cs ss sl vl fx W (L.setIfInBounds i true) (a.put (some d) v) w := by
  obtain ⟨h0, h1, h2, h3, h4, h5⟩ := h
  obtain ⟨o1, o2⟩ := ok
  obtain ⟨q1, q2, q3, q4⟩ := o2 i hi d hd
  refine ⟨h0, by rw [put_size]; exact h1, fun p hp => ?_, fun j hj d' hd' hl => ?_, h4.other (by omega) hcs, ?_⟩
  · rw [ev_put (by omega), if_neg (q3 p.1 (List.mem_map_of_mem hp))]; exact h2 p hp
  · rw [ev_put (by omega)]
    by_cases hji : j = i
    · subst hji
      obtain rfl : d = d' := Option.some.inj (hd.symm.trans hd')
      rw [if_pos rfl]; exact hv
    · rw [if_neg (by intro q; rw [q] at hd'; exact q4 j hj hji hd')]
      rw [getD_done (by omega), if_neg hji] at hl
      exact h3 j hj d' hd' hl
  · rw [stg_other (by omega) hcs]
    refine lk _ _ _ _ (fun s hs => ?_) h5
    rw [ev_put (by omega), if_neg (fun (q : s = d) => q2 (q ▸ hs))]
theorem DInv.now (h : DInv n sz cs ss sl vl fx W L a w) {i : Nat} (hcs : i ∈ cs) (h0 : L.getD i false = false) (hp : ∀ j ∈ cs, j < i → L.getD j false = true) {k : Nat} (hk : (cs.filter fun j => decide (j < i)).length = k) : W k (fun t => a.eval (.tmp t)) w := by
  have := h.2.2.2.2.2
  rw [stg_at h.2.2.2.2.1 hcs h0 hp, hk] at this
  exact this
theorem DInv.call (ok : DOk n sz ss sl (fx.map Prod.fst)) (lk : Looks ss W) (h : DInv n sz cs ss sl vl fx W L a w) (hL : L.size = n) {i d : Nat} (hi : i < n) (hd : sl i = some d) {v : Value} (hv : v = vl i) (hcs : i ∈ cs) (h0 : L.getD i false = false) (hp : ∀ j ∈ cs, j < i → L.getD j false = true)
    {k : Nat} (hk : (cs.filter fun j => decide (j ≤ i)).length = k) (hw : W k (fun t => a.eval (.tmp t)) w') : DInv n sz cs ss sl vl fx W (L.setIfInBounds i true) (a.put (some d) v) w' := by
  obtain ⟨g0, h1, h2, h3, h4, h5⟩ := h
  obtain ⟨o1, o2⟩ := ok
  obtain ⟨q1, q2, q3, q4⟩ := o2 i hi d hd
  refine ⟨g0, by rw [put_size]; exact h1, fun p hp => ?_, fun j hj d' hd' hl => ?_, h4.done (by omega) hp, ?_⟩
  · rw [ev_put (by omega), if_neg (q3 p.1 (List.mem_map_of_mem hp))]; exact h2 p hp
  · rw [ev_put (by omega)]
    by_cases hji : j = i
    · subst hji
      obtain rfl : d = d' := Option.some.inj (hd.symm.trans hd')
      rw [if_pos rfl]; exact hv
    · rw [if_neg (by intro q; rw [q] at hd'; exact q4 j hj hji hd')]
      rw [getD_done (by omega), if_neg hji] at hl
      exact h3 j hj d' hd' hl
  · rw [stg_done h4 (by omega) hcs h0 hp, hk]
    refine lk _ _ _ _ (fun s hs => ?_) hw
    rw [ev_put (by omega), if_neg (fun (q : s = d) => q2 (q ▸ hs))]
/-- an operation of the chain, its value in one of the slots ss -/
theorem DInv.give (ok : DOk n sz ss sl (fx.map Prod.fst)) (h : DInv n sz cs ss sl vl fx W L a w) (hL : L.size = n) {i d : Nat} (hi : i < n) (hd : sl i = none) (hs : d ∈ ss) {v : Value} (hcs : i ∈ cs) (h0 : L.getD i false = false) (hp : ∀ j ∈ cs, j < i → L.getD j false = true)
    {k : Nat} (hk : (cs.filter fun j => decide (j ≤ i)).length = k) (hw : W k (fun t => if t = d then v else a.eval (.tmp t)) w') : DInv n sz cs ss sl vl fx W (L.setIfInBounds i true) (a.put (some d) v) w' := by
  obtain ⟨g0, h1, h2, h3, h4, h5⟩ := h
  obtain ⟨o1, o2⟩ := ok
  obtain ⟨q1, q2⟩ := o1 d hs
  refine ⟨g0, by rw [put_size]; exact h1, fun p hp => ?_, fun j hj d' hd' hl => ?_, h4.done (by omega) hp, ?_⟩
  · rw [ev_put (by omega), if_neg (q2 p.1 (List.mem_map_of_mem hp))]; exact h2 p hp
  · rw [ev_put (by omega), if_neg (fun (q : d' = d) => (o2 j hj d' hd').2.1 (q ▸ hs))]
    rw [getD_done (by omega), if_neg (fun q => by subst q; rw [hd] at hd'; cases hd')] at hl
    exact h3 j hj d' hd' hl
  · rw [stg_done h4 (by omega) hcs h0 hp, hk]
    have e : (fun t => (a.put (some d) v).eval (.tmp t)) = fun t => if t = d then v else a.eval (.tmp t) := by
      funext t
      exact ev_put (by omega) t
    rw [e]
    exact hw
theorem DInv.store (h : DInv n sz cs ss sl vl fx W L a w) (hL : L.size = n) {i : Nat} (hi : i < n) (hd : sl i = none) (hcs : i ∈ cs) (h0 : L.getD i false = false) (hp : ∀ j ∈ cs, j < i → L.getD j false = true)
    {k : Nat} (hk : (cs.filter fun j => decide (j ≤ i)).length = k) (hw : W k (fun t => a.eval (.tmp t)) w') : DInv n sz cs ss sl vl fx W (L.setIfInBounds i true) a w' := by
  obtain ⟨q0, q1, q2, q3, q4, q5⟩ := h
  refine ⟨q0, q1, q2, fun j hj d' hd' hl => ?_, q4.done (by omega) hp, ?_⟩
  · rw [getD_done (by omega), if_neg (fun q => by subst q; rw [hd] at hd'; cases hd')] at hl
    exact q3 j hj d' hd' hl
  · rw [stg_done q4 (by omega) hcs h0 hp, hk]
    exact hw
end

/-- a sequence's parameters, the cycle's slice v -/
def spC (s : Sp) (v : Value) : Array Value := #[.int .i64 s.wide, .int .i64 s.high, .int .i64 s.fb, .int .i64 s.pt, .int .i64 s.pb, .int .i64 s.nr, v, .int .i64 s.refs, .int .i64 s.delay]
def cyV (l : List Int) : List Value := l.map fun x => .int .i64 x
theorem cyV_snoc (l : List Int) (x : Int) : cyV (l ++ [x]) = cyV l ++ [.int .i64 x] := by simp [cyV]
/-- what GetSps holds on its way: a reading, the parameters in block O, their cycle -/
structure GR (w : World) (h g O B : Nat) (s : ByteArray) (t : St) (p : Sp) (v : Value) : Prop where
  rg : RG w h g s t
  bk : Bk w O 24 (spC p v)
  own : w.ownsRow B 3 1 v p.cy.length (cyV p.cy)
  oh : O ≠ h
  og : O ≠ g
  hg : h ≠ g
  vr : ∀ k, v.ownBlock = some k → k ≠ h ∧ k ≠ g ∧ k ≠ O
  vl : ∀ k, v.ownBlock = some k → k < w.heap.size
section
variable {w w' : World} {h g O B : Nat} {s : ByteArray} {t t' : St} {p : Sp} {v : Value}
theorem GR.call (H : GR w h g O B s t p v) (hr : RG w' h g s t') (ht : Touch (RGS h g) w w') : GR w' h g O B s t' p v :=
  ⟨hr, H.bk.touch ht (fun q => by rcases q with q | q; exact H.oh q; exact H.og q), own_touch H.own ht (fun k hk q => by rcases q with q | q; exact (H.vr k hk).1 q; exact (H.vr k hk).2.1 q), H.oh, H.og, H.hg, H.vr, fun k hk => Nat.lt_of_lt_of_le (H.vl k hk) ht.size⟩
theorem GR.go (H : GR w h g O B s t p v) (hb : Below w.heap.size w w') : GR w' h g O B s t p v :=
  ⟨⟨H.rg.1.go hb, Bk.go H.rg.2 hb⟩, H.bk.go hb, own_go H.own hb, H.oh, H.og, H.hg, H.vr, fun k hk => Nat.lt_of_lt_of_le (H.vl k hk) hb.size⟩
theorem GR.lts (H : GR w h g O B s t p v) : h < w.heap.size ∧ g < w.heap.size ∧ O < w.heap.size := ⟨H.rg.1.lt, Bk.lt H.rg.2, H.bk.lt⟩
/-- a grown cycle, not yet laid down -/
theorem GR.grow (H : GR w h g O B s t p v) {v' : Value} {l : List Int} (ho : w'.ownsRow B 3 1 v' l.length (cyV l)) (hg : w.grownBy w' v.ownBlock) (hat : v'.ownBlock = v.ownBlock ∨ v'.ownBlock = some w.heap.size) :
    RG w' h g s t ∧ Bk w' O 24 (spC p v) ∧ (∀ k, v'.ownBlock = some k → k ≠ h ∧ k ≠ g ∧ k ≠ O) ∧ (∀ k, v'.ownBlock = some k → k < w'.heap.size) := by
  have hl := H.lts
  refine ⟨⟨H.rg.1.grown hg (fun q => (H.vr h q.symm).1 rfl), Bk.grown H.rg.2 hg (fun q => (H.vr g q.symm).2.1 rfl)⟩, H.bk.grown hg (fun q => (H.vr O q.symm).2.2 rfl), fun k hk => ?_, fun k hk => (ho.lt k hk).2⟩
  rcases hat with q | q
  · exact H.vr k (q ▸ hk)
  · rw [hk] at q
    obtain rfl : k = w.heap.size := by injection q
    omega
theorem GR.lay (H1 : RG w h g s t) (H2 : Bk w O 24 (spC p v)) (oh : O ≠ h) (og : O ≠ g) (hg : h ≠ g) {v' : Value} {l : List Int} (ho : w.ownsRow B 3 1 v' l.length (cyV l)) (hv : ∀ k, v'.ownBlock = some k → k ≠ h ∧ k ≠ g ∧ k ≠ O) (hv2 : ∀ k, v'.ownBlock = some k → k < w.heap.size) :
    GR (w.setCell ⟨O, 6, none⟩ v') h g O B s t { p with cy := l } v' := by
  have hb := H2.set_ 6 v'
  exact ⟨⟨H1.1.far (fun q => oh q.symm) _, Bk.far H1.2 (fun q => og q.symm) _⟩, hb, own_setFar ho (fun q => (hv O q).2.2 rfl) _, oh, og, hg, hv, fun k hk => by simpa [World.setCell] using hv2 k hk⟩
/-- a number's cell -/
theorem GR.put (H : GR w h g O B s t p v) {i : Nat} {u : Value} {p' : Sp} (hp : (spC p v).setIfInBounds i u = spC p' v) (hc : p'.cy = p.cy) : GR (w.setCell ⟨O, i, none⟩ u) h g O B s t p' v := by
  have hb := H.bk.set_ i u
  rw [hp] at hb
  exact ⟨⟨H.rg.1.far (fun q => H.oh q.symm) _, Bk.far H.rg.2 (fun q => H.og q.symm) _⟩, hb, by rw [hc]; exact own_setFar H.own (fun q => (H.vr O q).2.2 rfl) _, H.oh, H.og, H.hg, H.vr, fun k hk => by simpa [World.setCell] using H.vl k hk⟩
end

theorem fa_sp {a : Act} {w : World} {O t : Nat} {o : Oper} (q : o.op = .fieldAddr 24 (.tmp t) 6) (ha : a.eval (.tmp t) = .pointer (some ⟨O, 0, none⟩)) :
    (execOp a.eval o).run Try.prog w = .ok (.value (.pointer (some ⟨O, 6, none⟩))) w := by
  simp only [execOp, q, ha]
  go_simp
theorem ld_sl {a : Act} {w : World} {O t : Nat} {v : Value} {A : Option Addr} {n c : Nat} {o : Oper} (q : o.op = .load 22 (.tmp t)) (ha : a.eval (.tmp t) = .pointer (some ⟨O, 6, none⟩)) (hc : w.cell? ⟨O, 6, none⟩ = some v) (hv : v = .slice A n c) :
    (execOp a.eval o).run Try.prog w = .ok (.value v) w := by
  subst hv
  simp only [execOp, q, ha]
  go_simp
theorem bs_one {a : Act} {w : World} {t : Nat} {x : Int} {o : Oper} (q : o.op = .buildSlice 22 1 #[(0, .tmp t)]) (ha : a.eval (.tmp t) = .int .i64 x) :
    (execOp a.eval o).run Try.prog w = .ok (.value (.slice (some ⟨w.heap.size, 0, none⟩) 1 1)) (w.alloc (.cells #[.int .i64 x] 3)) := by
  simp only [execOp, q, List.map_toArray, List.map_cons, List.map_nil, ha]
  go_simp
  try rfl
theorem st_sl {a : Act} {w : World} {O t u : Nat} {v v0 : Value} {A : Option Addr} {n c : Nat} {o : Oper} (q : o.op = .store 22 (.tmp t) (.tmp u)) (ha : a.eval (.tmp t) = .pointer (some ⟨O, 6, none⟩)) (hv : a.eval (.tmp u) = v) (hs : v = .slice A n c) (hc : w.cell? ⟨O, 6, none⟩ = some v0) (hf : w.frozen? ⟨O, 6, none⟩ = false) :
    (execOp a.eval o).run Try.prog w = .ok .skip (w.setCell ⟨O, 6, none⟩ v) := by
  subst hs
  simp only [execOp, q, ha, hv]
  go_simp
theorem ap_one {a : Act} {w : World} {t u : Nat} {o : Oper} {v : Value} {l : List Int} {x : Int} {B M : Nat} (q : o.op = .call { callee := .builtin .append, args := #[.tmp t, .tmp u], argTypes := #[22, 22] })
    (hv : a.eval (.tmp t) = v) (hu : a.eval (.tmp u) = .slice (some ⟨M, 0, none⟩) 1 1) (ho : w.ownsRow B 3 1 v l.length (cyV l)) (hx : w.cell? ⟨M, 0, none⟩ = some (.int .i64 x)) (hl : l.length ≤ 1000000) (hB : B ≤ w.heap.size) :
    ∃ v' w', (execOp a.eval o).run Try.prog w = .ok (.value v') w' ∧ w'.ownsRow B 3 1 v' (l ++ [x]).length (cyV (l ++ [x])) ∧ w.grownBy w' v.ownBlock ∧ (v'.ownBlock = v.ownBlock ∨ v'.ownBlock = some w.heap.size) := by
  obtain ⟨i0, hi, hz0, hz1, hz2⟩ := info_parts int_info
  obtain ⟨v', w', hr, h2, h3, h4, h5⟩ := run_append_own_at (P := Try.prog) w B 22 o.type 3 i0 (.int .i64 0) 1 8 Try.underlying22 hi hz0 hz1 hz2 rfl (by omega) v l.length (cyV l) ho ⟨M, 0, none⟩ 1 1 [.int .i64 x] rfl (fun j u hj => by
    match j, hj with
    | 0, hj =>
      simp at hj
      subst hj
      simpa [Addr.add] using hx) (fun u hu => by simp at hu; subst hu; rfl) (by unfold maxLen; omega) (by omega) hB
  refine ⟨v', w', ?_, by rw [cyV_snoc, List.length_append]; exact h2, h3, h5⟩
  unfold execOp
  simp only [q, resolve, invoke, builtin, Sem.run_bind, Sem.run_pure, Result.andThen_ok, List.map_toArray, List.map_cons, List.map_nil, hv, hu, hr]
end Go.Proofs.Ytegfglpaabddlaa
