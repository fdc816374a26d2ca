/- A region that draws its order, with calls (stores) that come one behind the other, one allocation anywhere, quiet operations between. No function of the program. -/
import Derived.Test.YtjokibagciehlaaInv
namespace Go.Proofs.Ytjokibagciehlaa
open Go.RowKit
set_option linter.unusedVariables false

/-- how many of the chained operations are done -/
def stg (cs : List Nat) (L : Array Bool) : Nat := (cs.filter fun c => L.getD c false).length
def Closed (cs : List Nat) (L : Array Bool) : Prop := ∀ j ∈ cs, ∀ i ∈ cs, i < j → L.getD j false = true → L.getD i false = true
theorem stg_at {cs : List Nat} {L : Array Bool} (h : Closed cs L) {c : Nat} (hc : c ∈ cs) (h0 : L.getD c false = false) (hp : ∀ i ∈ cs, i < c → L.getD i false = true) : stg cs L = (cs.filter fun i => decide (i < c)).length := by
  unfold stg
  congr 1
  apply List.filter_congr
  intro i hi
  by_cases h1 : i < c
  · rw [hp i hi h1, decide_eq_true h1]
  · rw [decide_eq_false h1]
    rcases Nat.lt_or_eq_of_le (Nat.le_of_not_lt h1) with h2 | h2
    · cases hq : L.getD i false
      · rfl
      · have := h i hi c hc h2 hq; rw [h0] at this; cases this
    · rw [← h2]; exact h0
theorem stg_done {cs : List Nat} {L : Array Bool} (h : Closed cs L) {c : Nat} (hcl : c < L.size) (hc : c ∈ cs) (h0 : L.getD c false = false) (hp : ∀ i ∈ cs, i < c → L.getD i false = true) : stg cs (L.setIfInBounds c true) = (cs.filter fun i => decide (i ≤ c)).length := by
  unfold stg
  congr 1
  apply List.filter_congr
  intro i hi
  show (L.setIfInBounds c true).getD i false = decide (i ≤ c)
  rw [getD_done hcl]
  by_cases he : i = c
  · rw [if_pos he, he]; simp
  · rw [if_neg he]
    by_cases h1 : i < c
    · rw [hp i hi h1, decide_eq_true (by omega)]
    · rw [decide_eq_false (by omega)]
      cases hq : L.getD i false
      · rfl
      · have := h i hi c hc (by omega) hq; rw [h0] at this; cases this
theorem stg_other {cs : List Nat} {L : Array Bool} {c : Nat} (hcl : c < L.size) (hc : c ∉ cs) : stg cs (L.setIfInBounds c true) = stg cs L := by
  unfold stg
  congr 1
  apply List.filter_congr
  intro i hi
  show (L.setIfInBounds c true).getD i false = L.getD i false
  rw [getD_done hcl, if_neg (fun (q : i = c) => hc (q ▸ hi))]
theorem Closed.other {cs : List Nat} {L : Array Bool} (h : Closed cs L) {c : Nat} (hcl : c < L.size) (hc : c ∉ cs) : Closed cs (L.setIfInBounds c true) := by
  intro j hj i hi hij hL
  rw [getD_done hcl, if_neg (fun (q : j = c) => hc (q ▸ hj))] at hL
  rw [getD_done hcl, if_neg (fun (q : i = c) => hc (q ▸ hi))]
  exact h j hj i hi hij hL
theorem Closed.done {cs : List Nat} {L : Array Bool} (h : Closed cs L) {c : Nat} (hcl : c < L.size) (hp : ∀ i ∈ cs, i < c → L.getD i false = true) : Closed cs (L.setIfInBounds c true) := by
  intro j hj i hi hij hL
  rw [getD_done hcl]
  by_cases hic : i = c
  · rw [if_pos hic]
  · rw [if_neg hic]
    rw [getD_done hcl] at hL
    by_cases hjc : j = c
    · exact hp i hi (by omega)
    · rw [if_neg hjc] at hL
      exact h j hj i hi hij hL

/-- slots: sl j where operation j's value goes (vl j); fx the slots that the region leaves alone; sp an allocation, ss its slot -/
def CInv (n sz : Nat) (cs : List Nat) (sp ss : Nat) (sl : Nat → Option Nat) (vl : Nat → Value) (fx : List (Nat × Value)) (W : Nat → Bool → Value → World → Prop) (L : Array Bool) (a : Act) (w : World) : Prop :=
  a.defers = [] ∧ a.tmps.size = sz ∧ (∀ p ∈ fx, a.eval (.tmp p.1) = p.2) ∧ (∀ j, j < n → ∀ d, sl j = some d → L.getD j false = true → a.eval (.tmp d) = vl j) ∧ Closed cs L ∧ W (stg cs L) (L.getD sp false) (a.eval (.tmp ss)) w
/-- the slots lie apart -/
def SlotsOk (n sz ss : Nat) (sl : Nat → Option Nat) (fk : List Nat) : Prop :=
  ss < sz ∧ (∀ p ∈ fk, p ≠ ss) ∧ ∀ i, i < n → ∀ d, sl i = some d → d < sz ∧ d ≠ ss ∧ (∀ p ∈ fk, p ≠ d) ∧ ∀ j, j < n → j ≠ i → sl j ≠ some d
section
variable {n sz : Nat} {cs : List Nat} {sp ss : Nat} {sl : Nat → Option Nat} {vl : Nat → Value} {fx : List (Nat × Value)} {W : Nat → Bool → Value → World → Prop} {L : Array Bool} {a : Act} {w w' : World}
theorem CInv.put_ (ok : SlotsOk n sz ss sl (fx.map Prod.fst)) (h : CInv n sz cs sp ss sl vl fx W L a w) (hL : L.size = n) {i d : Nat} (hi : i < n) (hd : sl i = some d) {v : Value} (hv : v = vl i) (hsp : i ≠ sp)
    (hc : Closed cs (L.setIfInBounds i true)) (hw : W (stg cs (L.setIfInBounds i true)) (L.getD sp false) (a.eval (.tmp ss)) w') : CInv n sz cs sp ss sl vl fx W (L.setIfInBounds i true) (a.put (some d) v) w' := by
  obtain ⟨h0, h1, h2, h3, h4, h5⟩ := h
  obtain ⟨o1, o2, o3⟩ := ok
  obtain ⟨q1, q2, q3, q4⟩ := o3 i hi d hd
  refine ⟨h0, by rw [put_size]; exact h1, fun p hp => ?_, fun j hj d' hd' hl => ?_, hc, ?_⟩
  · rw [ev_put (by omega), if_neg (q3 p.1 (List.mem_map_of_mem hp))]; exact h2 p hp
  · rw [ev_put (by omega)]
    by_cases hji : j = i
    · subst hji
      obtain rfl : d = d' := Option.some.inj (hd.symm.trans hd')
      rw [if_pos rfl]; exact hv
    · rw [if_neg (by intro q; rw [q] at hd'; exact q4 j hj hji hd')]
      rw [getD_done (by omega), if_neg hji] at hl
      exact h3 j hj d' hd' hl
  · rw [ev_put (by omega), if_neg (fun q => q2 q.symm), getD_done (by omega), if_neg (fun q => hsp q.symm)]
    exact hw
theorem CInv.val (ok : SlotsOk n sz ss sl (fx.map Prod.fst)) (h : CInv n sz cs sp ss sl vl fx W L a w) (hL : L.size = n) {i d : Nat} (hi : i < n) (hd : sl i = some d) {v : Value} (hv : v = vl i) (hsp : i ≠ sp) (hcs : i ∉ cs) :
    CInv n sz cs sp ss sl vl fx W (L.setIfInBounds i true) (a.put (some d) v) w :=
  h.put_ ok hL hi hd hv hsp (h.2.2.2.2.1.other (by omega) hcs) (by rw [stg_other (by omega) hcs]; exact h.2.2.2.2.2)
theorem CInv.now (h : CInv n sz cs sp ss sl vl fx W L a w) {i : Nat} (hcs : i ∈ cs) (h0 : L.getD i false = false) (hp : ∀ j ∈ cs, j < i → L.getD j false = true) {k : Nat} (hk : (cs.filter fun j => decide (j < i)).length = k) : W k (L.getD sp false) (a.eval (.tmp ss)) w := by
  have := h.2.2.2.2.2
  rw [stg_at h.2.2.2.2.1 hcs h0 hp, hk] at this
  exact this
theorem CInv.call (ok : SlotsOk n sz ss sl (fx.map Prod.fst)) (h : CInv n sz cs sp ss sl vl fx W L a w) (hL : L.size = n) {i d : Nat} (hi : i < n) (hd : sl i = some d) {v : Value} (hv : v = vl i) (hsp : i ≠ sp) (hcs : i ∈ cs) (h0 : L.getD i false = false) (hp : ∀ j ∈ cs, j < i → L.getD j false = true)
    {k : Nat} (hk : (cs.filter fun j => decide (j ≤ i)).length = k) (hw : W k (L.getD sp false) (a.eval (.tmp ss)) w') : CInv n sz cs sp ss sl vl fx W (L.setIfInBounds i true) (a.put (some d) v) w' :=
  h.put_ ok hL hi hd hv hsp (h.2.2.2.2.1.done (by omega) hp) (by rw [stg_done h.2.2.2.2.1 (by omega) hcs h0 hp, hk]; exact hw)
theorem CInv.store (h : CInv n sz cs sp ss sl vl fx W L a w) (hL : L.size = n) {i : Nat} (hi : i < n) (hd : sl i = none) (hsp : i ≠ sp) (hcs : i ∈ cs) (h0 : L.getD i false = false) (hp : ∀ j ∈ cs, j < i → L.getD j false = true)
    {k : Nat} (hk : (cs.filter fun j => decide (j ≤ i)).length = k) (hw : W k (L.getD sp false) (a.eval (.tmp ss)) w') : CInv n sz cs sp ss sl vl fx W (L.setIfInBounds i true) a w' := by
  obtain ⟨q0, q1, q2, q3, q4, q5⟩ := h
  refine ⟨q0, q1, q2, fun j hj d' hd' hl => ?_, q4.done (by omega) hp, ?_⟩
  · rw [getD_done (by omega), if_neg (fun q => by subst q; rw [hd] at hd'; cases hd')] at hl
    exact q3 j hj d' hd' hl
  · rw [stg_done q4 (by omega) hcs h0 hp, hk, getD_done (by omega), if_neg (fun q => hsp q.symm)]
    exact hw
theorem CInv.alloc_ (ok : SlotsOk n sz ss sl (fx.map Prod.fst)) (h : CInv n sz cs sp ss sl vl fx W L a w) (hL : L.size = n) (hi : sp < n) (hd : sl sp = none) (hcs : sp ∉ cs) {v : Value} (hw : W (stg cs L) true v w') :
    CInv n sz cs sp ss sl vl fx W (L.setIfInBounds sp true) (a.put (some ss) v) w' := by
  obtain ⟨q0, q1, q2, q3, q4, q5⟩ := h
  obtain ⟨o1, o2, o3⟩ := ok
  refine ⟨q0, by rw [put_size]; exact q1, fun p hp => ?_, fun j hj d' hd' hl => ?_, q4.other (by omega) hcs, ?_⟩
  · rw [ev_put (by omega), if_neg (o2 p.1 (List.mem_map_of_mem hp))]; exact q2 p hp
  · rw [ev_put (by omega), if_neg (o3 j hj d' hd').2.1]
    rw [getD_done (by omega), if_neg (fun q => by subst q; rw [hd] at hd'; cases hd')] at hl
    exact q3 j hj d' hd' hl
  · rw [stg_other (by omega) hcs, getD_done (by omega), if_pos rfl, ev_put (by omega), if_pos rfl]
    exact hw
end
theorem op_call {P : Program} {ops : Array Oper} {Q : Exit → Act → World → Prop} {i : Nat} {o : Oper} {K : Act → World → Prop} {a : Act} {w : World} {f : FuncId} {args : Array Value} {v : Value} (ho : ops[i]? = some o) (hg : o.guard = none)
    (hr : (execOp a.eval o).run P w = .ok (.enter f args) w) (hc : Calls P f args w fun e w' => e = .returned v ∧ K (a.put o.dst v) w') : wpOp P ops Q i K a w := by
  refine wpOp_step ho (fun K' h => ?_)
  have : Region.wanted o (yielded ops a.tmps) = true := by simp [Region.wanted, hg]
  rw [if_pos this]
  unfold Oper.wp
  rw [hr]
  refine hc.mono ?_
  rintro e w' ⟨rfl, hk⟩
  exact h _ _ hk
end Go.Proofs.Ytjokibagciehlaa
