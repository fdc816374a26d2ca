/- A Writer beside the document's row of bits. -/
import Derived.Test.YtbahmiiflkgigaaLawA
import Derived.Test.YtbahmiiflkgigaaBitK
import Derived.Test.YtbahmiiflkgigaaBitL
import Derived.Test.YtbahmiiflkgigaaStructs
namespace Go.Proofs.Ytbahmiiflkgigaa
open Go.RowKit
set_option linter.unusedVariables false
set_option linter.unusedSimpArgs false

theorem wpList_append_rd_at {P : Program} (w : World) {ops : Array Oper} {rest : List Oper} {o : Oper} {a : Act} {Q : Exit → Act → World → Prop} (hgd : o.guard = none) (s x : Operand) (t : TypeId)
    (ho : o.op = .call { callee := .builtin .append, args := #[s, x], argTypes := #[t, t] })
    (base : Nat) (e : TypeId) (i : TypeInfo) (z : Value) (bytes : Nat) (ht : P.underlying t = some (.slice e)) (hi : P.info? e = some i) (hz : i.zero = some z)
    (hsize : i.size = 1) (hby : i.bytes = bytes) (hzs : z.cells.size = 1)
    (v : Value) (n : Nat) (xs : List Value) (hs : a.eval s = v) (hown : w.ownsRow base e 1 v n xs)
    (B : Nat) (A : Option Addr) (m c : Nat) (f : Nat → Value) (hx : a.eval x = .slice A m c) (hr : Rd w B A m f) (h0 : A = none → m = 0 ∧ c = 0) (h1 : ∀ k, (f k).oneCell' = true)
    (h63 : n + m ≤ maxLen) (hbytes : (n + m) * bytes ≤ 140737488355328) (hbase : base ≤ w.heap.size)
    (h : ∀ v' w', w'.ownsRow base e 1 v' (n + m) (xs ++ (List.range m).map f) → w.grownBy w' v.ownBlock → (v'.ownBlock = v.ownBlock ∨ v'.ownBlock = some w.heap.size) → wpList P ops Q rest (a.put o.dst v') w') : wpList P ops Q (o :: rest) a w := by
  rcases A with _ | ad
  · obtain ⟨rfl, rfl⟩ := h0 rfl
    refine wpList_append_own_none hgd s x t ho base e i 1 ht hi v n xs hs hown hx ?_
    exact h v w (by simpa using hown) (World.grownBy.refl w _) (.inl rfl)
  · refine wpList_append_own_at _ hgd s x t ho base e i z 1 bytes ht hi hz hsize hby hzs (by omega) v n xs hs hown ad m c ((List.range m).map f) hx (by simp) ?_ ?_ h63 hbytes hbase (fun v' w' g1 g2 _ g3 => h v' w' g1 g2 g3)
    · intro j u hj
      have hjm : j < m := by
        have := (List.getElem?_eq_some_iff.1 hj).1
        simpa using this
      obtain ⟨ad', e', hb, hc⟩ := hr (by omega)
      obtain rfl : ad = ad' := by injection e'
      rw [hc j hjm]
      simpa [hjm] using hj
    · intro u hu
      obtain ⟨k, _, rfl⟩ := List.mem_map.1 hu
      exact h1 k

/-- a Writer with bits b, a row u with bits c, apart -/
def WB (w0 w1 : World) (g : Nat) (v : Value) (b : List Bool) (M : Nat) (u : Value) (c : List Bool) : Prop :=
  WStep w0 w1 g v b M ∧ w1.ownsRow w0.heap.size 5 1 u c.length (bitsV c) ∧ Sep v u

section
variable {w0 w1 w2 : World} {g : Nat} {v u u' : Value} {b b' c c' : List Bool} {M : Nat}
theorem WB.size (h : WB w0 w1 g v b M u c) : w0.heap.size ≤ w1.heap.size := h.1.size
theorem WB.go (h : WB w0 w1 g v b M u c) (hb : Below w1.heap.size w1 w2) : WB w0 w2 g v b M u c := ⟨h.1.go hb, own_go h.2.1 hb, h.2.2⟩
theorem WB.put (h : WB w0 w1 g v b M u c) (k : PutPost w1 w0.heap.size g v b' w2) {M' : Nat} (hM : b'.length ≤ M') : ∃ v', WB w0 w2 g v' b' M' u c := by
  obtain ⟨v', hw, ht, hn⟩ := k
  obtain ⟨cc, hk, ho⟩ := h.1.1
  refine ⟨v', ⟨hw, h.1.2.1, Below.touch h.1.2.2.1 ht (fun i hi hs => by have := h.1.1.ws h.1.2.1 hs; omega) (Nat.le_refl _), hM⟩, own_touch h.2.1 ht ?_, ?_⟩
  · rintro k hk' (rfl | hs)
    · exact hk.ne_own h.2.1 (by decide) hk'
    · exact h.2.2 k hs hk'
  · intro k hk' q
    rcases hn with hn | ⟨j, hn, hj⟩
    · exact h.2.2 k (hn ▸ hk') q
    · have := (h.2.1.lt k q).2
      rw [hk'] at hn
      have : k = j := by injection hn
      omega
theorem WB.grow (h : WB w0 w1 g v b M u c) (ho : w2.ownsRow w0.heap.size 5 1 u' c'.length (bitsV c')) (ht : Touch (fun k => u.ownBlock = some k) w1 w2) (hn : New w1 u u') : WB w0 w2 g v b M u' c' := by
  obtain ⟨cc, hk, hv⟩ := h.1.1
  refine ⟨⟨⟨cc, hk.touch ht (fun q => hk.ne_own h.2.1 (by decide) q), own_touch hv ht (fun k hk' q => h.2.2 k hk' q)⟩, h.1.2.1, Below.touch h.1.2.2.1 ht (fun i hi hs => by have := (h.2.1.lt i hs).1; omega) (Nat.le_refl _), h.1.2.2.2⟩, ho, ?_⟩
  intro k hk' q
  rcases hn with hn | ⟨j, hn, hj⟩
  · exact h.2.2 k hk' (hn ▸ q)
  · have := (hv.lt k hk').2
    rw [q] at hn
    have : k = j := by injection hn
    omega
theorem WB.app (h : WB w0 w1 g v b M u c) (ho : w2.ownsRow w0.heap.size 5 1 u' c'.length (bitsV c')) (hg : w1.grownBy w2 u.ownBlock) (hat : u'.ownBlock = u.ownBlock ∨ u'.ownBlock = some w1.heap.size) : WB w0 w2 g v b M u' c' :=
  h.grow ho ((Touch.refl _ _).grown hg (fun k e _ => e)) (hat.elim .inl fun q => .inr ⟨_, q, Nat.le_refl _⟩)
theorem WB.same (h : WB w0 w1 g v b M u c) {M' : Nat} (hM : M ≤ M') : WB w0 w1 g v b M' u c := ⟨⟨h.1.1, h.1.2.1, h.1.2.2.1, Nat.le_trans h.1.2.2.2 hM⟩, h.2⟩
end

theorem drewN_below (w : World) (n : Nat) : Below w.heap.size w (w.drewN n) := ⟨rfl, rfl, rfl, Nat.le_refl _, fun _ _ => rfl⟩
/-- a new row of bits, read -/
theorem BRow.rd {w w' : World} {b : List Bool} {v : Value} (h : w'.ownsRow w.heap.size 5 1 v b.length (bitsV b)) :
    ∃ A c, v = .slice A b.length c ∧ Rd w' w'.heap.size A b.length (fun k => .int .u8 (bu (b.getD k false))) ∧ (A = none → b.length = 0 ∧ c = 0) := by
  obtain ⟨A, c, rfl, hnc, hcm, hr⟩ := Rd.bits h
  refine ⟨A, c, rfl, hr, fun q => ?_⟩
  rcases h.2 with ⟨q2, h0⟩ | ⟨g', cap', cur', q2, _⟩
  · simp only [Value.slice.injEq] at q2
    exact ⟨q2.2.1, q2.2.2⟩
  · rw [q] at q2
    simp at q2
theorem bitsV_add (b d : List Bool) : bitsV b ++ (List.range d.length).map (fun k => Value.int .u8 (bu (d.getD k false))) = bitsV (b ++ d) := by rw [bitsV_append, bitsV_range d]
end Go.Proofs.Ytbahmiiflkgigaa
