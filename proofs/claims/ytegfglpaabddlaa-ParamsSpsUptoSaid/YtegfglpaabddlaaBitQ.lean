/- Rows of bits that are appended to rows of bits. -/
import Derived.Test.YtegfglpaabddlaaBitR
import Derived.Test.YtegfglpaabddlaaSep
namespace Go.Proofs.Ytegfglpaabddlaa
open Go.RowKit
set_option linter.unusedVariables false
set_option linter.unusedSimpArgs false

theorem wpList_append_rd_at {P : Program} (w : World) {ops : Array Oper} {rest : List Oper} {o : Oper} {a : Act} {Q : Exit → Act → World → Prop} (hgd : o.guard = none) (s x : Operand) (t : TypeId)
    (ho : o.op = .call { callee := .builtin .append, args := #[s, x], argTypes := #[t, t] })
    (base : Nat) (e : TypeId) (i : TypeInfo) (z : Value) (bytes : Nat) (ht : P.underlying t = some (.slice e)) (hi : P.info? e = some i) (hz : i.zero = some z)
    (hsize : i.size = 1) (hby : i.bytes = bytes) (hzs : z.cells.size = 1)
    (v : Value) (n : Nat) (xs : List Value) (hs : a.eval s = v) (hown : w.ownsRow base e 1 v n xs)
    (B : Nat) (A : Option Addr) (m c : Nat) (f : Nat → Value) (hx : a.eval x = .slice A m c) (hr : Rd w B A m f) (h0 : A = none → m = 0 ∧ c = 0) (h1 : ∀ k, (f k).oneCell' = true)
    (h63 : n + m ≤ maxLen) (hbytes : (n + m) * bytes ≤ 140737488355328) (hbase : base ≤ w.heap.size)
    (h : ∀ v' w', w'.ownsRow base e 1 v' (n + m) (xs ++ (List.range m).map f) → w.grownBy w' v.ownBlock → (v'.ownBlock = v.ownBlock ∨ v'.ownBlock = some w.heap.size) → wpList P ops Q rest (a.put o.dst v') w') : wpList P ops Q (o :: rest) a w := by
  rcases A with _ | ad
  · obtain ⟨rfl, rfl⟩ := h0 rfl
    refine wpList_append_own_none hgd s x t ho base e i 1 ht hi v n xs hs hown hx ?_
    exact h v w (by simpa using hown) (World.grownBy.refl w _) (.inl rfl)
  · refine wpList_append_own_at _ hgd s x t ho base e i z 1 bytes ht hi hz hsize hby hzs (by omega) v n xs hs hown ad m c ((List.range m).map f) hx (by simp) ?_ ?_ h63 hbytes hbase (fun v' w' g1 g2 _ g3 => h v' w' g1 g2 g3)
    · intro j u hj
      have hjm : j < m := by
        have := (List.getElem?_eq_some_iff.1 hj).1
        simpa using this
      obtain ⟨ad', e', hb, hc⟩ := hr (by omega)
      obtain rfl : ad = ad' := by injection e'
      rw [hc j hjm]
      simpa [hjm] using hj
    · intro u hu
      obtain ⟨k, _, rfl⟩ := List.mem_map.1 hu
      exact h1 k

/-- a new row of bits, read -/
theorem BRow.rd {w w' : World} {b : List Bool} {v : Value} (h : w'.ownsRow w.heap.size 5 1 v b.length (bitsV b)) :
    ∃ A c, v = .slice A b.length c ∧ Rd w' w'.heap.size A b.length (fun k => .int .u8 (bu (b.getD k false))) ∧ (A = none → b.length = 0 ∧ c = 0) := by
  obtain ⟨A, c, rfl, hnc, hcm, hr⟩ := Rd.bits h
  refine ⟨A, c, rfl, hr, fun q => ?_⟩
  rcases h.2 with ⟨q2, h0⟩ | ⟨g', cap', cur', q2, _⟩
  · simp only [Value.slice.injEq] at q2
    exact ⟨q2.2.1, q2.2.2⟩
  · rw [q] at q2
    simp at q2
theorem bitsV_add (b d : List Bool) : bitsV b ++ (List.range d.length).map (fun k => Value.int .u8 (bu (d.getD k false))) = bitsV (b ++ d) := by rw [bitsV_append, bitsV_range d]
theorem BGrow.go {w w1 w2 : World} {base : Nat} {v v1 : Value} {b : List Bool} (h : BGrow w base v b v1 w1) (hb : Below w1.heap.size w1 w2) : BGrow w base v b v1 w2 :=
  ⟨own_go h.1 hb, h.2.1.trans (Touch.of_new hb), h.2.2⟩
theorem BGrow.refl {w : World} {base : Nat} {v : Value} {b : List Bool} (h : w.ownsRow base 5 1 v b.length (bitsV b)) : BGrow w base v b v w := ⟨h, Touch.refl _ _, .inl rfl⟩
theorem BGrow.app {w w1 w2 : World} {base : Nat} {v v1 v2 : Value} {b c : List Bool} (h : BGrow w base v b v1 w1) (ho : w2.ownsRow base 5 1 v2 c.length (bitsV c)) (hg : w1.grownBy w2 v1.ownBlock) {N : Nat} (hat : v2.ownBlock = v1.ownBlock ∨ v2.ownBlock = some N) (hN : w1.heap.size ≤ N) : BGrow w base v c v2 w2 :=
  BGrow.step (d := []) (o := none) h ho (.inl rfl) hg hat hN
/-- append of a new row of bits -/
theorem wpList_app {w w0 w1 : World} {ops : Array Oper} {rest : List Oper} {o : Oper} {a : Act} {Q : Exit → Act → World → Prop} (hgd : o.guard = none) (s x : Operand)
    (ho : o.op = .call { callee := .builtin .append, args := #[s, x], argTypes := #[56, 56] })
    (base : Nat) (v v1 vd : Value) (b d : List Bool) (hs : a.eval s = v1) (hx : a.eval x = vd) (hG : BGrow w0 base v b v1 w1) (hbs : base ≤ w1.heap.size) (hb : Below w1.heap.size w1 w)
    (hd : w.ownsRow w1.heap.size 5 1 vd d.length (bitsV d)) (hlen : b.length + d.length ≤ 100000000)
    (h : ∀ v2 w2, BGrow w0 base v (b ++ d) v2 w2 → wpList Try.prog ops Q rest (a.put o.dst v2) w2) : wpList Try.prog ops Q (o :: rest) a w := by
  obtain ⟨i0, hi, hz0, hz1, hz2⟩ := info_parts u8_info
  obtain ⟨A, c, rfl, hr, hnil⟩ := BRow.rd hd
  have hs1 := hb.size
  refine wpList_append_rd_at w hgd s x 56 ho base 5 i0 (.int .u8 0) 1 Try.underlying56 hi hz0 hz1 hz2 rfl v1 b.length (bitsV b) hs (own_go hG.1 hb) w.heap.size A d.length c _ hx hr hnil (fun k => rfl) (by unfold maxLen; omega) (by omega) (by omega) ?_
  intro v2 w2 hown hg hat
  rw [bitsV_add, ← List.length_append] at hown
  exact h v2 w2 ((hG.go hb).app hown hg hat (Nat.le_refl _))
end Go.Proofs.Ytegfglpaabddlaa
