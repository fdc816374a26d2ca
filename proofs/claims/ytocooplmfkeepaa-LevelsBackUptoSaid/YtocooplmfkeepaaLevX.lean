/- Blocks of coefficients, plainly: a block that was read, written, is what was read. No function of the program. -/
import Derived.Test.YtocooplmfkeepaaLevW
namespace Go.Proofs.Ytocooplmfkeepaa
set_option linter.unusedVariables false

theorem onw_inv {α β : Type} {r : Except Int (α × Nat)} {K : α → Nat → Except Int β} {y : β} (h : onw r K = .ok y) : ∃ x b, r = .ok (x, b) ∧ K x b = .ok y := by
  cases r with
  | error e => cases h
  | ok v => exact ⟨v.1, v.2, rfl, h⟩
def lvC (o : Nat) : Nat → List Int → List Bool
  | _, [] => []
  | i, c :: r => oneL o i c ++ lvC o (i + 1) r
theorem lvL_C (z : Nat → Int) (o : Nat) : ∀ (l : List Nat) (i : Nat), lvL z o i l = lvC o i (l.map z)
  | [], i => rfl
  | p :: r, i => by
    show oneL o i (z p) ++ lvL z o (i + 1) r = oneL o i (z p) ++ lvC o (i + 1) (r.map z)
    rw [lvL_C z o r]
theorem lvC_app (o : Nat) : ∀ (ys rs : List Int) (i : Nat), i + ys.length = o → lvC o i (ys ++ rs) = (ys.map fun y => decide (y < 0)) ++ lvC o o rs
  | [], rs, i, h => by
    simp only [List.length_nil] at h
    obtain rfl : i = o := by omega
    rfl
  | y :: r, rs, i, h => by
    simp only [List.length_cons] at h
    show oneL o i y ++ lvC o (i + 1) (r ++ rs) = _
    rw [lvC_app o r rs (i + 1) (by omega)]
    unfold oneL
    rw [if_pos (by omega)]
    simp
theorem Lies.nil {f : Nat → Bool} {N a : Nat} (h : a ≤ N) : Lies f N a [] := ⟨by simpa using h, fun i hi => by simp at hi⟩
theorem getO_inv {f : Nat → Bool} {N : Nat} : ∀ (n : Nat) (acc : List Int) (a : Nat) (cs : List Int) (b : Nat), a ≤ N → getO f N n acc a = .ok (cs, b) → ∃ ys, cs = acc ++ ys ∧ ys.length = n ∧ (∀ y ∈ ys, isOne y = true) ∧ Lies f N a (ys.map fun y => decide (y < 0)) ∧ b = a + n
  | 0, acc, a, cs, b, ha, h => by
    unfold getO at h
    injection h with h
    injection h with h1 h2
    exact ⟨[], by simp [h1], rfl, by simp, Lies.nil ha, by omega⟩
  | n + 1, acc, a, cs, b, ha, h => by
    rw [getO_succ] at h
    by_cases he : (bitsR f N a 1).e = 0
    · rw [if_pos he] at h
      have hb := bits1_inv he
      rw [hb.2.1] at h
      obtain ⟨ys, h1, h2, h3, h4, h5⟩ := getO_inv n _ _ _ _ hb.1 h
      refine ⟨(1 - 2 * (bitsR f N a 1).x) :: ys, by rw [h1]; simp, by simp [h2], ?_, ?_, by omega⟩
      · intro y hy
        rcases List.mem_cons.1 hy with rfl | hy
        · rw [hb.2.2]
          cases f a <;> decide
        · exact h3 y hy
      · show Lies f N a ([decide ((1 - 2 * (bitsR f N a 1).x) < 0)] ++ ys.map fun y => decide (y < 0))
        refine Lies.append (Lies.one hb.1 ?_) h4
        rw [hb.2.2]
        cases f a <;> decide
    · rw [if_neg he] at h
      cases h
theorem getLs_inv {f : Nat → Bool} {N : Nat} : ∀ (n : Nat) (nr : Bool) (acc : List Int) (a : Nat) (cs : List Int) (b : Nat), a ≤ N → getLs f N n nr acc a = .ok (cs, b) → ∃ ys, cs = acc ++ ys ∧ ys.length = n ∧ (∀ y ∈ ys, y ≠ 0 ∧ -32767 ≤ y ∧ y ≤ 32767) ∧ (nr = true → ∀ y r, ys = y :: r → isOne y = false) ∧ ∀ o i, o ≤ i → nr = decide (i = o ∧ o < 3) → Lies f N a (lvC o i ys) ∧ b = a + (lvC o i ys).length
  | 0, nr, acc, a, cs, b, ha, h => by
    unfold getLs at h
    injection h with h
    injection h with h1 h2
    exact ⟨[], by simp [h1], rfl, by simp, fun _ y r q => (by cases q), fun o i _ _ => ⟨Lies.nil ha, by simp [lvC, h2]⟩⟩
  | n + 1, nr, acc, a, cs, b, ha, h => by
    rw [getLs_succ] at h
    obtain ⟨c, b1, g1, g2⟩ := onw_inv h
    obtain ⟨v1, v2, v3, v4, v5, v6⟩ := getV_inv g1
    obtain ⟨ys, h1, h2, h3, h4, h5⟩ := getLs_inv n false _ _ _ _ (by have := v1.1; omega) g2
    refine ⟨c :: ys, by rw [h1]; simp, by simp [h2], ?_, ?_, ?_⟩
    · intro y hy
      rcases List.mem_cons.1 hy with rfl | hy
      · exact ⟨v3, v4, v5⟩
      · exact h3 y hy
    · intro hn y r q
      injection q with q1 _
      rw [← q1]
      exact v6 hn
    · intro o i hi hn
      have e1 : oneL o i c = seL (if nr = true then near c else c) := by
        unfold oneL told
        rw [if_neg (by omega)]
        by_cases hc : i = o ∧ o < 3
        · rw [if_pos hc, if_pos (by rw [hn, decide_eq_true_iff]; exact hc)]
        · rw [if_neg hc, if_neg (by rw [hn, decide_eq_true_iff]; exact hc)]
      have h6 := h5 o (i + 1) (by omega) (by symm; rw [decide_eq_false_iff_not]; omega)
      rw [← e1] at v1 v2
      show Lies f N a (oneL o i c ++ lvC o (i + 1) ys) ∧ b = a + (oneL o i c ++ lvC o (i + 1) ys).length
      rw [v2] at h6
      refine ⟨Lies.append v1 h6.1, ?_⟩
      rw [List.length_append]
      omega
theorem getRs_inv {f : Nat → Bool} {N : Nat} : ∀ (cs : List Int) (x : Nat) (out : Nat → Int) (a : Nat) (out' : Nat → Int) (b : Nat), a ≤ N → getRs f N cs x out a = .ok (out', b) →
    ∃ l : List Nat, l.map out' = cs ∧ l.Pairwise (fun p q => q < p) ∧ Lies f N a (rnL x l) ∧ b = a + (rnL x l).length ∧ (∀ j, j ∉ l → out' j = out j) ∧ (∀ p ∈ l, p + 1 ≤ x + l.length) ∧ (0 < l.length → l.getD 0 0 + 1 = x + l.length)
  | [], x, out, a, out', b, ha, h => by
    unfold getRs at h
    injection h with h
    injection h with h1 h2
    exact ⟨[], rfl, List.Pairwise.nil, Lies.nil ha, by simp [rnL, h2], fun j _ => by rw [h1], by simp, by simp⟩
  | [c], x, out, a, out', b, ha, h => by
    rw [getRs_cons, if_pos rfl] at h
    injection h with h
    injection h with h1 h2
    refine ⟨[x], by simp [← h1, upd], by simp, Lies.nil ha, by simp [rnL, h2], fun j hj => ?_, by simp, by simp⟩
    rw [← h1]
    unfold upd
    rw [if_neg (by simpa using hj)]
  | c :: d :: r, x, out, a, out', b, ha, h => by
    rw [getRs_cons, if_neg (by simp)] at h
    obtain ⟨y, b1, g1, g2⟩ := onw_inv h
    have t1 := getT_ok g1 ha
    have t2 := getT_inv g1 ha
    obtain ⟨l, h1, h2, h3, h4, h5, h6, h7⟩ := getRs_inv (d :: r) (x - y) _ b1 out' b t1.2.2 g2
    have hlen : l.length = (d :: r).length := by rw [← h1, List.length_map]
    have hpos : 0 < l.length := by rw [hlen]; simp
    have hp : x + (d :: r).length ∉ l := fun q => by
      have := h6 _ q
      omega
    have hhd := h7 hpos
    refine ⟨(x + (d :: r).length) :: l, ?_, ?_, ?_⟩
    · rw [List.map_cons, h1, h5 _ hp]
      unfold upd
      rw [if_pos rfl]
    · rw [List.pairwise_cons]
      refine ⟨fun q hq => ?_, h2⟩
      have := h6 q hq
      omega
    · obtain ⟨q, l', rfl⟩ : ∃ q l', l = q :: l' := by
        cases l with
        | nil => simp at hpos
        | cons q l' => exact ⟨q, l', rfl⟩
      simp only [List.getD_cons_zero] at hhd
      have e0 : x + (d :: r).length - q - 1 = y := by omega
      have key : Lies f N a (rnL x ((x + (d :: r).length) :: q :: l')) ∧ b = a + (rnL x ((x + (d :: r).length) :: q :: l')).length := by
        rw [rnL_cons, e0]
        by_cases hx : 0 < x
        · rw [if_pos hx]
          have e2 : teZ y x = teL y x := by unfold teZ; rw [if_neg (by omega)]
          rw [e2] at t2
          rw [t2.2] at h3 h4
          refine ⟨Lies.append t2.1 h3, ?_⟩
          rw [List.length_append]
          omega
        · rw [if_neg hx]
          have en : rnL (x - y) (q :: l') = [] := by
            rw [show x - y = 0 by omega]
            cases l' with
            | nil => rfl
            | cons _ _ => rw [rnL_cons, if_neg (by omega)]
          have e2 : teZ y x = [] := by unfold teZ; rw [if_pos (by omega)]
          rw [e2] at t2
          rw [en] at h4
          refine ⟨Lies.nil ha, ?_⟩
          have := t2.2
          simp at this h4 ⊢
          omega
      refine ⟨key.1, key.2, fun j hj => ?_, fun p hpm => ?_, fun _ => ?_⟩
      · rw [List.mem_cons] at hj
        rw [h5 j (fun q => hj (.inr q))]
        unfold upd
        rw [if_neg (fun q => hj (.inl q))]
      · rcases List.mem_cons.1 hpm with rfl | hpm
        · have := hlen; simp only [List.length_cons] at this ⊢; omega
        · have := h6 p hpm
          simp only [List.length_cons] at this ⊢; omega
      · have := hlen; simp only [List.getD_cons_zero, List.length_cons] at this ⊢; omega
theorem atL_eq (z : Nat → Int) : ∀ (k : Nat) (l : List Nat), l.Pairwise (fun p q => q < p) → (∀ j, j < k → (z j ≠ 0 ↔ j ∈ l)) → (∀ p ∈ l, p < k) → atL z k = l
  | 0, l, _, _, h => by
    cases l with
    | nil => rfl
    | cons p r => exact absurd (h p (List.mem_cons_self ..)) (by omega)
  | k + 1, l, hp, hm, hk => by
    unfold atL
    by_cases h0 : z k = 0
    · rw [if_pos h0]
      have hn : k ∉ l := fun q => (hm k (by omega)).2 q h0
      refine atL_eq z k l hp (fun j hj => hm j (by omega)) (fun p hpl => ?_)
      have h1 := hk p hpl
      have h2 : p ≠ k := fun e => hn (e ▸ hpl)
      omega
    · rw [if_neg h0]
      have hin := (hm k (by omega)).1 h0
      cases l with
      | nil => cases hin
      | cons p r =>
        rw [List.pairwise_cons] at hp
        have h1 := hk p (List.mem_cons_self ..)
        have e : k = p := by
          rcases List.mem_cons.1 hin with h | h
          · exact h
          · have := hp.1 k h; omega
        subst e
        congr 1
        refine atL_eq z k r hp.2 (fun j hj => ?_) (fun p hpl => hp.1 p hpl)
        rw [hm j (by omega), List.mem_cons]
        constructor
        · rintro (h | h)
          · omega
          · exact h
        · exact .inr
theorem getD_map (z : Nat → Int) (l : List Nat) (j : Nat) (h : j < l.length) : z (l.getD j 0) = (l.map z).getD j 0 := by
  rw [List.getD_eq_getElem?_getD, List.getD_eq_getElem?_getD, List.getElem?_map, List.getElem?_eq_getElem h]
  rfl
/-- back and there -/
theorem getB_inv {f : Nat → Bool} {N a b k : Nat} {z : Nat → Int} (hk : sizeOk k = true) (ha : a ≤ N) (h : getB f N k a = .ok (z, b)) : lvOk z k = true ∧ Lies f N a (lvPut z k) ∧ b = a + (lvPut z k).length := by
  have hk16 := sizeOk_le hk
  unfold getB at h
  obtain ⟨t, b1, g1, h⟩ := onw_inv h
  have t1 := getT_ok g1 ha
  have u1 := getT_inv g1 ha
  rw [show teZ t k = teL t k by unfold teZ; rw [if_neg (by omega)]] at u1
  unfold getB1 at h
  by_cases ht : t = 0
  · rw [if_pos ht] at h
    injection h with h
    injection h with h1 h2
    have e : atL z k = [] := atL_eq z k [] List.Pairwise.nil (fun j _ => by simp [← h1]) (by simp)
    have e2 : lvPut z k = teL t k := by
      unfold lvPut
      rw [e, ht]
      simp
    rw [e2]
    refine ⟨(lvOk_iff z k).2 fun i _ => by simp [← h1], u1.1, by rw [← h2]; exact u1.2⟩
  · rw [if_neg ht] at h
    obtain ⟨o, b2, g2, h⟩ := onw_inv h
    have t2 := getT_ok g2 t1.2.2
    have u2 := getT_inv g2 t1.2.2
    rw [show teZ o (min 3 t) = teL o (min 3 t) by unfold teZ; rw [if_neg (by omega)]] at u2
    unfold getB2 at h
    obtain ⟨c1, b3, g3, h⟩ := onw_inv h
    obtain ⟨y1, p1, p2, p3, p4, p5⟩ := getO_inv o [] b2 c1 b3 t2.2.2 g3
    have hb3 : b3 ≤ N := by have := p4.1; rw [List.length_map, p2] at this; omega
    unfold getB3 at h
    obtain ⟨cs, b4, g4, h⟩ := onw_inv h
    obtain ⟨y2, q1, q2, q3, q4, q5⟩ := getLs_inv (t - o) (decide (o < 3)) c1 b3 cs b4 hb3 g4
    have q6 := q5 o o (Nat.le_refl _) (by simp)
    have hb4 : b4 ≤ N := by have := q6.1.1; omega
    unfold getB4 at h
    obtain ⟨x, b5, g5, h⟩ := onw_inv h
    have t5 := getT_ok g5 hb4
    have u5 := getT_inv g5 hb4
    obtain ⟨l, r1, r2, r3, r4, r5, r6, r7⟩ := getRs_inv cs x (fun _ => 0) b5 z b t5.2.2 h
    rw [List.nil_append] at p1
    rw [p1] at q1
    have hcl : l.length = t := by
      rw [← List.length_map (f := z), r1, q1, List.length_append]; omega
    have hl0 : 0 < l.length := by omega
    have hhd := r7 hl0
    have hval : ∀ p ∈ l, z p ≠ 0 ∧ -32767 ≤ z p ∧ z p ≤ 32767 := by
      intro p hp
      have hm : z p ∈ cs := by rw [← r1]; exact List.mem_map_of_mem hp
      rw [q1, List.mem_append] at hm
      rcases hm with hm | hm
      · have := p3 _ hm
        unfold isOne at this
        rw [decide_eq_true_iff] at this
        omega
      · exact q3 _ hm
    have e : atL z k = l := atL_eq z k l r2 (fun j hj => by
      constructor
      · intro hz
        by_cases hjl : j ∈ l
        · exact hjl
        · exact absurd (r5 j hjl) hz
      · intro hjl
        exact (hval j hjl).1) (fun p hp => by have := r6 p hp; omega)
    have ho : lvOnes z l = o := by
      unfold lvOnes
      refine onesN_of z (min 3 l.length) l o (by omega) (by omega) (fun j hj => ?_) ?_
      · rw [getD_map z l j (by omega), r1, q1, List.getD_eq_getElem?_getD, List.getElem?_append_left (by omega), List.getElem?_eq_getElem (by omega)]
        exact p3 _ (List.getElem_mem _)
      · by_cases h3 : o < 3
        · by_cases ho : o < t
          · right; right
            rw [getD_map z l o (by omega), r1, q1, List.getD_eq_getElem?_getD, List.getElem?_append_right (by omega), p2, Nat.sub_self]
            cases y2 with
            | nil => simp only [List.length_nil] at q2; omega
            | cons y r => exact q4 (decide_eq_true h3) y r rfl
          · right; left; omega
        · left; omega
    have hx : lvLeft l = x := by unfold lvLeft; omega
    have e2 : lvPut z k = teL t k ++ (teL o (min 3 t) ++ lvL z o 0 l ++ teZ x (k - t) ++ rnL x l) := by
      unfold lvPut
      rw [e, ho, hx, hcl, if_neg ht]
    have e3 : lvL z o 0 l = (y1.map fun y => decide (y < 0)) ++ lvC o o y2 := by
      rw [lvL_C, r1, q1, lvC_app o y1 y2 0 (by omega)]
    have hlen3 : (lvL z o 0 l).length = o + (lvC o o y2).length := by rw [e3, List.length_append, List.length_map, p2]
    have k1 : Lies f N b2 (lvL z o 0 l) := by
      rw [e3]
      refine Lies.append p4 ?_
      rw [List.length_map, p2, ← p5]
      exact q6.1
    have k2 : Lies f N b1 (teL o (min 3 t) ++ lvL z o 0 l) := Lies.append u2.1 (by rw [← u2.2]; exact k1)
    have hb4' : b4 = b1 + (teL o (min 3 t) ++ lvL z o 0 l).length := by
      have := q6.2
      rw [List.length_append, hlen3]
      omega
    have k3 : Lies f N b1 (teL o (min 3 t) ++ lvL z o 0 l ++ teZ x (k - t)) := Lies.append k2 (by rw [← hb4']; exact u5.1)
    have hb5 : b5 = b1 + (teL o (min 3 t) ++ lvL z o 0 l ++ teZ x (k - t)).length := by
      have := u5.2
      rw [List.length_append]
      omega
    have k4 : Lies f N b1 (teL o (min 3 t) ++ lvL z o 0 l ++ teZ x (k - t) ++ rnL x l) := Lies.append k3 (by rw [← hb5]; exact r3)
    refine ⟨(lvOk_iff z k).2 fun i hi => ?_, ?_, ?_⟩
    · by_cases hil : i ∈ l
      · exact (hval i hil).2
      · rw [r5 i hil]; decide
    · rw [e2]
      exact Lies.append u1.1 (by rw [← u1.2]; exact k4)
    · rw [e2, List.length_append, List.length_append]
      have := u1.2
      omega
end Go.Proofs.Ytocooplmfkeepaa
