/- Blocks of coefficients, plainly: what is written is read as it was. No function of the program. -/
import Derived.Test.YtocooplmfkeepaaLevQ
namespace Go.Proofs.Ytocooplmfkeepaa
set_option linter.unusedVariables false

theorem getT_of {f : Nat → Bool} {N a x m : Nat} (h : Lies f N a (teL x m)) (hx : x ≤ m) (hm : 1 ≤ m) (hb : m ≤ 1000) : getT f N m a = .ok (x, a + (teL x m).length) := by
  have := h.te hx hm (by omega)
  unfold getT
  rw [if_neg (by omega), this]
  simp
theorem getT_ofZ {f : Nat → Bool} {N a x m : Nat} (h : Lies f N a (teZ x m)) (hx : x ≤ m) (hb : m ≤ 1000) : getT f N m a = .ok (x, a + (teZ x m).length) := by
  unfold teZ at h ⊢
  by_cases h0 : m = 0
  · rw [if_pos h0]
    unfold getT
    rw [if_pos h0, show x = 0 by omega]
    rfl
  · rw [if_neg h0] at h ⊢
    exact getT_of h hx (by omega) hb
theorem getO_of {f : Nat → Bool} {N : Nat} (z : Nat → Int) : ∀ (l : List Nat) (acc : List Int) (a : Nat), (∀ p ∈ l, isOne (z p) = true) → Lies f N a (l.map fun p => decide (z p < 0)) → getO f N l.length acc a = .ok (acc ++ l.map z, a + l.length)
  | [], acc, a, _, _ => by simp [getO]
  | p :: r, acc, a, h1, h2 => by
    have hp := h1 p (List.mem_cons_self ..)
    have hl : Lies f N a ([decide (z p < 0)] ++ r.map fun p => decide (z p < 0)) := h2
    have hb := hl.left
    have hr := hl.right
    have e1 : [decide (z p < 0)] = dig (if z p < 0 then 1 else 0) 1 := by
      by_cases h : z p < 0
      · rw [if_pos h, decide_eq_true h]; decide
      · rw [if_neg h, decide_eq_false h]; decide
    rw [e1] at hb
    have hq := hb.bits (by omega) (by split <;> decide)
    have e2 : (1 : Int) - 2 * ((if z p < 0 then 1 else 0 : Nat) : Int) = z p := by
      unfold isOne at hp
      rw [decide_eq_true_iff] at hp
      split <;> omega
    show getO f N (r.length + 1) acc a = _
    rw [getO_succ]
    rw [show ((1 : Nat) : Int) = 1 from rfl] at hq
    rw [hq, dig_len]
    simp only [if_true]
    rw [e2]
    have := getO_of z r (acc ++ [z p]) (a + 1) (fun q hq => h1 q (List.mem_cons_of_mem _ hq)) hr
    rw [this]
    simp only [List.append_assoc, List.map_cons, List.length_cons, List.singleton_append]
    rw [show a + 1 + r.length = a + (r.length + 1) by omega]
theorem getV_of {f : Nat → Bool} {N a : Nat} {nr : Bool} {c : Int} (h : Lies f N a (seL (if nr = true then near c else c))) (hc : -32767 ≤ c ∧ c ≤ 32767) (h0 : c ≠ 0) (h1 : nr = true → isOne c = false) : getV f N nr a = .ok (c, a + (seL (if nr = true then near c else c)).length) := by
  have hb : -1073741823 ≤ (if nr = true then near c else c) ∧ (if nr = true then near c else c) ≤ 1073741823 := by
    unfold near
    split <;> (try split) <;> omega
  have hq := h.se hb.1 hb.2
  unfold getV
  rw [hq]
  simp only [if_true]
  cases nr
  · simp only [Bool.false_eq_true, if_false] at h hq ⊢
    rw [if_neg h0]
    unfold far
    simp only [Bool.false_eq_true, if_false]
    rw [if_neg (by omega)]
  · have h2 := h1 rfl
    unfold isOne at h2
    rw [decide_eq_false_iff_not] at h2
    simp only [if_true] at h hq ⊢
    have hn : near c ≠ 0 := by unfold near; split <;> omega
    rw [if_neg hn]
    have hf : far true (near c) = c := by
      unfold far near
      rw [if_pos rfl]
      split <;> split <;> omega
    rw [hf, if_neg (by omega)]
theorem getLs_of {f : Nat → Bool} {N : Nat} (z : Nat → Int) (o : Nat) : ∀ (l : List Nat) (i : Nat) (acc : List Int) (a : Nat), o ≤ i → (∀ p ∈ l, z p ≠ 0 ∧ -32767 ≤ z p ∧ z p ≤ 32767) → (i = o ∧ o < 3 → ∀ p r, l = p :: r → isOne (z p) = false) → Lies f N a (lvL z o i l) →
    getLs f N l.length (decide (i = o ∧ o < 3)) acc a = .ok (acc ++ l.map z, a + (lvL z o i l).length)
  | [], i, acc, a, _, _, _, _ => by simp [getLs, lvL]
  | p :: r, i, acc, a, hi, hz, hone, h => by
    have hp := hz p (List.mem_cons_self ..)
    have hl : Lies f N a (oneL o i (z p) ++ lvL z o (i + 1) r) := h
    have hlen : (lvL z o i (p :: r)).length = (oneL o i (z p)).length + (lvL z o (i + 1) r).length := by
      show (oneL o i (z p) ++ lvL z o (i + 1) r).length = _
      rw [List.length_append]
    have h1 := hl.left
    have h2 := hl.right
    have e1 : oneL o i (z p) = seL (if decide (i = o ∧ o < 3) = true then near (z p) else z p) := by
      unfold oneL told
      rw [if_neg (by omega)]
      by_cases h : i = o ∧ o < 3
      · rw [if_pos h, if_pos (by rw [decide_eq_true_iff]; exact h)]
      · rw [if_neg h, if_neg (by rw [decide_eq_true_iff]; exact h)]
    rw [e1] at h1
    have hv := getV_of h1 hp.2 hp.1 (fun q => hone (of_decide_eq_true q) p r rfl)
    rw [← e1] at hv
    show getLs f N (r.length + 1) _ acc a = _
    rw [getLs_succ, onw_ok hv]
    have hd : (false : Bool) = decide (i + 1 = o ∧ o < 3) := by
      symm
      rw [decide_eq_false_iff_not]
      omega
    have ih := getLs_of z o r (i + 1) (acc ++ [z p]) (a + (oneL o i (z p)).length) (by omega) (fun q hq => hz q (List.mem_cons_of_mem _ hq)) (fun q => absurd q.1 (by omega)) h2
    rw [← hd] at ih
    rw [ih, hlen]
    simp only [List.append_assoc, List.map_cons, List.singleton_append]
    rw [Nat.add_assoc]
/-- places that fall, the last of them left over the floor -/
def Falls : Nat → List Nat → Prop
  | _, [] => True
  | x, [p] => p = x
  | x, p :: q :: r => q < p ∧ p = x + (r.length + 1) ∧ p - q - 1 ≤ x ∧ Falls (x - (p - q - 1)) (q :: r)
theorem getRs_of {f : Nat → Bool} {N : Nat} (z : Nat → Int) : ∀ (l : List Nat) (x : Nat) (out : Nat → Int) (a : Nat), x ≤ 1000 → Falls x l → Lies f N a (rnL x l) →
    ∃ out', getRs f N (l.map z) x out a = .ok (out', a + (rnL x l).length) ∧ ∀ j, out' j = if j ∈ l then z j else out j
  | [], x, out, a, _, _, _ => ⟨out, by simp [getRs, rnL], by simp⟩
  | [p], x, out, a, _, hf, _ => by
    refine ⟨upd out x (z p), by simp [getRs_cons, rnL], fun j => ?_⟩
    have hp : p = x := hf
    unfold upd
    simp only [List.mem_singleton]
    rw [hp]
    by_cases h : j = x
    · rw [if_pos h, if_pos h, h]
    · rw [if_neg h, if_neg h]
  | p :: q :: r, x, out, a, hx, hf, h => by
    obtain ⟨h1, h2, h3, h4⟩ := hf
    have key : ∃ b, getT f N x a = .ok (p - q - 1, b) ∧ Lies f N b (rnL (x - (p - q - 1)) (q :: r)) ∧ b + (rnL (x - (p - q - 1)) (q :: r)).length = a + (rnL x (p :: q :: r)).length := by
      rw [rnL_cons] at h ⊢
      by_cases h0 : 0 < x
      · rw [if_pos h0] at h ⊢
        exact ⟨_, getT_of h.left h3 h0 hx, h.right, by rw [List.length_append]; omega⟩
      · rw [if_neg h0] at h ⊢
        have e0 : p - q - 1 = 0 := by omega
        have en : rnL (x - (p - q - 1)) (q :: r) = [] := by
          rw [show x - (p - q - 1) = 0 by omega]
          cases r with
          | nil => rfl
          | cons _ _ => rw [rnL_cons, if_neg (by omega)]
        refine ⟨a, ?_, ?_, ?_⟩
        · unfold getT
          rw [if_pos (by omega), e0]
        · rw [en]; exact h
        · rw [en]
    obtain ⟨b, k1, k2, k3⟩ := key
    have ih := getRs_of z (q :: r) (x - (p - q - 1)) (upd out (x + (List.map z (q :: r)).length) (z p)) b (by omega) h4 k2
    obtain ⟨out', g1, g2⟩ := ih
    refine ⟨out', ?_, fun j => ?_⟩
    · show getRs f N (z p :: List.map z (q :: r)) x out a = _
      rw [getRs_cons, if_neg (by simp), onw_ok k1, g1, k3]
    · rw [g2 j]
      have e1 : x + (List.map z (q :: r)).length = p := by simp; omega
      rw [e1]
      unfold upd
      by_cases hj : j ∈ q :: r
      · rw [if_pos hj, if_pos (List.mem_cons_of_mem _ hj)]
      · rw [if_neg hj]
        by_cases hp : j = p
        · rw [if_pos hp, if_pos (by rw [hp]; exact List.mem_cons_self ..), hp]
        · rw [if_neg hp, if_neg (by rw [List.mem_cons]; rintro (h | h); exact hp h; exact hj h)]
theorem atL_mem (z : Nat → Int) : ∀ k j, j ∈ atL z k ↔ j < k ∧ z j ≠ 0
  | 0, j => by simp [atL]
  | k + 1, j => by
    unfold atL
    by_cases h : z k = 0
    · rw [if_pos h, atL_mem z k j]
      constructor
      · rintro ⟨a, b⟩; exact ⟨by omega, b⟩
      · rintro ⟨a, b⟩
        refine ⟨?_, b⟩
        by_cases e : j = k
        · exact absurd (e ▸ h) b
        · omega
    · rw [if_neg h, List.mem_cons, atL_mem z k j]
      constructor
      · rintro (rfl | ⟨a, b⟩)
        · exact ⟨by omega, h⟩
        · exact ⟨by omega, b⟩
      · rintro ⟨a, b⟩
        by_cases e : j = k
        · exact .inl e
        · exact .inr ⟨by omega, b⟩
theorem falls_of (l : List Nat) (hg : ∀ i, i < l.length → l.length ≤ l.getD i 0 + i + 1) (hd : ∀ i, i + 1 < l.length → l.getD (i + 1) 0 < l.getD i 0) : ∀ (n i x : Nat), n = l.length - i → i < l.length → x + l.length = l.getD i 0 + i + 1 → Falls x (l.drop i)
  | 0, i, x, hn, hi, hx => by omega
  | n + 1, i, x, hn, hi, hx => by
    rw [List.drop_eq_getElem_cons hi]
    have e0 : l[i] = l.getD i 0 := by rw [List.getD_eq_getElem?_getD, List.getElem?_eq_getElem hi]; rfl
    by_cases h1 : i + 1 < l.length
    · have ih := falls_of l hg hd n (i + 1) (x - (l.getD i 0 - l.getD (i + 1) 0 - 1)) (by omega) h1 (by have := hd i h1; have := hg (i + 1) h1; omega)
      rw [List.drop_eq_getElem_cons h1] at ih ⊢
      have e1 : l[i + 1] = l.getD (i + 1) 0 := by rw [List.getD_eq_getElem?_getD, List.getElem?_eq_getElem h1]; rfl
      rw [e0, e1]
      rw [e1] at ih
      have h2 := hd i h1
      have h3 := hg (i + 1) h1
      exact ⟨h2, by rw [List.length_drop]; omega, by omega, ih⟩
    · rw [List.drop_eq_nil_of_le (by omega), e0]
      show l.getD i 0 = x
      omega
theorem lvL_two (z : Nat → Int) (o : Nat) : ∀ (l : List Nat) (i : Nat), i ≤ o → lvL z o i l = ((l.take (o - i)).map fun p => decide (z p < 0)) ++ lvL z o o (l.drop (o - i))
  | [], i, h => by simp [lvL]
  | p :: r, i, h => by
    by_cases hi : i < o
    · have ih := lvL_two z o r (i + 1) (by omega)
      rw [show o - i = (o - (i + 1)) + 1 by omega]
      show oneL o i (z p) ++ lvL z o (i + 1) r = _
      rw [ih]
      unfold oneL
      rw [if_pos hi]
      simp
    · obtain rfl : i = o := by omega
      simp
/-- there and back -/
theorem getB_of {f : Nat → Bool} {N a k : Nat} {z : Nat → Int} (hk : sizeOk k = true) (hz : lvOk z k = true) (h : Lies f N a (lvPut z k)) : ∃ z', getB f N k a = .ok (z', a + (lvPut z k).length) ∧ ∀ i, i < k → z' i = z i := by
  have hk16 := sizeOk_le hk
  have hzr := (lvOk_iff z k).1 hz
  have htl := atL_len z k
  have hmem := atL_mem z k
  have hget := atL_get z k
  have hdec := atL_dec z k
  unfold lvPut at h ⊢
  obtain ⟨l, hl⟩ : ∃ l, l = atL z k := ⟨_, rfl⟩
  rw [← hl] at h htl hmem hget hdec ⊢
  have ht := getT_of h.left htl (by omega) (by omega)
  unfold getB
  rw [onw_ok ht]
  have hr := h.right
  unfold getB1
  rcases Nat.eq_zero_or_pos l.length with h0 | h0
  · rw [if_pos h0, if_pos h0]
    refine ⟨fun _ => 0, by simp, fun i hi => ?_⟩
    have hnot : i ∉ l := by rw [List.eq_nil_of_length_eq_zero h0]; simp
    have := hmem i
    by_cases hzi : z i = 0
    · exact hzi.symm
    · exact absurd (this.2 ⟨hi, hzi⟩) hnot
  · rw [if_neg (by omega)] at hr
    rw [if_neg (by omega), if_neg (by omega)]
    generalize hb : a + (teL l.length k).length = b at hr ⊢
    obtain ⟨o, ho⟩ : ∃ o, o = lvOnes z l := ⟨_, rfl⟩
    obtain ⟨q, hq⟩ : ∃ q, q = lvLeft l := ⟨_, rfl⟩
    have ho1 : o ≤ min 3 l.length ∧ o ≤ l.length := by rw [ho]; exact onesN_le z _ l
    have ho2 := onesN_get z (min 3 l.length) l
    rw [show onesN z (min 3 l.length) l = o from ho.symm] at ho2
    have hg0 := hget 0 h0
    have hq0 : q = l.getD 0 0 + 1 - l.length := hq
    rw [← ho, ← hq] at hr ⊢
    have hABC := hr.left
    have hD := hr.right
    have hAB := hABC.left
    have hC := hABC.right
    have hA := hAB.left
    have hB := hAB.right
    have hT2 := getT_of hA ho1.1 (by omega) (by omega)
    rw [onw_ok hT2]
    have e2 := lvL_two z o l 0 (Nat.zero_le _)
    rw [Nat.sub_zero] at e2
    have hlen2 : (lvL z o 0 l).length = o + (lvL z o o (l.drop o)).length := by
      rw [e2, List.length_append, List.length_map, List.length_take]
      omega
    rw [e2] at hB
    have hO := getO_of z (l.take o) [] _ (fun p hp => by
      obtain ⟨j, hj, rfl⟩ := List.getElem_of_mem hp
      rw [List.length_take] at hj
      have := ho2.1 j (by omega)
      rw [List.getD_eq_getElem?_getD, List.getElem?_eq_getElem (by omega)] at this
      rw [List.getElem_take]
      exact this) hB.left
    rw [show (l.take o).length = o by rw [List.length_take]; omega, List.nil_append] at hO
    unfold getB2
    rw [onw_ok hO]
    have hB2 := hB.right
    rw [List.length_map, show (l.take o).length = o by rw [List.length_take]; omega] at hB2
    have hL := getLs_of z o (l.drop o) o ((l.take o).map z) _ (Nat.le_refl _) (fun p hp => by
      have hpl := (hmem p).1 (List.mem_of_mem_drop hp)
      have := hzr p hpl.1
      exact ⟨hpl.2, this⟩) (fun q p r hpr => by
      have hol : o < l.length := by
        have h := congrArg List.length hpr
        rw [List.length_drop, List.length_cons] at h
        omega
      rw [List.drop_eq_getElem_cons hol] at hpr
      injection hpr with h1 _
      rcases ho2.2 with h | h | h
      · omega
      · omega
      · rw [List.getD_eq_getElem?_getD, List.getElem?_eq_getElem hol] at h
        rw [← h1]
        exact h) hB2
    rw [List.length_drop, show decide (o = o ∧ o < 3) = decide (o < 3) by simp] at hL
    unfold getB3
    rw [onw_ok hL]
    rw [← List.map_append, List.take_append_drop]
    have hT3 := getT_ofZ hC (by omega) (by omega)
    unfold getB4
    have e3 : b + (teL o (min 3 l.length)).length + o + (lvL z o o (l.drop o)).length = b + (teL o (min 3 l.length) ++ lvL z o 0 l).length := by
      rw [List.length_append, hlen2]
      omega
    rw [e3, onw_ok hT3]
    have hF := falls_of l (fun i hi => (hget i hi).1) hdec l.length 0 q (by omega) h0 (by omega)
    rw [List.drop_zero] at hF
    have e4 : b + (teL o (min 3 l.length) ++ lvL z o 0 l).length + (teZ q (k - l.length)).length = b + (teL o (min 3 l.length) ++ lvL z o 0 l ++ teZ q (k - l.length)).length := by
      simp only [List.length_append]
      omega
    rw [e4]
    obtain ⟨out', g1, g2⟩ := getRs_of z l q (fun _ => 0) _ (by omega) hF hD
    refine ⟨out', ?_, fun i hi => ?_⟩
    · rw [g1, ← hb]
      congr 2
      simp only [List.length_append]
      omega
    · rw [g2 i]
      by_cases hzi : z i = 0
      · rw [if_neg (fun q => ((hmem i).1 q).2 hzi), hzi]
      · rw [if_pos ((hmem i).2 ⟨hi, hzi⟩)]
end Go.Proofs.Ytocooplmfkeepaa
