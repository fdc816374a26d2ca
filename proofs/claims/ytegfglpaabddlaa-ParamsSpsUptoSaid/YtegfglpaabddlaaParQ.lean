/- Parameters, plainly: there and back; what is taken stands as it is written. No function of the program. -/
import Derived.Test.YtegfglpaabddlaaParP
namespace Go.Proofs.Ytegfglpaabddlaa
set_option linter.unusedVariables false
set_option linter.unusedSimpArgs false

section
variable {f : Nat → Bool} {N : Nat}
theorem ueS_lies {s : St} {x : Nat} (h : Lies f N s.a (ueL x)) (hx : x ≤ 2147483646) : ueX f N s = x ∧ ueS f N s = ⟨s.a + (ueL x).length, s.bad⟩ := by
  have := h.ue hx
  unfold ueX ueS
  rw [this]
  exact ⟨rfl, by simp [neB]⟩
theorem ueS_lies' {s : St} {x : Int} (h : Lies f N s.a (ueL x.toNat)) (h0 : 0 ≤ x) (hx : x ≤ 2147483646) : ueX f N s = x ∧ ueS f N s = ⟨s.a + (ueL x.toNat).length, s.bad⟩ := by
  have := ueS_lies h (by omega)
  exact ⟨this.1.trans (by omega), this.2⟩
theorem seS_lies {s : St} {x : Int} (h : Lies f N s.a (seL x)) (h0 : -1073741823 ≤ x) (h1 : x ≤ 1073741823) : seX f N s = x ∧ ueS f N s = ⟨s.a + (seL x).length, s.bad⟩ := by
  have := h.se h0 h1
  have e2 : ueS f N s = ⟨(seR f N s.a).at_, s.bad || neB (seR f N s.a).e⟩ := rfl
  unfold seX
  rw [e2, this]
  exact ⟨rfl, by simp [neB]⟩
theorem ueS_inv {s : St} (h : (ueS f N s).bad = false) : s.bad = false ∧ Lies f N s.a (ueL (ueX f N s).toNat) ∧ (ueS f N s).a = s.a + (ueL (ueX f N s).toNat).length ∧ 0 ≤ ueX f N s ∧ ueX f N s ≤ 2147483646 := by
  have h' : (s.bad || neB (ueR f N s.a).e) = false := h
  rw [Bool.or_eq_false_iff] at h'
  have := ueR_inv ((neB_no _).1 h'.2)
  exact ⟨h'.1, this⟩
theorem seS_inv {s : St} (h : (ueS f N s).bad = false) : s.bad = false ∧ Lies f N s.a (seL (seX f N s)) ∧ (ueS f N s).a = s.a + (seL (seX f N s)).length := by
  have h' : (s.bad || neB (ueR f N s.a).e) = false := h
  rw [Bool.or_eq_false_iff] at h'
  have := seR_inv (f := f) (N := N) (a := s.a) ((neB_no _).1 h'.2)
  exact ⟨h'.1, this⟩
theorem btS_lies {s : St} {x : Nat} {k : Nat} (h : Lies f N s.a (dig x k)) (hk : k ≤ 32) (hx : x < 2 ^ k) : btX f N k s = x ∧ btS f N k s = ⟨s.a + (dig x k).length, s.bad⟩ := by
  have := h.bits hk hx
  unfold btX btS
  rw [this]
  exact ⟨rfl, by simp [neB]⟩
theorem bitsR_inv {a k : Nat} (hk : k ≤ 32) (h : (bitsR f N a k).e = 0) : 0 ≤ (bitsR f N a k).x ∧ (bitsR f N a k).x < 2 ^ k ∧ Lies f N a (dig (bitsR f N a k).x.toNat k) ∧ (bitsR f N a k).at_ = a + k := by
  unfold bitsR at h ⊢
  rw [if_neg (by omega)] at h ⊢
  by_cases h2 : (N : Int) - a < k
  · rw [if_pos h2] at h; cases h
  · rw [if_neg h2] at h ⊢
    have e : ((k : Int)).toNat = k := rfl
    rw [e]
    have hv := val_lt f a k
    refine ⟨Int.natCast_nonneg _, by simpa using Int.ofNat_lt.2 hv, ?_, rfl⟩
    exact Lies.dig_val f N a k (by omega)
theorem btS_inv {s : St} {k : Nat} (hk : k ≤ 32) (h : (btS f N k s).bad = false) : s.bad = false ∧ 0 ≤ btX f N k s ∧ btX f N k s < 2 ^ k ∧ Lies f N s.a (dig (btX f N k s).toNat k) ∧ (btS f N k s).a = s.a + k := by
  have h' : (s.bad || neB (bitsR f N s.a k).e) = false := h
  rw [Bool.or_eq_false_iff] at h'
  exact ⟨h'.1, bitsR_inv hk ((neB_no _).1 h'.2)⟩
theorem cyS_lies {s : St} {l : List Int} (h : Lies f N s.a (cyL l)) (hb : ∀ x ∈ l, -1073741823 ≤ x ∧ x ≤ 1073741823) : cyX f N l.length s = l ∧ cyS f N l.length s = ⟨s.a + (cyL l).length, s.bad⟩ := by
  have key : ∀ k, k ≤ l.length → cyX f N k s = l.take k ∧ cyS f N k s = ⟨s.a + (cyL (l.take k)).length, s.bad⟩ := by
    intro k
    induction k with
    | zero => intro _; exact ⟨by simp [cyX], by simp [cyS, cyL]⟩
    | succ k ih =>
      intro hk
      obtain ⟨i1, i2⟩ := ih (by omega)
      have e : l.take (k + 1) = l.take k ++ [l[k]] := by rw [List.take_add_one, List.getElem?_eq_getElem (by omega)]; rfl
      have hl : cyL l = cyL (l.take k) ++ (seL l[k] ++ cyL (l.drop (k + 1))) := by
        have h1 : cyL (l.take k ++ [l[k]] ++ l.drop (k + 1)) = cyL (l.take k) ++ (seL l[k] ++ cyL (l.drop (k + 1))) := by
          unfold cyL
          rw [List.flatMap_append, List.flatMap_append, List.append_assoc, List.flatMap_cons, List.flatMap_nil, List.append_nil]
        rw [← h1, ← e, List.take_append_drop]
      rw [hl] at h
      have hx := hb l[k] (List.getElem_mem _)
      have hs := seS_lies (s := cyS f N k s) (x := l[k]) (by rw [i2]; exact h.right.left) hx.1 hx.2
      refine ⟨?_, ?_⟩
      · show cyX f N k s ++ [seX f N (cyS f N k s)] = _
        rw [i1, hs.1, e]
      · show ueS f N (cyS f N k s) = _
        rw [hs.2, i2, e, cyL_snoc]
        simp [Nat.add_assoc]
  have := key l.length (Nat.le_refl _)
  rw [List.take_length] at this
  exact this
theorem cyS_inv {s : St} (hs : s.a ≤ N) : ∀ k, (cyS f N k s).bad = false → s.bad = false ∧ Lies f N s.a (cyL (cyX f N k s)) ∧ (cyS f N k s).a = s.a + (cyL (cyX f N k s)).length
  | 0, h => ⟨h, Lies.nil hs, rfl⟩
  | k + 1, h => by
    obtain ⟨h1, h2, h3⟩ := seS_inv (s := cyS f N k s) h
    obtain ⟨i1, i2, i3⟩ := cyS_inv hs k h1
    have e : cyX f N (k + 1) s = cyX f N k s ++ [seX f N (cyS f N k s)] := rfl
    rw [e, cyL_snoc]
    rw [i3] at h2
    refine ⟨i1, i2.append h2, ?_⟩
    show (ueS f N (cyS f N k s)).a = _
    rw [h3, i3, List.length_append, Nat.add_assoc]

theorem finSp_of {s : Sp} {t : St} (h : Lies f N t.a (ueL s.refs.toNat ++ ueL s.delay.toNat)) (hb : t.bad = false) (ok : SpOk s) {y : Sp} (hy : { y with refs := s.refs, delay := s.delay } = s) :
    finSp f N y t = if (trailR f N (t.a + (ueL s.refs.toNat).length + (ueL s.delay.toNat).length)).1 ≠ 0 then (.zero, 300) else (s, 0) := by
  obtain ⟨_, _, _, _, _, _, _, _, _, _, h1, h2, _⟩ := id ok
  have a1 := ueS_lies' (s := t) h.left (by omega) (by omega)
  have a2 := ueS_lies' (s := ueS f N t) (x := s.delay) (by rw [a1.2]; exact h.right) (by omega) (by omega)
  unfold finSp
  rw [a1.1, a2.1, a2.2, a1.2]
  simp only [hb, hy, (maySp_iff s).2 ok, Bool.false_eq_true, false_or, if_true]
theorem getSp_lies {s : Sp} (h : Lies f N 0 (spL s)) (ok : SpOk s) : getSp f N = if (trailR f N (spL s).length).1 ≠ 0 then (.zero, 300) else (s, 0) := by
  obtain ⟨h1, h2, h3, h4, h5, h6, h7, h8, h9, h10, h11, h12, h13⟩ := id ok
  unfold spL at h
  have hL : (spL s).length = (ueL (s.wide - 1).toNat).length + (ueL (s.high - 1).toNat).length + (ueL (s.fb - 4).toNat).length + (ueL s.pt.toNat).length + (mid s).length + (ueL s.refs.toNat).length + (ueL s.delay.toNat).length := by
    unfold spL
    simp only [List.length_append]
  simp only [List.append_assoc] at h
  have a1 := ueS_lies' (s := ⟨0, false⟩) (x := s.wide - 1) h.left (by omega) (by omega)
  have e1 : u1 f N = ⟨0 + (ueL (s.wide - 1).toNat).length, false⟩ := a1.2
  have g1 := h.right
  have a2 := ueS_lies' (s := u1 f N) (x := s.high - 1) (by rw [e1]; exact g1.left) (by omega) (by omega)
  have e2 : u2 f N = ⟨0 + (ueL (s.wide - 1).toNat).length + (ueL (s.high - 1).toNat).length, false⟩ := by unfold u2; rw [a2.2, e1]
  have g2 := g1.right
  have a3 := ueS_lies' (s := u2 f N) (x := s.fb - 4) (by rw [e2]; exact g2.left) (by omega) (by omega)
  have e3 : u3 f N = ⟨0 + (ueL (s.wide - 1).toNat).length + (ueL (s.high - 1).toNat).length + (ueL (s.fb - 4).toNat).length, false⟩ := by unfold u3; rw [a3.2, e2]
  have g3 := g2.right
  have a4 := ueS_lies' (s := u3 f N) (x := s.pt) (by rw [e3]; exact g3.left) (by omega) (by omega)
  have e4 : u4 f N = ⟨0 + (ueL (s.wide - 1).toNat).length + (ueL (s.high - 1).toNat).length + (ueL (s.fb - 4).toNat).length + (ueL s.pt.toNat).length, false⟩ := by unfold u4; rw [a4.2, e3]
  have g4 := g3.right
  have hhd : hdSp f N = ⟨s.wide, s.high, s.fb, s.pt, 4, 0, [], 0, 0⟩ := by
    unfold hdSp
    rw [a1.1, a2.1, a3.1, a4.1]
    congr 1 <;> omega
  unfold getSp
  rw [a4.1, hhd]
  by_cases p0 : s.pt = 0
  · have hm : mid s = ueL (s.pb - 4).toNat := if_pos p0
    rw [hm] at g4 hL
    have a5 := ueS_lies' (s := u4 f N) (x := s.pb - 4) (by rw [e4]; exact g4.left) (by omega) (by omega)
    have e5 : u5 f N = ⟨0 + (ueL (s.wide - 1).toNat).length + (ueL (s.high - 1).toNat).length + (ueL (s.fb - 4).toNat).length + (ueL s.pt.toNat).length + (ueL (s.pb - 4).toNat).length, false⟩ := by unfold u5; rw [a5.2, e4]
    rw [if_pos p0, a5.1]
    have hz : s.nr = 0 ∧ s.cy.length = 0 := by rcases h9 with q | q; · omega
                                               · exact q
    have hc := List.eq_nil_of_length_eq_zero hz.2
    rw [finSp_of (s := s) (t := u5 f N) (by rw [e5]; exact g4.right) (by rw [e5]) ok (by
      obtain ⟨wide, high, fb, pt, pb, nr, cy, refs, delay⟩ := s
      simp only at hz hc p0 ⊢
      rw [hz.1, hc]
      congr 1
      omega)]
    rw [e5, hL, Nat.zero_add]
  · by_cases p1 : s.pt = 1
    · have hm : mid s = seL s.nr ++ ueL s.cy.length ++ cyL s.cy := by unfold mid; rw [if_neg p0, if_pos p1]
      rw [hm] at g4 hL
      simp only [List.append_assoc] at g4
      simp only [List.length_append] at hL
      have a5 := seS_lies (s := u4 f N) (x := s.nr) (by rw [e4]; exact g4.left) (by omega) (by omega)
      have e5 : u5 f N = ⟨0 + (ueL (s.wide - 1).toNat).length + (ueL (s.high - 1).toNat).length + (ueL (s.fb - 4).toNat).length + (ueL s.pt.toNat).length + (seL s.nr).length, false⟩ := by unfold u5; rw [a5.2, e4]
      have g5 := g4.right
      have a6 := ueS_lies (s := u5 f N) (x := s.cy.length) (by rw [e5]; exact g5.left) (by omega)
      have e6 : u6 f N = ⟨0 + (ueL (s.wide - 1).toNat).length + (ueL (s.high - 1).toNat).length + (ueL (s.fb - 4).toNat).length + (ueL s.pt.toNat).length + (seL s.nr).length + (ueL s.cy.length).length, false⟩ := by unfold u6; rw [a6.2, e5]
      have g6 := g5.right
      have a7 := cyS_lies (f := f) (N := N) (s := u6 f N) (l := s.cy) (by rw [e6]; exact g6.left) (fun x hx => by have := h8 x hx; omega)
      have g7 := g6.right
      rw [if_neg p0, if_pos p1, a6.1, if_neg (by omega), a5.1, show ((s.cy.length : Nat) : Int).toNat = s.cy.length from rfl, a7.1, a7.2, e6]
      rw [finSp_of (s := s) (by exact g7) rfl ok (by
        obtain ⟨wide, high, fb, pt, pb, nr, cy, refs, delay⟩ := s
        simp only at h10 p0 ⊢
        congr 1
        omega)]
      rw [hL]
      simp only [Nat.zero_add, Nat.add_assoc]
    · have hm : mid s = [] := by unfold mid; rw [if_neg p0, if_neg p1]
      rw [hm] at g4 hL
      rw [if_neg p0, if_neg p1]
      have hz : s.nr = 0 ∧ s.cy.length = 0 := by rcases h9 with q | q; · omega
                                                 · exact q
      have hc := List.eq_nil_of_length_eq_zero hz.2
      rw [finSp_of (s := s) (t := u4 f N) (by rw [e4]; exact g4) (by rw [e4]) ok (by
        obtain ⟨wide, high, fb, pt, pb, nr, cy, refs, delay⟩ := s
        simp only at hz hc h10 p0 ⊢
        rw [hz.1, hc]
        congr 1
        omega)]
      rw [e4, hL]
      simp only [Nat.zero_add, List.length_nil, Nat.add_zero]

theorem finSp_inv {y s : Sp} {t : St} (h : finSp f N y t = (s, 0)) :
    t.bad = false ∧ SpOk s ∧ { y with refs := s.refs, delay := s.delay } = s ∧ Lies f N t.a (ueL s.refs.toNat ++ ueL s.delay.toNat) ∧ (trailR f N (t.a + (ueL s.refs.toNat ++ ueL s.delay.toNat).length)).1 = 0 := by
  unfold finSp at h
  split at h
  · injection h with _ h; cases h
  · rename_i hn
    have hn1 : (ueS f N (ueS f N t)).bad = false := by
      cases hb : (ueS f N (ueS f N t)).bad
      · rfl
      · exact absurd (.inl hb) hn
    have hn2 : (trailR f N (ueS f N (ueS f N t)).a).1 = 0 := by
      rcases Nat.eq_zero_or_pos (trailR f N (ueS f N (ueS f N t)).a).1 with q | q
      · exact q
      · exact absurd (.inr (by omega)) hn
    split at h
    · rename_i hm
      injection h with h _
      subst h
      obtain ⟨b1, b2, b3, b4⟩ := ueS_inv hn1
      obtain ⟨c1, c2, c3, c4⟩ := ueS_inv b1
      rw [c3] at b2
      rw [b3, c3] at hn2
      refine ⟨c1, (maySp_iff _).1 hm, rfl, c2.append b2, ?_⟩
      rw [List.length_append, ← Nat.add_assoc]
      exact hn2
    · injection h with _ h; cases h

theorem getSp_inv {s : Sp} (h : getSp f N = (s, 0)) : SpOk s ∧ Lies f N 0 (spL s) ∧ (trailR f N (spL s).length).1 = 0 := by
  have hB : ∀ {y : Sp} {t : St}, finSp f N y t = (s, 0) → (u4 f N).bad = false → y.wide = ueX f N ⟨0, false⟩ + 1 → y.high = ueX f N (u1 f N) + 1 → y.fb = ueX f N (u2 f N) + 4 → y.pt = ueX f N (u3 f N) →
      Lies f N (u4 f N).a (mid s) → t.a = (u4 f N).a + (mid s).length → SpOk s ∧ Lies f N 0 (spL s) ∧ (trailR f N (spL s).length).1 = 0 := by
    intro y t hf hb y1 y2 y3 y4 hm ht
    obtain ⟨_, d2, d3, d4, d5⟩ := finSp_inv hf
    obtain ⟨b1, b2, b3, b4⟩ := ueS_inv (s := u3 f N) hb
    obtain ⟨c1, c2, c3, c4⟩ := ueS_inv (s := u2 f N) b1
    obtain ⟨e1, e2, e3, e4⟩ := ueS_inv (s := u1 f N) c1
    obtain ⟨g1, g2, g3, g4⟩ := ueS_inv (s := ⟨0, false⟩) e1
    have w1 : s.wide - 1 = ueX f N ⟨0, false⟩ := by rw [← d3]; show y.wide - 1 = _; omega
    have w2 : s.high - 1 = ueX f N (u1 f N) := by rw [← d3]; show y.high - 1 = _; omega
    have w3 : s.fb - 4 = ueX f N (u2 f N) := by rw [← d3]; show y.fb - 4 = _; omega
    have w4 : s.pt = ueX f N (u3 f N) := by rw [← d3]; exact y4
    have p1 : (u1 f N).a = 0 + (ueL (s.wide - 1).toNat).length := by rw [w1]; exact g3
    have p2 : (u2 f N).a = (u1 f N).a + (ueL (s.high - 1).toNat).length := by rw [w2]; exact e3
    have p3 : (u3 f N).a = (u2 f N).a + (ueL (s.fb - 4).toNat).length := by rw [w3]; exact c3
    have p4 : (u4 f N).a = (u3 f N).a + (ueL s.pt.toNat).length := by rw [w4]; exact b3
    rw [← w1] at g2
    rw [← w2] at e2
    rw [← w3] at c2
    rw [← w4] at b2
    have L : Lies f N 0 (spL s) := by
      unfold spL
      simp only [List.append_assoc]
      refine g2.append ?_
      show Lies f N (0 + _) _
      rw [← p1]
      refine e2.append ?_
      rw [← p2]
      refine c2.append ?_
      rw [← p3]
      refine b2.append ?_
      rw [← p4]
      refine hm.append ?_
      rw [← ht]
      exact d4
    refine ⟨d2, L, ?_⟩
    have hL : (spL s).length = t.a + (ueL s.refs.toNat ++ ueL s.delay.toNat).length := by
      unfold spL
      simp only [List.length_append]
      omega
    rw [hL]
    exact d5
  unfold getSp at h
  split at h
  · rename_i h0
    obtain ⟨d1, d2, d3, _⟩ := finSp_inv h
    obtain ⟨b1, b2, b3, b4⟩ := ueS_inv (s := u4 f N) d1
    have hm : mid s = ueL (ueX f N (u4 f N)).toNat := by
      have q0 : s.pt = 0 := by rw [← d3]; exact h0
      have q1 : s.pb - 4 = ueX f N (u4 f N) := by rw [← d3]; show ueX f N (u4 f N) + 4 - 4 = _; omega
      unfold mid
      rw [if_pos q0, q1]
    exact hB h b1 rfl rfl rfl rfl (by rw [hm]; exact b2) (by rw [hm]; exact b3)
  · rename_i h0
    split at h
    · rename_i h1
      split at h
      · injection h with _ h; cases h
      · rename_i h2
        obtain ⟨d1, d2, d3, _⟩ := finSp_inv h
        have hN : (u4 f N).a ≤ N ∧ (u6 f N).a ≤ N := by
          have g : Good f N ⟨0, false⟩ := ⟨Nat.zero_le _, fun q => by cases q⟩
          exact ⟨g.ue.ue.ue.ue.1, g.ue.ue.ue.ue.ue.ue.1⟩
        obtain ⟨a1, a2, a3⟩ := cyS_inv hN.2 _ d1
        obtain ⟨b1, b2, b3, b4⟩ := ueS_inv (s := u5 f N) a1
        obtain ⟨c1, c2, c3⟩ := seS_inv (s := u4 f N) b1
        have hm : mid s = seL (seX f N (u4 f N)) ++ ueL (ueX f N (u5 f N)).toNat ++ cyL (cyX f N (ueX f N (u5 f N)).toNat (u6 f N)) := by
          have q0 : s.pt = ueX f N (u3 f N) := by rw [← d3]; rfl
          have q1 : s.nr = seX f N (u4 f N) := by rw [← d3]
          have q2 : s.cy = cyX f N (ueX f N (u5 f N)).toNat (u6 f N) := by rw [← d3]
          unfold mid
          rw [if_neg (by omega), if_pos (by omega), q1, q2, cyX_len]
        have p5 : (u5 f N).a = (u4 f N).a + (seL (seX f N (u4 f N))).length := c3
        have p6 : (u6 f N).a = (u5 f N).a + (ueL (ueX f N (u5 f N)).toNat).length := b3
        refine hB h c1 rfl rfl rfl rfl ?_ ?_
        · rw [hm, List.append_assoc]
          refine c2.append ?_
          rw [← p5]
          refine b2.append ?_
          rw [← p6]
          exact a2
        · rw [a3, hm]
          simp only [List.length_append]
          omega
    · rename_i h1
      obtain ⟨d1, d2, d3, _⟩ := finSp_inv h
      have hm : mid s = [] := by
        have q0 : s.pt = ueX f N (u3 f N) := by rw [← d3]; rfl
        unfold mid
        rw [if_neg (by omega), if_neg (by omega)]
      have hN : (u4 f N).a ≤ N := by
        have g : Good f N ⟨0, false⟩ := ⟨Nat.zero_le _, fun q => by cases q⟩
        exact g.ue.ue.ue.ue.1
      exact hB h d1 rfl rfl rfl rfl (by rw [hm]; exact Lies.nil hN) (by rw [hm]; rfl)
end
end Go.Proofs.Ytegfglpaabddlaa
