/- Pictures' parameters, plainly; texts that end in a trail; parameters that are cut. No function of the program. -/
import Derived.Test.YtegfglpaabddlaaParQ
namespace Go.Proofs.Ytegfglpaabddlaa
set_option linter.unusedVariables false
set_option linter.unusedSimpArgs false

theorem dig_one (b : Bool) : dig b.toNat 1 = [b] := by cases b <;> decide
section
variable (f : Nat → Bool) (N : Nat)
def r1 : St := btS f N 1 ⟨0, false⟩
def r2 : St := btS f N 1 (r1 f N)
def r3 : St := btS f N 2 (r2 f N)
def r4 : St := ueS f N (r3 f N)
def r5 : St := ueS f N (r4 f N)
def r6 : St := btS f N 1 (r5 f N)
def r7 : St := btS f N 1 (r6 f N)
def r8 : St := ueS f N (r7 f N)
def r9 : St := ueS f N (r8 f N)
def rdPp : Pp := ⟨btX f N 1 ⟨0, false⟩ == 1, btX f N 1 (r1 f N) == 1, btX f N 2 (r2 f N), ueX f N (r3 f N), seX f N (r4 f N), btX f N 1 (r5 f N) == 1, btX f N 1 (r6 f N) == 1, ueX f N (r7 f N) + 1, ueX f N (r8 f N) + 1⟩
def getPp : Pp × Int :=
  if (r9 f N).bad = true ∨ (trailR f N (r9 f N).a).1 ≠ 0 then (.zero, 300) else if mayPp (rdPp f N) = true then (rdPp f N, 0) else (.zero, 301)
variable {f N}
theorem flag_lies {s : St} {b : Bool} (h : Lies f N s.a [b]) : (btX f N 1 s == 1) = b ∧ btS f N 1 s = ⟨s.a + [b].length, s.bad⟩ := by
  rw [← dig_one] at h
  have := btS_lies h (by omega) (by cases b <;> decide)
  rw [dig_one] at this
  refine ⟨?_, this.2⟩
  have e : btX f N 1 s = ((b.toNat : Nat) : Int) := this.1
  rw [e]
  cases b <;> rfl
theorem flag_inv {s : St} (h : (btS f N 1 s).bad = false) : s.bad = false ∧ Lies f N s.a [btX f N 1 s == 1] ∧ (btS f N 1 s).a = s.a + 1 := by
  obtain ⟨h1, h2, h3, h4, h5⟩ := btS_inv (k := 1) (by omega) h
  refine ⟨h1, ?_, h5⟩
  have e : [btX f N 1 s == 1] = dig (btX f N 1 s).toNat 1 := by
    have h4' : btX f N 1 s = 0 ∨ btX f N 1 s = 1 := by
      have a : 0 ≤ btX f N 1 s := h2
      have b : btX f N 1 s < 2 ^ 1 := h3
      omega
    rcases h4' with q | q <;> rw [q] <;> decide
  rw [e]
  exact h4
theorem getPp_lies {p : Pp} (h : Lies f N 0 (ppL p)) (ok : PpOk p) : getPp f N = if (trailR f N (ppL p).length).1 ≠ 0 then (.zero, 300) else (p, 0) := by
  obtain ⟨h1, h2, h3, h4, h5⟩ := id ok
  unfold ppL at h
  have hL : (ppL p).length = [p.cabac].length + [p.weighted].length + (dig p.bipred.toNat 2).length + (ueL p.qp.toNat).length + (seL p.cqp).length + [p.con].length + [p.deb].length + (ueL (p.a0 - 1).toNat).length + (ueL (p.a1 - 1).toNat).length := by
    unfold ppL
    simp only [List.length_append]
  simp only [List.append_assoc] at h
  have a1 := flag_lies (s := ⟨0, false⟩) (b := p.cabac) h.left
  have e1 : r1 f N = ⟨0 + [p.cabac].length, false⟩ := a1.2
  have g1 := h.right
  have a2 := flag_lies (s := r1 f N) (b := p.weighted) (by rw [e1]; exact g1.left)
  have e2 : r2 f N = ⟨0 + [p.cabac].length + [p.weighted].length, false⟩ := by unfold r2; rw [a2.2, e1]
  have g2 := g1.right
  have a3 := btS_lies (s := r2 f N) (x := p.bipred.toNat) (k := 2) (by rw [e2]; exact g2.left) (by omega) (by omega)
  have e3 : r3 f N = ⟨0 + [p.cabac].length + [p.weighted].length + (dig p.bipred.toNat 2).length, false⟩ := by
    unfold r3
    have := a3.2
    rw [e2] at this ⊢
    exact this
  have g3 := g2.right
  have a4 := ueS_lies' (s := r3 f N) (x := p.qp) (by rw [e3]; exact g3.left) (by omega) (by omega)
  have e4 : r4 f N = ⟨0 + [p.cabac].length + [p.weighted].length + (dig p.bipred.toNat 2).length + (ueL p.qp.toNat).length, false⟩ := by unfold r4; rw [a4.2, e3]
  have g4 := g3.right
  have a5 := seS_lies (s := r4 f N) (x := p.cqp) (by rw [e4]; exact g4.left) (by omega) (by omega)
  have e5 : r5 f N = ⟨0 + [p.cabac].length + [p.weighted].length + (dig p.bipred.toNat 2).length + (ueL p.qp.toNat).length + (seL p.cqp).length, false⟩ := by unfold r5; rw [a5.2, e4]
  have g5 := g4.right
  have a6 := flag_lies (s := r5 f N) (b := p.con) (by rw [e5]; exact g5.left)
  have e6 : r6 f N = ⟨0 + [p.cabac].length + [p.weighted].length + (dig p.bipred.toNat 2).length + (ueL p.qp.toNat).length + (seL p.cqp).length + [p.con].length, false⟩ := by unfold r6; rw [a6.2, e5]
  have g6 := g5.right
  have a7 := flag_lies (s := r6 f N) (b := p.deb) (by rw [e6]; exact g6.left)
  have e7 : r7 f N = ⟨0 + [p.cabac].length + [p.weighted].length + (dig p.bipred.toNat 2).length + (ueL p.qp.toNat).length + (seL p.cqp).length + [p.con].length + [p.deb].length, false⟩ := by unfold r7; rw [a7.2, e6]
  have g7 := g6.right
  have a8 := ueS_lies' (s := r7 f N) (x := p.a0 - 1) (by rw [e7]; exact g7.left) (by omega) (by omega)
  have e8 : r8 f N = ⟨0 + [p.cabac].length + [p.weighted].length + (dig p.bipred.toNat 2).length + (ueL p.qp.toNat).length + (seL p.cqp).length + [p.con].length + [p.deb].length + (ueL (p.a0 - 1).toNat).length, false⟩ := by unfold r8; rw [a8.2, e7]
  have g8 := g7.right
  have a9 := ueS_lies' (s := r8 f N) (x := p.a1 - 1) (by rw [e8]; exact g8) (by omega) (by omega)
  have e9 : r9 f N = ⟨(ppL p).length, false⟩ := by unfold r9; rw [a9.2, e8, hL, Nat.zero_add]
  have hv : rdPp f N = p := by
    unfold rdPp
    have a3' : btX f N 2 (r2 f N) = p.bipred := a3.1.trans (by omega)
    rw [a1.1, a2.1, a3', a4.1, a5.1, a6.1, a7.1, a8.1, a9.1]
    obtain ⟨c, w, b, q, cq, co, de, x0, x1⟩ := p
    simp
  unfold getPp
  rw [hv, e9, (mayPp_iff p).2 ok]
  simp only [Bool.false_eq_true, false_or, if_true]
theorem getPp_inv {p : Pp} (h : getPp f N = (p, 0)) : PpOk p ∧ Lies f N 0 (ppL p) ∧ (trailR f N (ppL p).length).1 = 0 := by
  unfold getPp at h
  split at h
  · injection h with _ h; cases h
  · rename_i hn
    split at h
    · rename_i hm
      injection h with h _
      have ok := (mayPp_iff _).1 hm
      have hn1 : (r9 f N).bad = false := by
        cases hb : (r9 f N).bad
        · rfl
        · exact absurd (.inl hb) hn
      have hn2 : (trailR f N (r9 f N).a).1 = 0 := by
        rcases Nat.eq_zero_or_pos (trailR f N (r9 f N).a).1 with q | q
        · exact q
        · exact absurd (.inr (by omega)) hn
      obtain ⟨b9, c9, d9, _⟩ := ueS_inv (s := r8 f N) hn1
      obtain ⟨b8, c8, d8, _⟩ := ueS_inv (s := r7 f N) b9
      obtain ⟨b7, c7, d7⟩ := flag_inv (s := r6 f N) b8
      obtain ⟨b6, c6, d6⟩ := flag_inv (s := r5 f N) b7
      obtain ⟨b5, c5, d5⟩ := seS_inv (s := r4 f N) b6
      obtain ⟨b4, c4, d4, _⟩ := ueS_inv (s := r3 f N) b5
      obtain ⟨b3, _, _, c3, d3⟩ := btS_inv (s := r2 f N) (k := 2) (by omega) b4
      obtain ⟨b2, c2, d2⟩ := flag_inv (s := r1 f N) b3
      obtain ⟨b1, c1, d1⟩ := flag_inv (s := ⟨0, false⟩) b2
      have w0 : (rdPp f N).a0 - 1 = ueX f N (r7 f N) := by show ueX f N (r7 f N) + 1 - 1 = _; omega
      have w1 : (rdPp f N).a1 - 1 = ueX f N (r8 f N) := by show ueX f N (r8 f N) + 1 - 1 = _; omega
      have p1 : (r1 f N).a = 0 + [(rdPp f N).cabac].length := d1
      have p2 : (r2 f N).a = (r1 f N).a + [(rdPp f N).weighted].length := d2
      have p3 : (r3 f N).a = (r2 f N).a + (dig (rdPp f N).bipred.toNat 2).length := by rw [dig_len]; exact d3
      have p4 : (r4 f N).a = (r3 f N).a + (ueL (rdPp f N).qp.toNat).length := d4
      have p5 : (r5 f N).a = (r4 f N).a + (seL (rdPp f N).cqp).length := d5
      have p6 : (r6 f N).a = (r5 f N).a + [(rdPp f N).con].length := d6
      have p7 : (r7 f N).a = (r6 f N).a + [(rdPp f N).deb].length := d7
      have p8 : (r8 f N).a = (r7 f N).a + (ueL ((rdPp f N).a0 - 1).toNat).length := by rw [w0]; exact d8
      have p9 : (r9 f N).a = (r8 f N).a + (ueL ((rdPp f N).a1 - 1).toNat).length := by rw [w1]; exact d9
      rw [← w0] at c8
      rw [← w1] at c9
      have L : Lies f N 0 (ppL (rdPp f N)) := by
        unfold ppL
        simp only [List.append_assoc]
        refine Lies.append c1 ?_
        show Lies f N (0 + _) _
        rw [← p1]
        refine Lies.append c2 ?_
        rw [← p2]
        refine Lies.append c3 ?_
        rw [← p3]
        refine Lies.append c4 ?_
        rw [← p4]
        refine Lies.append c5 ?_
        rw [← p5]
        refine Lies.append c6 ?_
        rw [← p6]
        refine Lies.append c7 ?_
        rw [← p7]
        refine Lies.append c8 ?_
        rw [← p8]
        exact c9
      have hL : (ppL (rdPp f N)).length = (r9 f N).a := by
        unfold ppL
        simp only [List.length_append]
        omega
      subst h
      exact ⟨ok, L, by rw [hL]; exact hn2⟩
    · injection h with _ h; cases h
end

/-- texts -/
theorem text_ext {s t : ByteArray} (hs : s.size = t.size) (h : ∀ a, a < 8 * s.size → sbit s a = sbit t a) : s = t := by
  have hb : ∀ i, i < s.size → gS s i = gS t i := by
    intro i hi
    apply Nat.eq_of_testBit_eq
    intro j
    by_cases hj : j < 8
    · have := h (8 * i + (7 - j)) (by omega)
      unfold sbit bitOf at this
      rw [show (8 * i + (7 - j)) / 8 = i by omega, show 7 - (8 * i + (7 - j)) % 8 = j by omega] at this
      exact this
    · rw [Nat.testBit_lt_two_pow, Nat.testBit_lt_two_pow]
      · exact Nat.lt_of_lt_of_le (gS_lt t i) (Nat.pow_le_pow_right (n := 2) (by omega) (show 8 ≤ j by omega))
      · exact Nat.lt_of_lt_of_le (gS_lt s i) (Nat.pow_le_pow_right (n := 2) (by omega) (show 8 ≤ j by omega))
  obtain ⟨ds⟩ := s
  obtain ⟨dt⟩ := t
  congr 1
  apply Array.ext
  · exact hs
  · intro i h1 h2
    have := hb i h1
    unfold gS at this
    simp only [Array.getD_eq_getD_getElem?, Array.getElem?_eq_getElem h1, Array.getElem?_eq_getElem h2, Option.getD_some] at this
    exact UInt8.toNat_inj.1 this
theorem trailR_zero {f : Nat → Bool} {N a : Nat} (h : (trailR f N a).1 = 0) : lastI f N = a ∧ N ≤ a + 8 := by
  unfold trailR at h
  split at h
  · assumption
  · cases h
theorem text_trail {t : ByteArray} {l : List Bool} (h : Lies (sbit t) (8 * t.size) 0 l) (ht : (trailR (sbit t) (8 * t.size) l.length).1 = 0) : packS (trL l) = t ∧ t.size = l.length / 8 + 1 := by
  obtain ⟨h1, h2⟩ := trailR_zero ht
  obtain ⟨h3, h4, h5⟩ := (lastI_at _ _ _).1 h1
  have hsz : t.size = l.length / 8 + 1 := by omega
  refine ⟨text_ext ?_ fun a ha => ?_, hsz⟩
  · rw [packS_size, trL_len]; omega
  · rw [packS_size, trL_len] at ha
    rw [sbit_pack]
    unfold trL
    by_cases hl : a < l.length
    · have := h.2 a hl
      rw [Nat.zero_add] at this
      rw [this, List.getD_eq_getElem?_getD, List.getElem?_append_left hl, ← List.getD_eq_getElem?_getD]
    · rw [List.getD_eq_getElem?_getD, List.getElem?_append_right (by omega)]
      by_cases he : a = l.length
      · subst he
        rw [Nat.sub_self, h4]
        rfl
      · obtain ⟨j, hj⟩ : ∃ j, a - l.length = j + 1 := ⟨a - l.length - 1, by omega⟩
        rw [hj, List.getElem?_cons_succ, List.getElem?_replicate, h5 a (by omega) (by omega)]
        split <;> rfl
/-- what was written is read -/
theorem sp_back (s : Sp) (ok : SpOk s) : getSp (sbit (packS (trL (spL s)))) (8 * (packS (trL (spL s))).size) = (s, 0) := by
  have h := getSp_lies (Lies.trail (spL s)) ok
  rw [(trail_facts (spL s)).2.2.2.1] at h
  simpa using h
theorem pp_back (p : Pp) (ok : PpOk p) : getPp (sbit (packS (trL (ppL p)))) (8 * (packS (trL (ppL p))).size) = (p, 0) := by
  have h := getPp_lies (Lies.trail (ppL p)) ok
  rw [(trail_facts (ppL p)).2.2.2.1] at h
  simpa using h
theorem sp_stands {t : ByteArray} {s : Sp} (h : getSp (sbit t) (8 * t.size) = (s, 0)) : SpOk s ∧ putSpS s = t ∧ putSpE s = 0 := by
  obtain ⟨ok, hl, ht⟩ := getSp_inv h
  unfold putSpS putSpE
  rw [if_pos ((maySp_iff s).2 ok), if_pos ((maySp_iff s).2 ok)]
  exact ⟨ok, (text_trail hl ht).1, rfl⟩
theorem pp_stands {t : ByteArray} {p : Pp} (h : getPp (sbit t) (8 * t.size) = (p, 0)) : PpOk p ∧ putPpS p = t ∧ putPpE p = 0 := by
  obtain ⟨ok, hl, ht⟩ := getPp_inv h
  unfold putPpS putPpE
  rw [if_pos ((mayPp_iff p).2 ok), if_pos ((mayPp_iff p).2 ok)]
  exact ⟨ok, (text_trail hl ht).1, rfl⟩
theorem Lies.of_text {t u : ByteArray} {l : List Bool} (h : Lies (sbit t) (8 * t.size) 0 l) (hl : l.length ≤ 8 * u.size) (hu : ∀ a, a < 8 * t.size → a < 8 * u.size → sbit t a = sbit u a) : Lies (sbit u) (8 * u.size) 0 l :=
  ⟨by omega, fun i hi => by have := h.1; rw [← h.2 i hi, Nat.zero_add, hu i (by omega) (by omega)]⟩
/-- cut, or with more behind: none -/
theorem sp_tails {s : Sp} (ok : SpOk s) {t u : ByteArray} (ht : t = packS (trL (spL s))) (hne : u.size ≠ t.size) (hu : ∀ a, a < 8 * t.size → a < 8 * u.size → sbit t a = sbit u a) : (getSp (sbit u) (8 * u.size)).2 ≠ 0 := by
  intro h0
  obtain ⟨s', hs⟩ : ∃ s', s' = (getSp (sbit u) (8 * u.size)).1 := ⟨_, rfl⟩
  have hg : getSp (sbit u) (8 * u.size) = (s', 0) := by rw [hs, ← h0]
  obtain ⟨ok', hl', ht'⟩ := getSp_inv hg
  have hsz' := (text_trail hl' ht').2
  have hf := trail_facts (spL s)
  rw [← ht] at hf
  have hlt : Lies (sbit t) (8 * t.size) 0 (spL s) := by rw [ht]; exact Lies.trail (spL s)
  have hbt : getSp (sbit t) (8 * t.size) = (s, 0) := by rw [ht]; exact sp_back s ok
  by_cases hc : u.size < t.size
  · have h1 := getSp_lies (hl'.of_text (u := t) (by have := hl'.1; omega) fun a h1 h2 => (hu a h2 h1).symm) ok'
    rw [hbt] at h1
    split at h1
    · injection h1 with _ h1; cases h1
    · injection h1 with h1 _
      rw [← h1] at hsz'
      omega
  · have h1 := getSp_lies (hlt.of_text (u := u) (by have := hlt.1; omega) hu) ok
    rw [hg] at h1
    split at h1
    · injection h1 with _ h1; cases h1
    · injection h1 with h1 _
      rw [h1] at hsz'
      omega
theorem pp_tails {p : Pp} (ok : PpOk p) {t u : ByteArray} (ht : t = packS (trL (ppL p))) (hne : u.size ≠ t.size) (hu : ∀ a, a < 8 * t.size → a < 8 * u.size → sbit t a = sbit u a) : (getPp (sbit u) (8 * u.size)).2 ≠ 0 := by
  intro h0
  obtain ⟨s', hs⟩ : ∃ s', s' = (getPp (sbit u) (8 * u.size)).1 := ⟨_, rfl⟩
  have hg : getPp (sbit u) (8 * u.size) = (s', 0) := by rw [hs, ← h0]
  obtain ⟨ok', hl', ht'⟩ := getPp_inv hg
  have hsz' := (text_trail hl' ht').2
  have hf := trail_facts (ppL p)
  rw [← ht] at hf
  have hlt : Lies (sbit t) (8 * t.size) 0 (ppL p) := by rw [ht]; exact Lies.trail (ppL p)
  have hbt : getPp (sbit t) (8 * t.size) = (p, 0) := by rw [ht]; exact pp_back p ok
  by_cases hc : u.size < t.size
  · have h1 := getPp_lies (hl'.of_text (u := t) (by have := hl'.1; omega) fun a h1 h2 => (hu a h2 h1).symm) ok'
    rw [hbt] at h1
    split at h1
    · injection h1 with _ h1; cases h1
    · injection h1 with h1 _
      rw [← h1] at hsz'
      omega
  · have h1 := getPp_lies (hlt.of_text (u := u) (by have := hlt.1; omega) hu) ok
    rw [hg] at h1
    split at h1
    · injection h1 with _ h1; cases h1
    · injection h1 with h1 _
      rw [h1] at hsz'
      omega
end Go.Proofs.Ytegfglpaabddlaa
