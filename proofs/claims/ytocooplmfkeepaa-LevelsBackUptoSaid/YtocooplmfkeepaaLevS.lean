/- Blocks of coefficients: Writers and Readers that a call made; awake. -/
import Derived.Test.YtocooplmfkeepaaLevB
import Derived.Test.YtocooplmfkeepaaLevH
import Derived.Test.YtocooplmfkeepaaLevR
namespace Go.Proofs.Ytocooplmfkeepaa
open Go.RowKit
set_option linter.unusedVariables false
set_option linter.unusedSimpArgs false

theorem lvL_len (z : Nat → Int) (o : Nat) : ∀ (l : List Nat) (i : Nat), (∀ p ∈ l, -32767 ≤ z p ∧ z p ≤ 32767) → (lvL z o i l).length ≤ 61 * l.length
  | [], i, _ => by simp [lvL]
  | p :: r, i, h => by
    have h1 := oneL_le o i (z p) (h p (List.mem_cons_self ..))
    have h2 := lvL_len z o r (i + 1) (fun q hq => h q (List.mem_cons_of_mem _ hq))
    show (oneL o i (z p) ++ lvL z o (i + 1) r).length ≤ _
    rw [List.length_append, List.length_cons]
    omega
theorem rnL_len : ∀ (l : List Nat) (x : Nat), (∀ p ∈ l, p ≤ 100) → (rnL x l).length ≤ 61 * l.length
  | [], x, _ => by simp [rnL]
  | [p], x, _ => by simp [rnL]
  | p :: q :: r, x, h => by
    have h1 := h p (List.mem_cons_self ..)
    have h2 := rnL_len (q :: r) (x - (p - q - 1)) (fun y hy => h y (List.mem_cons_of_mem _ hy))
    rw [rnL_cons]
    split
    · have := teL_le (x := p - q - 1) (m := x) (by omega)
      simp only [List.length_append, List.length_cons] at h2 ⊢
      omega
    · simp
theorem lvB_len (z : Nat → Int) (k : Nat) : (lvB z k).length ≤ 2200 := by
  by_cases hs : sizeOk k = true
  · by_cases hz : lvOk z k = true
    · rw [(lvE_yes hs hz).2]
      have hk := sizeOk_le hs
      have hl := atL_len z k
      have hm := atL_mem z k
      have hzr := (lvOk_iff z k).1 hz
      have h1 := lvL_len z (lvOnes z (atL z k)) (atL z k) 0 (fun p hp => hzr p ((hm p).1 hp).1)
      have h2 := rnL_len (atL z k) (lvLeft (atL z k)) (fun p hp => by have := ((hm p).1 hp).1; omega)
      have h3 := teL_le (x := (atL z k).length) (m := k) (by omega)
      have ho : lvOnes z (atL z k) ≤ 3 := by have := onesN_le z (min 3 (atL z k).length) (atL z k); unfold lvOnes; omega
      have h4 := teL_le (x := lvOnes z (atL z k)) (m := min 3 (atL z k).length) (by omega)
      have hq : lvLeft (atL z k) ≤ 17 := by
        unfold lvLeft
        rcases Nat.eq_zero_or_pos (atL z k).length with h | h
        · rw [List.eq_nil_of_length_eq_zero h]; simp
        · have := atL_get z k 0 h; omega
      have h5 : (teZ (lvLeft (atL z k)) (k - (atL z k).length)).length ≤ 61 := by
        unfold teZ
        split
        · simp
        · exact teL_le (by omega)
      unfold lvPut
      rw [List.length_append]
      split
      · simp; omega
      · simp only [List.length_append]; omega
    · rw [(lvE_far hs hz).2]; simp
  · rw [(lvE_no hs).2]; simp
theorem Lies.packed (b : List Bool) : Lies (sbit (packS b)) (8 * (packS b).size) 0 b := by
  refine ⟨by rw [packS_size]; omega, fun i hi => ?_⟩
  rw [Nat.zero_add, sbit_pack]
theorem Far.of_ar {w : World} {S : Nat → Prop} {O n : Nat} {z : Nat → Int} (h : Ar w O n fun k => .int .i64 (z k)) (hS : ¬ S O) : Far w S (some ⟨O, 0, none⟩) n z := fun _ =>
  ⟨_, rfl, h.2.2, hS, fun k hk => by rw [add_new]; exact h.1 k hk⟩
theorem Ar.lit (w : World) (xs : List Int) : Ar (w.alloc (.cells (intV xs).toArray 3)) w.heap.size xs.length fun k => .int .i64 (xs.getD k 0) := by
  have hb := Bk.new w 3 (intV xs).toArray
  refine ⟨fun k hk => ?_, fun o => hb.frozen o, by simp⟩
  rw [hb.cell k]
  unfold intV
  rw [List.getElem?_toArray, List.getElem?_map, List.getElem?_eq_getElem hk]
  show some (Value.int .i64 xs[k]) = some (Value.int .i64 (xs.getD k 0))
  rw [List.getD_eq_getElem?_getD, List.getElem?_eq_getElem hk]
  rfl
theorem st_lput {w0 w1 : World} {g : Nat} {v : Value} {b : List Bool} {M : Nat} (H : WStep w0 w1 g v b M) (hM : M ≤ 900000) {A : Option Addr} {k cp : Nat} {z : Nat → Int} (hz : Far w1 (WS g v) A k z) :
    Calls Try.prog 12 #[.pointer (some ⟨g, 0, none⟩), .slice A k cp] w1 fun e w' => e = .returned (.int .i64 (lvE z k)) ∧ (∃ v', WStep w0 w' g v' (b ++ lvB z k) (M + 2200)) ∧ ∀ A' n' z', Far w1 (WS g v) A' n' z' → ∃ v', WStep w0 w' g v' (b ++ lvB z k) (M + 2200) ∧ Far w' (WS g v') A' n' z' := by
  have hl := H.2.2.2
  have hB := lvB_len z k
  refine (lput_any w0.heap.size g v b A k cp z w1 H.1 (by omega) H.size hz).mono fun e w' q => ⟨q.1, H.put q.2 (by rw [List.length_append]; omega), fun A' n' z' hf => ?_⟩
  obtain ⟨v', hw, ht, hn⟩ := q.2
  obtain ⟨v2, h2⟩ := H.put (M' := M + 2200) ⟨v', hw, ht, hn⟩ (by rw [List.length_append]; omega)
  refine ⟨v', ⟨hw, h2.2.1, h2.2.2.1, h2.2.2.2⟩, fun hn' => ?_⟩
  obtain ⟨ad, e1, l1, l2, l3⟩ := hf hn'
  exact ⟨ad, e1, Nat.lt_of_lt_of_le l1 ht.size, fun q => l2 (ws_new hn l1 q), fun k hk => (ht.cell (by rw [block_add]; exact l1) (by rw [block_add]; exact l2)).trans (l3 k hk)⟩
theorem st_lget {w0 w1 : World} {g : Nat} {s : ByteArray} {a : Nat} (H : RStep w0 w1 g s a) (hs : s.size ≤ 140737488351232) (ha : a ≤ 8 * s.size) (x : Int) :
    Calls Try.prog 25 #[.pointer (some ⟨g, 0, none⟩), .int .i64 x] w1 fun e w' =>
      (∃ (k : Nat) (z : Nat → Int) (b : Nat), x = k ∧ sizeOk k = true ∧ getB (sbit s) (8 * s.size) k a = .ok (z, b) ∧ b ≤ 8 * s.size ∧ (∃ O, e = .returned (.tuple #[.slice (some ⟨O, 0, none⟩) k k, .int .i64 0]) ∧ w1.heap.size ≤ O ∧ Ar w' O k (fun j => .int .i64 (z j))) ∧ RStep w0 w' g s b) ∨
      (∃ c : Int, e = .returned (.tuple #[.slice none 0 0, .int .i64 c]) ∧ RStep w0 w' g s a ∧ ((sizeI x = false ∧ c = 700) ∨ ∃ k : Nat, x = k ∧ sizeOk k = true ∧ getB (sbit s) (8 * s.size) k a = .error c)) := by
  by_cases hx : sizeI x = true
  · obtain ⟨k, rfl⟩ : ∃ k : Nat, x = k := by
      unfold sizeI at hx
      simp only [Bool.or_eq_true, beq_iff_eq] at hx
      exact ⟨x.toNat, by omega⟩
    rw [sizeI_nat] at hx
    refine (lget_any g s a k w1 H.1 hs ha hx).mono fun e w' q => ?_
    rcases hr : getB (sbit s) (8 * s.size) k a with c | ⟨z, b⟩
    · rw [hr] at q
      obtain ⟨h1, h2⟩ := q
      exact .inr ⟨c, h1, H.then h2, .inr ⟨k, rfl, hx, hr⟩⟩
    · rw [hr] at q
      obtain ⟨O, h1, h2, h3, h4, h5⟩ := q
      exact .inl ⟨k, z, b, rfl, hx, hr, h4, ⟨O, h1, h2, h3⟩, H.then h5⟩
  · have hx' : sizeI x = false := by simpa using hx
    exact (lget_no g s a x w1 H.1 hx').mono fun e w' q => .inr ⟨700, q.1, H.then q.2, .inl ⟨hx', rfl⟩⟩
set_option maxRecDepth 100000 in
theorem lput_nil (v : Value) (w : World) : Calls Try.prog 12 #[.pointer none, v] w fun e w' => e = .returned (.int .i64 1) ∧ w = w' := by
  go_enter Try.func12, Try.ntmps12
  go_wp2_with fail
  go_ret
  exact ⟨rfl, rfl⟩

def az (k : Nat) : Int := ([5, 0, -1, 1] : List Int).getD k 0
theorem az_facts : lvE az 4 = 0 ∧ sizeOk 4 = true ∧ lvOk az 4 = true ∧ lvB az 4 = lvPut az 4 := by decide +kernel
theorem az_size : (packS ([] ++ lvB az 4)).size ≤ 300 := by
  rw [packS_size]
  have := lvB_len az 4
  rw [List.nil_append]
  omega
theorem az_back : ∃ z', getB (sbit (packS ([] ++ lvB az 4))) (8 * (packS ([] ++ lvB az 4)).size) 4 0 = .ok (z', 0 + (lvPut az 4).length) ∧ ∀ i, i < 4 → z' i = az i := by
  have h := Lies.packed ([] ++ lvB az 4)
  rw [List.nil_append] at h ⊢
  have h2 : Lies (sbit (packS (lvB az 4))) (8 * (packS (lvB az 4)).size) 0 (lvPut az 4) := az_facts.2.2.2 ▸ h
  exact getB_of az_facts.2.1 az_facts.2.2.1 h2

set_option maxRecDepth 100000 in
set_option maxHeartbeats 3200000 in
theorem awake_any (w : World) : Calls Try.prog 20 #[] w fun e w' => e = .returned (.bool true) ∧ Below w.heap.size w w' := by
  go_enter Try.func20, Try.ntmps20
  go_wp2_with fail
  refine (st_new _).mono ?_
  rintro e w1 ⟨rfl, hw⟩
  have hwa := hw.go ((Below.refl w1.heap.size w1).alloc (Nat.le_refl _) (.cells (intV [5, 0, -1, 1]).toArray 3))
  have hfa : Far _ (WS w.heap.size (.slice none 0 0)) (some ⟨w1.heap.size, 0, none⟩) 4 az := Far.of_ar (Ar.lit w1 [5, 0, -1, 1]) (by have := hw.2.2.1.size; intro q; have := hw.1.old q; omega)
  have HW := Lib.hid hwa
  have HF := Lib.hid hfa
  clear hw hwa hfa
  go_wp2_with fail
  refine (st_lput HW.out (by omega) HF.out).mono ?_
  rintro e w2 ⟨rfl, ⟨v, hw⟩, _⟩
  rw [az_facts.1]
  have HW := Lib.hid hw
  clear hw HF
  go_wp2_with fail
  refine (st_bytes HW.out rfl).mono ?_
  rintro e w' ⟨rfl, rfl⟩
  have hab := az_back
  have has := az_size
  generalize packS ([] ++ lvB az 4) = S at hab has ⊢
  obtain ⟨z', hab, hzz⟩ := hab
  have HAB := Lib.hid hab
  have HZZ := Lib.hid hzz
  clear hab hzz
  go_wp2_with fail
  refine (st_open S _).mono ?_
  rintro e w3 ⟨rfl, hr⟩
  have HR := Lib.hid hr
  clear hr
  go_wp2_with fail
  refine (st_lget HR.out (by omega) (Nat.zero_le _) 4).mono ?_
  rintro e w4 hg
  rcases hg with ⟨k, z, b, hk, hks, hgb, hb, ⟨O, rfl, hO, har⟩, hr⟩ | ⟨c, _, _, hbad⟩
  · obtain rfl : k = 4 := by omega
    rw [HAB.out] at hgb
    injection hgb with hgb
    injection hgb with hz _
    subst hz
    have hw4 := HW.out.go hr.2.2
    have hsz4 := HR.out.2.2.size
    have hnot : ¬ WS w.heap.size v O := fun q => by have := HW.out.1.old q; omega
    have hbl := (Below.refl w4.heap.size w4).alloc (Nat.le_refl _) (.cells (intV [1]).toArray 3)
    have hfO := (Far.of_ar har hnot).go hbl
    have hw4a := hw4.go hbl
    have hf1 : Far _ (WS w.heap.size v) (some ⟨w4.heap.size, 0, none⟩) 1 (fun k => ([1] : List Int).getD k 0) := Far.of_ar (Ar.lit w4 [1]) (fun q => by have := hw4.1.old q; omega)
    have HWA := Lib.hid hw4a
    have HF1 := Lib.hid hf1
    have HFO := Lib.hid hfO
    clear hw4 hnot hbl hfO hw4a hf1 har hr HW HR hsz4 hO hb
    go_wp2_with fail
    refine (st_lput HWA.out (by omega) HF1.out).mono ?_
    rintro e w5 ⟨rfl, _, hkeep⟩
    obtain ⟨v2, hw5, hf5⟩ := hkeep _ _ _ HFO.out
    rw [(lvE_no (z := fun k => ([1] : List Int).getD k 0) (k := 1) (by decide)).1]
    have HB5 := Lib.hid hw5.2.2.1
    have HF5 := Lib.hid hf5
    have hz5 := hw5.size
    clear hw5 hf5 hkeep HWA HF1 HFO
    go_wp2_with fail
    refine (lput_nil _ _).mono ?_
    rintro e w' ⟨rfl, rfl⟩
    have hbl : Below w5.heap.size w5 ((w5.alloc (.cells (intV [1, 0, 0, 0]).toArray 3)).alloc (.cells (intV [5, 0, -1, 1]).toArray 3)) := ((Below.refl _ _).alloc (Nat.le_refl _) _).alloc (by simp) _
    have hfin := (HF5.out.go hbl).ri
    have hlit := (Ar.lit (w5.alloc (.cells (intV [1, 0, 0, 0]).toArray 3)) [5, 0, -1, 1]).rd
    have hsame := fun c d => same_yes (some ⟨O, 0, none⟩) (some ⟨(w5.alloc (.cells (intV [1, 0, 0, 0]).toArray 3)).heap.size, 0, none⟩) 4 c d z' az _ hfin hlit (by omega) HZZ.out
    rw [World.size_alloc] at hsame
    have hend := HB5.out.trans (hbl.mono hz5)
    have HSAME := Lib.hid hsame
    have HEND := Lib.hid hend
    clear hbl hfin hlit hsame hend
    go_wp2_with (first | (go_at_call 15; refine (num_any _ _).mono ?_; rintro e w' ⟨rfl, rfl⟩) | (go_at_call 27; refine (HSAME.out _ _).mono ?_; rintro e w6 ⟨rfl, hb6⟩))
    go_ret
    exact ⟨rfl, HEND.out.trans (hb6.mono HEND.out.size)⟩
  · exfalso
    rcases hbad with ⟨h1, _⟩ | ⟨k, hk, _, he⟩
    · cases h1
    · obtain rfl : k = 4 := by omega
      rw [HAB.out] at he
      cases he
end Go.Proofs.Ytocooplmfkeepaa
