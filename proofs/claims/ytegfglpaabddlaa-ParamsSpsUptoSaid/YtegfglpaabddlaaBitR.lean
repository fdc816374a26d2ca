/- The document's bits: Digits, Ue, Se, Te, Trail, Pack. -/
import Derived.Test.YtegfglpaabddlaaBitX
import Derived.Test.YtegfglpaabddlaaMake
namespace Go.Proofs.Ytegfglpaabddlaa
open Go.RowKit
set_option linter.unusedVariables false
set_option linter.unusedSimpArgs false

/-- bits as the document's bytes -/
def bu (x : Bool) : Int := ((x.toNat : Nat) : Int)
theorem bu_bd (x : Bool) : 0 ≤ bu x ∧ bu x ≤ 1 := by cases x <;> decide
def bitsV (b : List Bool) : List Value := b.map fun x => .int .u8 (bu x)
theorem bitsV_len (b : List Bool) : (bitsV b).length = b.length := by simp [bitsV]
theorem bitsV_append (a b : List Bool) : bitsV (a ++ b) = bitsV a ++ bitsV b := by simp [bitsV]
theorem bitsV_range (b : List Bool) : bitsV b = (List.range b.length).map fun k => .int .u8 (bu (b.getD k false)) := by
  apply List.ext_getElem
  · simp [bitsV]
  · intro i h1 h2
    have hi : i < b.length := by simpa [bitsV] using h1
    simp [bitsV, List.getD_eq_getElem?_getD, hi]
/-- what such a call answers: a new row of bits -/
def BRow (w : World) (b : List Bool) (e : Ending) (w' : World) : Prop := ∃ v, e = .returned v ∧ w'.ownsRow w.heap.size 5 1 v b.length (bitsV b) ∧ Below w.heap.size w w'
theorem Rd.bits {w : World} {base : Nat} {v : Value} {b : List Bool} (h : w.ownsRow base 5 1 v b.length (bitsV b)) :
    ∃ A c, v = .slice A b.length c ∧ b.length ≤ c ∧ c ≤ maxLen ∧ Rd w w.heap.size A b.length (fun k => .int .u8 (bu (b.getD k false))) := by
  obtain ⟨A, c, hv, hc, hm, hr⟩ := Rd.of_own h
  exact ⟨A, c, hv, hc, hm, hr.congr fun k hk => by simp [bitsV, List.getD_eq_getElem?_getD, hk]⟩
theorem own_made (w : World) (base : Nat) (n : Nat) (hb : base ≤ w.heap.size) (hn : n ≤ maxLen) :
    (w.alloc (.cells (Array.replicate n (.int .u8 0)) 5)).ownsRow base 5 1 (.slice (some ⟨w.heap.size, 0, none⟩) n n) n (bitsV (List.replicate n false)) := by
  have h := World.ownsRow_lit (base := base) (e := 5) (size := 1) w (Array.replicate n (.int .u8 0)) n hb hn (by simp)
  rw [Array.toList_replicate] at h
  rw [show bitsV (List.replicate n false) = List.replicate n (.int .u8 0) by simp [bitsV]; exact .inr rfl]
  exact h

set_option maxRecDepth 100000 in
set_option maxHeartbeats 1600000 in
theorem digits_any (x k : Nat) (w : World) (hx : x ≤ 9223372036854775807) (hk : k ≤ 1000) :
    Calls Try.prog 61 #[.int .i64 x, .int .i64 k] w (BRow w (dig x k)) := by
  obtain ⟨i0, hi, hz0, hz1, hz2⟩ := info_parts u8_info
  have hmk := run_make_one (P := Try.prog) 56 5 i0 (.int .u8 0) Try.underlying56 hi hz0 hz1 rfl k (by rw [hz2]; omega) (by omega) w
  have ho := own_made w w.heap.size k (Nat.le_refl _) (by unfold maxLen; omega)
  have hb := (Below.refl w.heap.size w).alloc (Nat.le_refl _) (.cells (Array.replicate k (.int .u8 0)) 5)
  obtain ⟨w1, hw1⟩ : ∃ w1, w1 = w.alloc (.cells (Array.replicate k (.int .u8 0)) 5) := ⟨_, rfl⟩
  rw [← hw1] at hmk ho hb
  have HO := Lib.hid ho
  have HB := Lib.hid hb
  clear hw1 ho hb
  go_enter Try.func61, Try.ntmps61
  go_wp2_with fail
  clear hmk
  go_loopw [0, 6] (fun s t wr => ∃ j : Nat, j ≤ k ∧ s = .int .i64 ((x / 2 ^ j : Nat) : Int) ∧ t = .int .i64 ((k : Int) - 1 - j) ∧ wr.ownsRow w.heap.size 5 1 (.slice (some ⟨w.heap.size, 0, none⟩) k k) k (bitsV (List.replicate (k - j) false ++ dig x j)) ∧ Below w.heap.size w wr) (fun _ t _ => (intOf t + 1).toNat)
  case atStart => exact ⟨0, Nat.zero_le _, by simp, by go_num, by simpa [dig_zero] using HO.out, HB.out⟩
  case round =>
    obtain ⟨j, hj, rfl, rfl, ho, hb⟩ := hrel
    have HO := Lib.hid ho
    have HB := Lib.hid hb
    by_cases hlt : j < k
    · obtain ⟨p, hp⟩ : ∃ p : Nat, (k : Int) - 1 - j = p := ⟨k - 1 - j, by omega⟩
      have hpk : p < k := by omega
      have hpj : k - j = p + 1 := by omega
      obtain ⟨y, hy⟩ : ∃ y, y = x / 2 ^ j := ⟨_, rfl⟩
      have hyb : y ≤ 9223372036854775807 := by rw [hy]; exact Nat.le_trans (Nat.div_le_self _ _) hx
      have f1 := ho.frozenAt p
      have c1 : ∃ u, wr.cell? ⟨w.heap.size, p, none⟩ = some u := by
        rw [ho.cellAt p (by omega)]
        exact ⟨_, List.getElem?_eq_getElem (by simp [bitsV, dig_len]; omega)⟩
      obtain ⟨u, c1⟩ := c1
      rw [← hy, hp]
      have HP := Lib.hid hp
      have HPJ := Lib.hid hpj
      have HY := Lib.hid hy
      have e1 : IntKind.u8.wrap ((y : Int) % 2) = (y : Int) % 2 := by rw [u8_wrap]; omega
      clear ho hb hp hpj hy
      go_wp2
      go_roundw
      case rel =>
        refine ⟨j + 1, by omega, ?_, by have := HP.out; congr 1; omega, ?_, HB.out.setCell (Nat.le_refl _) _⟩
        · rw [Nat.pow_succ, ← Nat.div_div_eq_div_mul, ← HY.out]
          go_num
        · have h2 := (HO.out.stored p (.int .u8 ((y : Int) % 2))).1
          have e2 : (bitsV (List.replicate (k - j) false ++ dig x j)).set p (.int .u8 ((y : Int) % 2)) = bitsV (List.replicate (k - (j + 1)) false ++ dig x (j + 1)) := by
            have h3 := HPJ.out
            rw [show k - (j + 1) = p by omega, h3, dig_succ, List.replicate_succ', List.append_assoc, bitsV_append, bitsV_append, List.set_append_right _ _ (by simp [bitsV])]
            have e4 : p - (bitsV (List.replicate p false)).length = 0 := by simp [bitsV]
            rw [e4]
            have e5 : (y : Int) % 2 = bu (x.testBit j) := by
              unfold bu
              rw [Nat.testBit_eq_decide_div_mod_eq, ← HY.out]
              have : y % 2 = 0 ∨ y % 2 = 1 := by omega
              rcases this with h | h
              · simp [h]; omega
              · simp [h]; omega
            rw [e5, bitsV_append]
            rfl
          rw [e2] at h2
          exact h2
      case measure => simp [intOf]
    · obtain rfl : j = k := by omega
      have e0 : (j : Int) - 1 - j = -1 := by omega
      rw [e0]
      clear e0 ho hb
      go_wp2
      go_ret
      refine ⟨_, rfl, ?_, HB.out⟩
      have := HO.out
      rw [Nat.sub_self] at this
      rw [dig_len]
      simpa using this

theorem BRow.below {w w1 : World} {b : List Bool} {e : Ending} {w' : World} (h : BRow w b e w') : Below w.heap.size w w' := h.choose_spec.2.2

set_option maxRecDepth 100000 in
set_option maxHeartbeats 1600000 in
theorem ue2_any (x : Nat) (w : World) (hx : x ≤ 2147483646) :
    Calls Try.prog 34 #[.int .i64 x] w (BRow w (ueL x)) := by
  obtain ⟨i0, hi, hz0, hz1, hz2⟩ := info_parts u8_info
  have hx1 : (0 : Int) ≤ x := Int.natCast_nonneg _
  go_enter Try.func34, Try.ntmps34
  go_wp2_with fail
  go_loop [3, 4] (fun s t => ∃ k y : Nat, s = .int .i64 k ∧ t = .int .i64 y ∧ 1 ≤ y ∧ y ≤ 2147483647 ∧ k + lg y = lg (x + 1) ∧ k ≤ 31) (fun _ t => (intOf t).toNat)
  case atStart => exact ⟨0, x + 1, rfl, by go_num, by omega, by omega, by omega, by omega⟩
  case round =>
    obtain ⟨k, y, rfl, rfl, h1, h2, h3, h4⟩ := hrel
    have H3 := Lib.hid h3
    have hl31 := lg_lt_of (x + 1) 31 (by omega) (by omega)
    clear h3
    by_cases hy : 1 < y
    · have hh := lg_half y (by omega)
      have hk : k + 1 + lg (y / 2) = lg (x + 1) := by have := H3.out; omega
      have HK := Lib.hid hk
      have hk31 : k + 1 ≤ 31 := by omega
      clear hh hk hl31
      go_wp2_with fail
      go_round
      case rel => exact ⟨k + 1, y / 2, by go_num, by go_num, by omega, by omega, HK.out, by omega⟩
      case measure => simp [intOf]; omega
    · obtain rfl : y = 1 := by omega
      have hk : k = lg (x + 1) := by have := H3.out; rw [lg_one 1 (by omega)] at this; omega
      have hmk := run_make_one (P := Try.prog) 56 5 i0 (.int .u8 0) Try.underlying56 hi hz0 hz1 rfl k (by rw [hz2]; omega) (by omega) w
      have ho := own_made w w.heap.size k (Nat.le_refl _) (by unfold maxLen; omega)
      have hb := (Below.refl w.heap.size w).alloc (Nat.le_refl _) (.cells (Array.replicate k (.int .u8 0)) 5)
      obtain ⟨w1, hw1⟩ : ∃ w1, w1 = w.alloc (.cells (Array.replicate k (.int .u8 0)) 5) := ⟨_, rfl⟩
      rw [← hw1] at hmk ho hb
      have HD := digits_any (x + 1) (k + 1) w1 (by omega) (by omega)
      rw [show (((x + 1 : Nat)) : Int) = (x : Int) + 1 by omega, show (((k + 1 : Nat)) : Int) = (k : Int) + 1 by omega] at HD
      have HD := Lib.hid HD
      have HK := Lib.hid hk
      have HO := Lib.hid ho
      have HB := Lib.hid hb
      clear hw1 ho hb hk H3 hl31
      go_wp2_with fail
      refine HD.out.mono ?_
      rintro e w2 ⟨v, rfl, hv, hb2⟩
      obtain ⟨A, c, rfl, hnc, hcm, hr⟩ := Rd.bits hv
      have hA : A = none → (dig (x + 1) (k + 1)).length = 0 ∧ c = 0 := by
        intro q
        rcases hv.2 with ⟨q2, h0⟩ | ⟨g', cap', cur', q2, _⟩
        · simp only [Value.slice.injEq] at q2
          exact ⟨q2.2.1, q2.2.2⟩
        · rw [q] at q2
          simp at q2
      have hs1 := HB.out.size
      have ho2 := own_go HO.out hb2
      have hbb := HB.out.trans (hb2.mono hs1)
      have hdl : (dig (x + 1) (k + 1)).length = k + 1 := dig_len _ _
      have HBB := Lib.hid hbb
      have HO2 := Lib.hid ho2
      have HR := Lib.hid hr
      have HA := Lib.hid hA
      rw [hdl] at HR HA hnc ⊢
      have HDL := Lib.hid hdl
      clear hv hb2 hr hA ho2 hbb HO HB HD hdl
      go_wp2_with (at_builtin; refine wpList_append_rd _ rfl _ _ 56 rfl w.heap.size 5 i0 (.int .u8 0) 1 Try.underlying56 hi hz0 hz1 hz2 rfl _ k _ rfl HO2.out w2.heap.size A (k + 1) c (fun j => .int .u8 (bu ((dig (x + 1) (k + 1)).getD j false))) rfl HR.out HA.out (fun k => rfl) (by unfold maxLen; omega) (by omega) (by have := HBB.out.size; omega) ?_; intro v' w3 hown1 hg1)
      go_ret
      have hl : (ueL x).length = k + (k + 1) := by rw [ueL_len, ← HK.out]; omega
      refine ⟨v', rfl, ?_, HBB.out.grown hg1 HBB.out.size (fun j hj => (HO2.out.lt j hj).1)⟩
      rw [hl, ueL_two, bitsV_append, ← HK.out, bitsV_range (dig (x + 1) (k + 1)), HDL.out]
      exact hown1

theorem se2_any (x : Int) (w : World) (hx : -1073741823 ≤ x ∧ x ≤ 1073741823) :
    Calls Try.prog 35 #[.int .i64 x] w (BRow w (seL x)) := by
  unfold seL seN
  by_cases h0 : 0 < x
  · have hp := ue2_any (2 * x - 1).toNat w (by omega)
    rw [show (((2 * x - 1).toNat : Nat) : Int) = 2 * x - 1 by omega] at hp
    rw [if_pos h0]
    have HP := Lib.hid hp
    clear hp
    go_enter Try.func35, Try.ntmps35
    go_wp2_with fail
    refine HP.out.mono ?_
    rintro e w1 ⟨v, rfl, hq⟩
    have HQ := Lib.hid hq
    clear hq HP
    go_wp2_with fail
    go_ret
    exact ⟨v, rfl, HQ.out⟩
  · have hp := ue2_any (-2 * x).toNat w (by omega)
    rw [show (((-2 * x).toNat : Nat) : Int) = -2 * x by omega] at hp
    rw [if_neg h0]
    have HP := Lib.hid hp
    clear hp
    go_enter Try.func35, Try.ntmps35
    go_wp2_with fail
    refine HP.out.mono ?_
    rintro e w1 ⟨v, rfl, hq⟩
    have HQ := Lib.hid hq
    clear hq HP
    go_wp2_with fail
    go_ret
    exact ⟨v, rfl, HQ.out⟩

/-- a row of bits that was appended to -/
def BGrow (w : World) (base : Nat) (v : Value) (b : List Bool) (v' : Value) (w' : World) : Prop := w'.ownsRow base 5 1 v' b.length (bitsV b) ∧ Touch (fun k => v.ownBlock = some k) w w' ∧ New w v v'
theorem BGrow.step {w w1 w2 : World} {base : Nat} {v v1 v2 : Value} {b c d : List Bool} {o : Option Obj} (h : BGrow w base v b v1 w1) (ho : w2.ownsRow base 5 1 v2 c.length (bitsV c)) {wa : World} (ha : wa = w1 ∨ ∃ o, wa = w1.alloc o) (hg : wa.grownBy w2 v1.ownBlock) {N : Nat} (hat : v2.ownBlock = v1.ownBlock ∨ v2.ownBlock = some N) (hN : w1.heap.size ≤ N) : BGrow w base v c v2 w2 := by
  obtain ⟨h1, h2, h3⟩ := h
  have hs : w1.heap.size ≤ wa.heap.size := by rcases ha with rfl | ⟨o, rfl⟩ <;> simp
  have hta : Touch (fun k => v.ownBlock = some k) w wa := by
    rcases ha with rfl | ⟨o, rfl⟩
    · exact h2
    · exact h2.alloc o
  refine ⟨ho, hta.grown hg (fun k e hk => ?_), h3.step h2.size ?_⟩
  · rcases h3 with h | ⟨i, h, hi⟩
    · exact h.symm.trans e
    · rw [h] at e
      have : i = k := by injection e
      omega
  · rcases hat with h | h
    · exact .inl h
    · exact .inr ⟨_, h, hN⟩

set_option maxRecDepth 100000 in
set_option maxHeartbeats 1600000 in
theorem trail2_any (base : Nat) (v : Value) (b : List Bool) (w : World) (h : w.ownsRow base 5 1 v b.length (bitsV b)) (hbs : base ≤ w.heap.size) (hb : b.length ≤ 1000000) :
    Calls Try.prog 37 #[v] w fun e w' => ∃ v', e = .returned v' ∧ BGrow w base v (trL b) v' w' := by
  obtain ⟨i0, hi, hz0, hz1, hz2⟩ := info_parts u8_info
  obtain ⟨A, cp, hv, hnc, hcm, hr⟩ := Rd.bits h
  have HO := Lib.hid h
  have HBS := Lib.hid hbs
  have hg0 : BGrow w base v b v w := ⟨h, Touch.refl _ _, .inl rfl⟩
  have HG := Lib.hid hg0
  clear h hbs hg0 hr hnc hcm
  have HV := Lib.hid hv
  clear hv
  go_enter Try.func37, Try.ntmps37
  go_wp2_with (at_builtin; refine wpList_append_own_at (P := Try.prog) _ rfl (.tmp 3) (.tmp 4) 56 rfl base 5 i0 (.int .u8 0) 1 1 Try.underlying56 hi hz0 hz1 hz2 rfl (by decide) v b.length (bitsV b) rfl (HO.out.alloc _) ⟨w.heap.size, 0, none⟩ 1 1 [.int .u8 1] rfl rfl ?c1 ?c2 (by unfold maxLen; omega) (by omega) (by have := HBS.out; simp; omega) ?_)
  case c1 =>
    intro j u hj
    rw [add_new]
    match j, hj with
    | 0, hj => simp at hj; subst hj; simp
  case c2 => intro u hu; simp at hu; subst hu; rfl
  intro v1 w1 hown1 hg1 _ hat1
  have hg1 : BGrow w base v (b ++ [true]) v1 w1 := HG.out.step (d := []) (o := none) (by rw [List.length_append, bitsV_append]; exact hown1) (.inr ⟨_, rfl⟩) hg1 hat1 (by omega)
  have HG := Lib.hid hg1
  clear hown1 hg1 hat1 HO HV
  go_wp2_with fail
  go_loopw [0] (fun s wr => ∃ (j : Nat) (v1 : Value) (B : List Bool), s = v1 ∧ B = b ++ true :: List.replicate j false ∧ j ≤ 7 - b.length % 8 ∧ BGrow w base v B v1 wr) (fun s wr => match s with | .slice _ n _ => (8 - n % 8) % 8 | _ => 0)
  case atStart => exact ⟨0, v1, _, rfl, rfl, by omega, HG.out⟩
  case round =>
    clear HG
    obtain ⟨j, v1, B, rfl, hB, hj, hG⟩ := hrel
    have hBl : B.length = b.length + j + 1 := by rw [hB]; simp; omega
    obtain ⟨A1, c1, rfl, hnc1, hcm1, hr1⟩ := Rd.bits hG.1
    have HB := Lib.hid hB
    have hs1 := hG.2.1.size
    have hbnd : B.length ≤ 1001000 := by omega
    clear hB hr1
    obtain ⟨L, hL⟩ : ∃ L, L = B.length := ⟨_, rfl⟩
    rw [← hL] at hBl hnc1 hbnd hG ⊢
    have HG := Lib.hid hG
    clear hG
    have HL := Lib.hid hL
    clear hL
    by_cases hlt : j < 7 - b.length % 8
    · have hm : ((L : Int) % 8 != 0) = true := by simp; omega
      have HBL := Lib.hid hBl
      clear hBl
      have hob := HG.out.1
      rw [← HL.out] at hob
      have HOB := Lib.hid hob
      clear hob
      go_wp2_with (at_builtin; refine wpList_append_own_at (P := Try.prog) _ rfl (.tmp 10) (.tmp 11) 56 rfl base 5 i0 (.int .u8 0) 1 1 Try.underlying56 hi hz0 hz1 hz2 rfl (by decide) _ L (bitsV B) rfl (HOB.out.alloc _) ⟨wr.heap.size, 0, none⟩ 1 1 [.int .u8 0] rfl rfl ?d1 ?d2 (by unfold maxLen; omega) (by omega) (by have := HBS.out; simp; omega) ?_)
      case d1 =>
        intro j u hj
        rw [add_new]
        match j, hj with
        | 0, hj => simp at hj; subst hj; simp
      case d2 => intro u hu; simp at hu; subst hu; rfl
      intro v2 w2 hown2 hg2 _ hat2
      have hg3 : BGrow w base v (B ++ [false]) v2 w2 := HG.out.step (d := []) (o := none) (by rw [List.length_append, bitsV_append, ← HL.out]; exact hown2) (.inr ⟨_, rfl⟩) hg2 hat2 (by omega)
      have HG2 := Lib.hid hg3
      obtain ⟨A2, c2, rfl, hnc2, hcm2, hr2⟩ := Rd.bits hg3.1
      clear hown2 hg2 hg3 hat2 hr2
      have hl2 : (B ++ [false]).length = L + 1 := by simp [HL.out]
      rw [hl2] at HG2 hnc2 ⊢
      go_wp2
      go_roundw
      case rel => exact ⟨j + 1, _, B ++ [false], rfl, by rw [HB.out, List.replicate_succ']; simp, by omega, HG2.out⟩
      case measure => have := HBL.out; simp; omega
    · have hm : ((L : Int) % 8 != 0) = false := by simp; omega
      have hj7 : j = 7 - b.length % 8 := by omega
      have hB2 : B = trL b := by rw [HB.out, hj7]; rfl
      have HB2 := Lib.hid hB2
      clear hj7 hB2 HB hBl
      go_wp2
      go_ret
      exact ⟨_, rfl, by rw [← HB2.out]; exact HG.out⟩
end Go.Proofs.Ytegfglpaabddlaa
