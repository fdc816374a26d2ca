/- The document's bits: Digits, Ue, Se, Te, Trail, Pack. Rows of bits that are appended to rows of bits. The document's Pack. -/
import Derived.Test.YtjokibagciehlaaGreatBitX
import Derived.Test.YtjokibagciehlaaGreatMake
import Derived.Test.YtjokibagciehlaaGreatSep
namespace Go.Proofs.YtjokibagciehlaaGreat
open Go.RowKit
set_option linter.unusedVariables false
set_option linter.unusedSimpArgs false

/-- bits as the document's bytes -/
def bu (x : Bool) : Int := ((x.toNat : Nat) : Int)
theorem bu_bd (x : Bool) : 0 ≤ bu x ∧ bu x ≤ 1 := by cases x <;> decide
def bitsV (b : List Bool) : List Value := b.map fun x => .int .u8 (bu x)
theorem bitsV_len (b : List Bool) : (bitsV b).length = b.length := by simp [bitsV]
theorem bitsV_append (a b : List Bool) : bitsV (a ++ b) = bitsV a ++ bitsV b := by simp [bitsV]
theorem bitsV_range (b : List Bool) : bitsV b = (List.range b.length).map fun k => .int .u8 (bu (b.getD k false)) := by
  apply List.ext_getElem
  · simp [bitsV]
  · intro i h1 h2
    have hi : i < b.length := by simpa [bitsV] using h1
    simp [bitsV, List.getD_eq_getElem?_getD, hi]
/-- what such a call answers: a new row of bits -/
def BRow (w : World) (b : List Bool) (e : Ending) (w' : World) : Prop := ∃ v, e = .returned v ∧ w'.ownsRow w.heap.size 5 1 v b.length (bitsV b) ∧ Below w.heap.size w w'
theorem Rd.bits {w : World} {base : Nat} {v : Value} {b : List Bool} (h : w.ownsRow base 5 1 v b.length (bitsV b)) :
    ∃ A c, v = .slice A b.length c ∧ b.length ≤ c ∧ c ≤ maxLen ∧ Rd w w.heap.size A b.length (fun k => .int .u8 (bu (b.getD k false))) := by
  obtain ⟨A, c, hv, hc, hm, hr⟩ := Rd.of_own h
  exact ⟨A, c, hv, hc, hm, hr.congr fun k hk => by simp [bitsV, List.getD_eq_getElem?_getD, hk]⟩
theorem own_made (w : World) (base : Nat) (n : Nat) (hb : base ≤ w.heap.size) (hn : n ≤ maxLen) :
    (w.alloc (.cells (Array.replicate n (.int .u8 0)) 5)).ownsRow base 5 1 (.slice (some ⟨w.heap.size, 0, none⟩) n n) n (bitsV (List.replicate n false)) := by
  have h := World.ownsRow_lit (base := base) (e := 5) (size := 1) w (Array.replicate n (.int .u8 0)) n hb hn (by simp)
  rw [Array.toList_replicate] at h
  rw [show bitsV (List.replicate n false) = List.replicate n (.int .u8 0) by simp [bitsV]; exact .inr rfl]
  exact h

set_option maxRecDepth 100000 in
set_option maxHeartbeats 1600000 in
theorem digits_any (x k : Nat) (w : World) (hx : x ≤ 9223372036854775807) (hk : k ≤ 1000) :
    Calls Tryz.prog 10 #[.int .i64 x, .int .i64 k] w (BRow w (dig x k)) := by
  obtain ⟨i0, hi, hz0, hz1, hz2⟩ := info_parts u8_info
  have hmk := run_make_one (P := Tryz.prog) 38 5 i0 (.int .u8 0) Tryz.underlying38 hi hz0 hz1 rfl k (by rw [hz2]; omega) (by omega) w
  have ho := own_made w w.heap.size k (Nat.le_refl _) (by unfold maxLen; omega)
  have hb := (Below.refl w.heap.size w).alloc (Nat.le_refl _) (.cells (Array.replicate k (.int .u8 0)) 5)
  obtain ⟨w1, hw1⟩ : ∃ w1, w1 = w.alloc (.cells (Array.replicate k (.int .u8 0)) 5) := ⟨_, rfl⟩
  rw [← hw1] at hmk ho hb
  have HO := Lib.hid ho
  have HB := Lib.hid hb
  clear hw1 ho hb
  go_enter Tryz.func10, Tryz.ntmps10
  go_wp2_with fail
  clear hmk
  go_loopw [0, 6] (fun s t wr => ∃ j : Nat, j ≤ k ∧ s = .int .i64 ((x / 2 ^ j : Nat) : Int) ∧ t = .int .i64 ((k : Int) - 1 - j) ∧ wr.ownsRow w.heap.size 5 1 (.slice (some ⟨w.heap.size, 0, none⟩) k k) k (bitsV (List.replicate (k - j) false ++ dig x j)) ∧ Below w.heap.size w wr) (fun _ t _ => (intOf t + 1).toNat)
  case atStart => exact ⟨0, Nat.zero_le _, by simp, by go_num, by simpa [dig_zero] using HO.out, HB.out⟩
  case round =>
    obtain ⟨j, hj, rfl, rfl, ho, hb⟩ := hrel
    have HO := Lib.hid ho
    have HB := Lib.hid hb
    by_cases hlt : j < k
    · obtain ⟨p, hp⟩ : ∃ p : Nat, (k : Int) - 1 - j = p := ⟨k - 1 - j, by omega⟩
      have hpk : p < k := by omega
      have hpj : k - j = p + 1 := by omega
      obtain ⟨y, hy⟩ : ∃ y, y = x / 2 ^ j := ⟨_, rfl⟩
      have hyb : y ≤ 9223372036854775807 := by rw [hy]; exact Nat.le_trans (Nat.div_le_self _ _) hx
      have f1 := ho.frozenAt p
      have c1 : ∃ u, wr.cell? ⟨w.heap.size, p, none⟩ = some u := by
        rw [ho.cellAt p (by omega)]
        exact ⟨_, List.getElem?_eq_getElem (by simp [bitsV, dig_len]; omega)⟩
      obtain ⟨u, c1⟩ := c1
      rw [← hy, hp]
      have HP := Lib.hid hp
      have HPJ := Lib.hid hpj
      have HY := Lib.hid hy
      have e1 : IntKind.u8.wrap ((y : Int) % 2) = (y : Int) % 2 := by rw [u8_wrap]; omega
      clear ho hb hp hpj hy
      go_wp2
      go_roundw
      case rel =>
        refine ⟨j + 1, by omega, ?_, by have := HP.out; congr 1; omega, ?_, HB.out.setCell (Nat.le_refl _) _⟩
        · rw [Nat.pow_succ, ← Nat.div_div_eq_div_mul, ← HY.out]
          go_num
        · have h2 := (HO.out.stored p (.int .u8 ((y : Int) % 2))).1
          have e2 : (bitsV (List.replicate (k - j) false ++ dig x j)).set p (.int .u8 ((y : Int) % 2)) = bitsV (List.replicate (k - (j + 1)) false ++ dig x (j + 1)) := by
            have h3 := HPJ.out
            rw [show k - (j + 1) = p by omega, h3, dig_succ, List.replicate_succ', List.append_assoc, bitsV_append, bitsV_append, List.set_append_right _ _ (by simp [bitsV])]
            have e4 : p - (bitsV (List.replicate p false)).length = 0 := by simp [bitsV]
            rw [e4]
            have e5 : (y : Int) % 2 = bu (x.testBit j) := by
              unfold bu
              rw [Nat.testBit_eq_decide_div_mod_eq, ← HY.out]
              have : y % 2 = 0 ∨ y % 2 = 1 := by omega
              rcases this with h | h
              · simp [h]; omega
              · simp [h]; omega
            rw [e5, bitsV_append]
            rfl
          rw [e2] at h2
          exact h2
      case measure => simp [intOf]
    · obtain rfl : j = k := by omega
      have e0 : (j : Int) - 1 - j = -1 := by omega
      rw [e0]
      clear e0 ho hb
      go_wp2
      go_ret
      refine ⟨_, rfl, ?_, HB.out⟩
      have := HO.out
      rw [Nat.sub_self] at this
      rw [dig_len]
      simpa using this

theorem BRow.below {w w1 : World} {b : List Bool} {e : Ending} {w' : World} (h : BRow w b e w') : Below w.heap.size w w' := h.choose_spec.2.2

set_option maxRecDepth 100000 in
set_option maxHeartbeats 1600000 in
theorem ue2_any (x : Nat) (w : World) (hx : x ≤ 2147483646) :
    Calls Tryz.prog 33 #[.int .i64 x] w (BRow w (ueL x)) := by
  obtain ⟨i0, hi, hz0, hz1, hz2⟩ := info_parts u8_info
  have hx1 : (0 : Int) ≤ x := Int.natCast_nonneg _
  go_enter Tryz.func33, Tryz.ntmps33
  go_wp2_with fail
  go_loop [3, 4] (fun s t => ∃ k y : Nat, s = .int .i64 k ∧ t = .int .i64 y ∧ 1 ≤ y ∧ y ≤ 2147483647 ∧ k + lg y = lg (x + 1) ∧ k ≤ 31) (fun _ t => (intOf t).toNat)
  case atStart => exact ⟨0, x + 1, rfl, by go_num, by omega, by omega, by omega, by omega⟩
  case round =>
    obtain ⟨k, y, rfl, rfl, h1, h2, h3, h4⟩ := hrel
    have H3 := Lib.hid h3
    have hl31 := lg_lt_of (x + 1) 31 (by omega) (by omega)
    clear h3
    by_cases hy : 1 < y
    · have hh := lg_half y (by omega)
      have hk : k + 1 + lg (y / 2) = lg (x + 1) := by have := H3.out; omega
      have HK := Lib.hid hk
      have hk31 : k + 1 ≤ 31 := by omega
      clear hh hk hl31
      go_wp2_with fail
      go_round
      case rel => exact ⟨k + 1, y / 2, by go_num, by go_num, by omega, by omega, HK.out, by omega⟩
      case measure => simp [intOf]; omega
    · obtain rfl : y = 1 := by omega
      have hk : k = lg (x + 1) := by have := H3.out; rw [lg_one 1 (by omega)] at this; omega
      have hmk := run_make_one (P := Tryz.prog) 38 5 i0 (.int .u8 0) Tryz.underlying38 hi hz0 hz1 rfl k (by rw [hz2]; omega) (by omega) w
      have ho := own_made w w.heap.size k (Nat.le_refl _) (by unfold maxLen; omega)
      have hb := (Below.refl w.heap.size w).alloc (Nat.le_refl _) (.cells (Array.replicate k (.int .u8 0)) 5)
      obtain ⟨w1, hw1⟩ : ∃ w1, w1 = w.alloc (.cells (Array.replicate k (.int .u8 0)) 5) := ⟨_, rfl⟩
      rw [← hw1] at hmk ho hb
      have HD := digits_any (x + 1) (k + 1) w1 (by omega) (by omega)
      rw [show (((x + 1 : Nat)) : Int) = (x : Int) + 1 by omega, show (((k + 1 : Nat)) : Int) = (k : Int) + 1 by omega] at HD
      have HD := Lib.hid HD
      have HK := Lib.hid hk
      have HO := Lib.hid ho
      have HB := Lib.hid hb
      clear hw1 ho hb hk H3 hl31
      go_wp2_with fail
      refine HD.out.mono ?_
      rintro e w2 ⟨v, rfl, hv, hb2⟩
      obtain ⟨A, c, rfl, hnc, hcm, hr⟩ := Rd.bits hv
      have hA : A = none → (dig (x + 1) (k + 1)).length = 0 ∧ c = 0 := by
        intro q
        rcases hv.2 with ⟨q2, h0⟩ | ⟨g', cap', cur', q2, _⟩
        · simp only [Value.slice.injEq] at q2
          exact ⟨q2.2.1, q2.2.2⟩
        · rw [q] at q2
          simp at q2
      have hs1 := HB.out.size
      have ho2 := own_go HO.out hb2
      have hbb := HB.out.trans (hb2.mono hs1)
      have hdl : (dig (x + 1) (k + 1)).length = k + 1 := dig_len _ _
      have HBB := Lib.hid hbb
      have HO2 := Lib.hid ho2
      have HR := Lib.hid hr
      have HA := Lib.hid hA
      rw [hdl] at HR HA hnc ⊢
      have HDL := Lib.hid hdl
      clear hv hb2 hr hA ho2 hbb HO HB HD hdl
      go_wp2_with (at_builtin; refine wpList_append_rd _ rfl _ _ 38 rfl w.heap.size 5 i0 (.int .u8 0) 1 Tryz.underlying38 hi hz0 hz1 hz2 rfl _ k _ rfl HO2.out w2.heap.size A (k + 1) c (fun j => .int .u8 (bu ((dig (x + 1) (k + 1)).getD j false))) rfl HR.out HA.out (fun k => rfl) (by unfold maxLen; omega) (by omega) (by have := HBB.out.size; omega) ?_; intro v' w3 hown1 hg1)
      go_ret
      have hl : (ueL x).length = k + (k + 1) := by rw [ueL_len, ← HK.out]; omega
      refine ⟨v', rfl, ?_, HBB.out.grown hg1 HBB.out.size (fun j hj => (HO2.out.lt j hj).1)⟩
      rw [hl, ueL_two, bitsV_append, ← HK.out, bitsV_range (dig (x + 1) (k + 1)), HDL.out]
      exact hown1

theorem se2_any (x : Int) (w : World) (hx : -1073741823 ≤ x ∧ x ≤ 1073741823) :
    Calls Tryz.prog 39 #[.int .i64 x] w (BRow w (seL x)) := by
  unfold seL seN
  by_cases h0 : 0 < x
  · have hp := ue2_any (2 * x - 1).toNat w (by omega)
    rw [show (((2 * x - 1).toNat : Nat) : Int) = 2 * x - 1 by omega] at hp
    rw [if_pos h0]
    have HP := Lib.hid hp
    clear hp
    go_enter Tryz.func39, Tryz.ntmps39
    go_wp2_with fail
    refine HP.out.mono ?_
    rintro e w1 ⟨v, rfl, hq⟩
    have HQ := Lib.hid hq
    clear hq HP
    go_wp2_with fail
    go_ret
    exact ⟨v, rfl, HQ.out⟩
  · have hp := ue2_any (-2 * x).toNat w (by omega)
    rw [show (((-2 * x).toNat : Nat) : Int) = -2 * x by omega] at hp
    rw [if_neg h0]
    have HP := Lib.hid hp
    clear hp
    go_enter Tryz.func39, Tryz.ntmps39
    go_wp2_with fail
    refine HP.out.mono ?_
    rintro e w1 ⟨v, rfl, hq⟩
    have HQ := Lib.hid hq
    clear hq HP
    go_wp2_with fail
    go_ret
    exact ⟨v, rfl, HQ.out⟩

/-- a row of bits that was appended to -/
def BGrow (w : World) (base : Nat) (v : Value) (b : List Bool) (v' : Value) (w' : World) : Prop := w'.ownsRow base 5 1 v' b.length (bitsV b) ∧ Touch (fun k => v.ownBlock = some k) w w' ∧ New w v v'
theorem BGrow.step {w w1 w2 : World} {base : Nat} {v v1 v2 : Value} {b c d : List Bool} {o : Option Obj} (h : BGrow w base v b v1 w1) (ho : w2.ownsRow base 5 1 v2 c.length (bitsV c)) {wa : World} (ha : wa = w1 ∨ ∃ o, wa = w1.alloc o) (hg : wa.grownBy w2 v1.ownBlock) {N : Nat} (hat : v2.ownBlock = v1.ownBlock ∨ v2.ownBlock = some N) (hN : w1.heap.size ≤ N) : BGrow w base v c v2 w2 := by
  obtain ⟨h1, h2, h3⟩ := h
  have hs : w1.heap.size ≤ wa.heap.size := by rcases ha with rfl | ⟨o, rfl⟩ <;> simp
  have hta : Touch (fun k => v.ownBlock = some k) w wa := by
    rcases ha with rfl | ⟨o, rfl⟩
    · exact h2
    · exact h2.alloc o
  refine ⟨ho, hta.grown hg (fun k e hk => ?_), h3.step h2.size ?_⟩
  · rcases h3 with h | ⟨i, h, hi⟩
    · exact h.symm.trans e
    · rw [h] at e
      have : i = k := by injection e
      omega
  · rcases hat with h | h
    · exact .inl h
    · exact .inr ⟨_, h, hN⟩

end Go.Proofs.YtjokibagciehlaaGreat

namespace Go.Proofs.YtjokibagciehlaaGreat
open Go.RowKit
set_option linter.unusedVariables false
set_option linter.unusedSimpArgs false

theorem wpList_append_rd_at {P : Program} (w : World) {ops : Array Oper} {rest : List Oper} {o : Oper} {a : Act} {Q : Exit → Act → World → Prop} (hgd : o.guard = none) (s x : Operand) (t : TypeId)
    (ho : o.op = .call { callee := .builtin .append, args := #[s, x], argTypes := #[t, t] })
    (base : Nat) (e : TypeId) (i : TypeInfo) (z : Value) (bytes : Nat) (ht : P.underlying t = some (.slice e)) (hi : P.info? e = some i) (hz : i.zero = some z)
    (hsize : i.size = 1) (hby : i.bytes = bytes) (hzs : z.cells.size = 1)
    (v : Value) (n : Nat) (xs : List Value) (hs : a.eval s = v) (hown : w.ownsRow base e 1 v n xs)
    (B : Nat) (A : Option Addr) (m c : Nat) (f : Nat → Value) (hx : a.eval x = .slice A m c) (hr : Rd w B A m f) (h0 : A = none → m = 0 ∧ c = 0) (h1 : ∀ k, (f k).oneCell' = true)
    (h63 : n + m ≤ maxLen) (hbytes : (n + m) * bytes ≤ 140737488355328) (hbase : base ≤ w.heap.size)
    (h : ∀ v' w', w'.ownsRow base e 1 v' (n + m) (xs ++ (List.range m).map f) → w.grownBy w' v.ownBlock → (v'.ownBlock = v.ownBlock ∨ v'.ownBlock = some w.heap.size) → wpList P ops Q rest (a.put o.dst v') w') : wpList P ops Q (o :: rest) a w := by
  rcases A with _ | ad
  · obtain ⟨rfl, rfl⟩ := h0 rfl
    refine wpList_append_own_none hgd s x t ho base e i 1 ht hi v n xs hs hown hx ?_
    exact h v w (by simpa using hown) (World.grownBy.refl w _) (.inl rfl)
  · refine wpList_append_own_at _ hgd s x t ho base e i z 1 bytes ht hi hz hsize hby hzs (by omega) v n xs hs hown ad m c ((List.range m).map f) hx (by simp) ?_ ?_ h63 hbytes hbase (fun v' w' g1 g2 _ g3 => h v' w' g1 g2 g3)
    · intro j u hj
      have hjm : j < m := by
        have := (List.getElem?_eq_some_iff.1 hj).1
        simpa using this
      obtain ⟨ad', e', hb, hc⟩ := hr (by omega)
      obtain rfl : ad = ad' := by injection e'
      rw [hc j hjm]
      simpa [hjm] using hj
    · intro u hu
      obtain ⟨k, _, rfl⟩ := List.mem_map.1 hu
      exact h1 k

/-- a new row of bits, read -/
theorem BRow.rd {w w' : World} {b : List Bool} {v : Value} (h : w'.ownsRow w.heap.size 5 1 v b.length (bitsV b)) :
    ∃ A c, v = .slice A b.length c ∧ Rd w' w'.heap.size A b.length (fun k => .int .u8 (bu (b.getD k false))) ∧ (A = none → b.length = 0 ∧ c = 0) := by
  obtain ⟨A, c, rfl, hnc, hcm, hr⟩ := Rd.bits h
  refine ⟨A, c, rfl, hr, fun q => ?_⟩
  rcases h.2 with ⟨q2, h0⟩ | ⟨g', cap', cur', q2, _⟩
  · simp only [Value.slice.injEq] at q2
    exact ⟨q2.2.1, q2.2.2⟩
  · rw [q] at q2
    simp at q2
theorem bitsV_add (b d : List Bool) : bitsV b ++ (List.range d.length).map (fun k => Value.int .u8 (bu (d.getD k false))) = bitsV (b ++ d) := by rw [bitsV_append, bitsV_range d]
theorem BGrow.go {w w1 w2 : World} {base : Nat} {v v1 : Value} {b : List Bool} (h : BGrow w base v b v1 w1) (hb : Below w1.heap.size w1 w2) : BGrow w base v b v1 w2 :=
  ⟨own_go h.1 hb, h.2.1.trans (Touch.of_new hb), h.2.2⟩
theorem BGrow.refl {w : World} {base : Nat} {v : Value} {b : List Bool} (h : w.ownsRow base 5 1 v b.length (bitsV b)) : BGrow w base v b v w := ⟨h, Touch.refl _ _, .inl rfl⟩
theorem BGrow.app {w w1 w2 : World} {base : Nat} {v v1 v2 : Value} {b c : List Bool} (h : BGrow w base v b v1 w1) (ho : w2.ownsRow base 5 1 v2 c.length (bitsV c)) (hg : w1.grownBy w2 v1.ownBlock) {N : Nat} (hat : v2.ownBlock = v1.ownBlock ∨ v2.ownBlock = some N) (hN : w1.heap.size ≤ N) : BGrow w base v c v2 w2 :=
  BGrow.step (d := []) (o := none) h ho (.inl rfl) hg hat hN
/-- append of a new row of bits -/
theorem wpList_app {w w0 w1 : World} {ops : Array Oper} {rest : List Oper} {o : Oper} {a : Act} {Q : Exit → Act → World → Prop} (hgd : o.guard = none) (s x : Operand)
    (ho : o.op = .call { callee := .builtin .append, args := #[s, x], argTypes := #[38, 38] })
    (base : Nat) (v v1 vd : Value) (b d : List Bool) (hs : a.eval s = v1) (hx : a.eval x = vd) (hG : BGrow w0 base v b v1 w1) (hbs : base ≤ w1.heap.size) (hb : Below w1.heap.size w1 w)
    (hd : w.ownsRow w1.heap.size 5 1 vd d.length (bitsV d)) (hlen : b.length + d.length ≤ 100000000)
    (h : ∀ v2 w2, BGrow w0 base v (b ++ d) v2 w2 → wpList Tryz.prog ops Q rest (a.put o.dst v2) w2) : wpList Tryz.prog ops Q (o :: rest) a w := by
  obtain ⟨i0, hi, hz0, hz1, hz2⟩ := info_parts u8_info
  obtain ⟨A, c, rfl, hr, hnil⟩ := BRow.rd hd
  have hs1 := hb.size
  refine wpList_append_rd_at w hgd s x 38 ho base 5 i0 (.int .u8 0) 1 Tryz.underlying38 hi hz0 hz1 hz2 rfl v1 b.length (bitsV b) hs (own_go hG.1 hb) w.heap.size A d.length c _ hx hr hnil (fun k => rfl) (by unfold maxLen; omega) (by omega) (by omega) ?_
  intro v2 w2 hown hg hat
  rw [bitsV_add, ← List.length_append] at hown
  exact h v2 w2 ((hG.go hb).app hown hg hat (Nat.le_refl _))
end Go.Proofs.YtjokibagciehlaaGreat

namespace Go.Proofs.YtjokibagciehlaaGreat
open Go.RowKit
set_option linter.unusedVariables false
set_option linter.unusedSimpArgs false

theorem bytesV_take (b : List Bool) (i m : Nat) (hi : i < b.length) (hm : i / 8 < m) : (bytesV (b.take i) m).set (i / 8) (.int .u8 (byteOf (b.take (i + 1)) (i / 8))) = bytesV (b.take (i + 1)) m := by
  have e : b.take (i + 1) = b.take i ++ [b[i]] := by rw [List.take_add_one, List.getElem?_eq_getElem hi]; rfl
  have hl : (b.take i).length = i := by rw [List.length_take]; omega
  apply List.ext_getElem
  · simp [bytesV]
  · intro k h1 h2
    have hk : k < m := by simpa [bytesV] using h2
    rw [List.getElem_set]
    split
    · rename_i h
      subst h
      simp [bytesV]
    · rename_i h
      simp only [bytesV, List.getElem_map, List.getElem_range]
      rw [e, byteOf_far _ _ _ (by rw [hl]; omega)]
theorem byteOf_take_nought (b : List Bool) (i k : Nat) (hi : i < b.length) (h : b.getD i false = false) : byteOf (b.take (i + 1)) k = byteOf (b.take i) k := by
  have e : b.take (i + 1) = b.take i ++ [false] := by
    rw [List.take_add_one, List.getElem?_eq_getElem hi]
    rw [List.getD_eq_getElem?_getD, List.getElem?_eq_getElem hi] at h
    simp at h
    rw [h]
    rfl
  have hl : (b.take i).length = i := by rw [List.length_take]; omega
  rw [e]
  by_cases hk : k = i / 8
  · have := byteOf_push (b.take i) false
    rw [hl] at this
    rw [hk, this]
    simp [bv]
  · exact byteOf_far _ _ _ (by rw [hl]; exact hk)
theorem byteOf_take_one (b : List Bool) (i : Nat) (hi : i < b.length) (h : b.getD i false = true) : bits .or .u8 (byteOf (b.take i) (i / 8) : Int) (((2 ^ (7 - i % 8) : Nat)) : Int) = (byteOf (b.take (i + 1)) (i / 8) : Int) := by
  have e : b.take (i + 1) = b.take i ++ [true] := by
    rw [List.take_add_one, List.getElem?_eq_getElem hi]
    rw [List.getD_eq_getElem?_getD, List.getElem?_eq_getElem hi] at h
    simp at h
    rw [h]
    rfl
  have hl : (b.take i).length = i := by rw [List.length_take]; omega
  have h2 : (2 : Nat) ^ (7 - i % 8) < 2 ^ 8 := Nat.pow_lt_pow_right (by omega) (by omega)
  rw [or_u8 _ _ (byteOf_lt _ _) h2, e]
  have := byteOf_push (b.take i) true
  rw [hl] at this
  rw [this]
  rfl

set_option maxRecDepth 100000 in
set_option maxHeartbeats 3200000 in
theorem pack_any (A : Option Addr) (c B0 : Nat) (b : List Bool) (w : World) (hr : Rd w B0 A b.length (fun k => .int .u8 (bu (b.getD k false)))) (hB0 : B0 ≤ w.heap.size) (hb : b.length ≤ 1100000) :
    Calls Tryz.prog 16 #[.slice A b.length c] w fun e w' => e = .returned (.string (packS b)) ∧ Below w.heap.size w w' := by
  obtain ⟨i0, hi, hz0, hz1, hz2⟩ := info_parts u8_info
  obtain ⟨m, hm⟩ : ∃ m, m = (b.length + 7) / 8 := ⟨_, rfl⟩
  obtain ⟨L, hL⟩ : ∃ L, L = b.length := ⟨_, rfl⟩
  have hmL : ((L : Int) + 7) / 8 = m := by omega
  have hm8 : L ≤ 8 * m := by omega
  have hmb : m ≤ 200000 := by omega
  have hmk := run_make_one (P := Tryz.prog) 38 5 i0 (.int .u8 0) Tryz.underlying38 hi hz0 hz1 rfl m (by rw [hz2]; omega) (by omega) w
  have ho := World.ownsRow_lit (base := w.heap.size) (e := 5) (size := 1) w (Array.replicate m (.int .u8 0)) m (Nat.le_refl _) (by unfold maxLen; omega) (by simp)
  have hbl := (Below.refl w.heap.size w).alloc (Nat.le_refl _) (.cells (Array.replicate m (.int .u8 0)) 5)
  have e0 : (Array.replicate m (Value.int .u8 0)).toList = bytesV (b.take 0) m := by
    rw [Array.toList_replicate]
    apply List.ext_getElem
    · simp [bytesV]
    · intro k h1 h2
      simp only [bytesV, List.getElem_map, List.getElem_range, List.getElem_replicate, List.take_zero]
      rw [byteOf_past _ _ (by simp)]
      rfl
  rw [e0] at ho
  obtain ⟨w1, hw1⟩ : ∃ w1, w1 = w.alloc (.cells (Array.replicate m (.int .u8 0)) 5) := ⟨_, rfl⟩
  rw [← hw1] at hmk ho hbl
  rw [← hL] at hr hb ⊢
  have HM := Lib.hid hm
  have HO := Lib.hid ho
  have HB := Lib.hid hbl
  have HR := Lib.hid (hr.more hB0)
  have HL := Lib.hid hL
  clear hw1 ho hbl e0 hr hL hm hB0
  go_enter Tryz.func16, Tryz.ntmps16
  go_wp2_with fail
  clear hmk hmL
  go_loopw [4] (fun t wr => ∃ i : Nat, i ≤ L ∧ t = .int .i64 i ∧ wr.ownsRow w.heap.size 5 1 (.slice (some ⟨w.heap.size, 0, none⟩) m m) m (bytesV (b.take i) m) ∧ Below w.heap.size w wr) (fun t _ => L - (intOf t).toNat)
  case atStart => exact ⟨0, Nat.zero_le _, rfl, HO.out, HB.out⟩
  case round =>
    clear HO HB
    obtain ⟨i, hi', rfl, ho, hbl⟩ := hrel
    have HO := Lib.hid ho
    have HB := Lib.hid hbl
    by_cases hlt : i < L
    · have hrr := Rd.below HR.out hbl (Nat.le_refl _)
      obtain ⟨ad, rfl, had, hc⟩ := hrr.at_ hlt
      have hiL : i < b.length := by have := HL.out; omega
      by_cases h1 : b.getD i false = true
      · rw [h1] at hc
        have hc : wr.cell? (ad.add i) = some (.int .u8 1) := hc
        obtain ⟨q, hq⟩ : ∃ q, q = i / 8 := ⟨_, rfl⟩
        obtain ⟨r, hr⟩ : ∃ r : Nat, (i : Int).tmod 8 = r := ⟨i % 8, by rw [Int.tmod_eq_emod_of_nonneg (by omega)]; omega⟩
        have hri : r = i % 8 := by rw [Int.tmod_eq_emod_of_nonneg (by omega)] at hr; omega
        have hr8 : r < 8 := by omega
        have hqi : (i : Int).tdiv 8 = q := by rw [Int.tdiv_eq_ediv_of_nonneg (by omega)]; omega
        have hqm : q < m := by omega
        have hqw : IntKind.i64.wrap (q : Int) = q := wr_in (by omega)
        have hqm2 : (q : Int) < m := by omega
        have hr0 : (0 : Int) ≤ r := Int.natCast_nonneg _
        have c1 : wr.cell? ⟨w.heap.size, q, none⟩ = some (.int .u8 (byteOf (b.take i) q)) := by
          rw [ho.cellAt q (by omega)]
          simp [bytesV, hqm]
        have f1 := ho.frozenAt q
        have hz := byteOf_take_one b i hiL h1
        rw [← hq, ← hri] at hz
        have hsh : (128 : Int) / 2 ^ r = ((2 ^ (7 - r) : Nat) : Int) := by
          rcases (by omega : r = 0 ∨ r = 1 ∨ r = 2 ∨ r = 3 ∨ r = 4 ∨ r = 5 ∨ r = 6 ∨ r = 7) with h | h | h | h | h | h | h | h <;> rw [h] <;> decide
        have hsh2 : (128 : Int) / 2 ^ min r 8 = ((2 ^ (7 - r) : Nat) : Int) := by rw [Nat.min_eq_left (by omega)]; exact hsh
        generalize 2 ^ (7 - r) = P at *
        have hst := bytesV_take b i m hiL (by omega)
        rw [← hq] at hst
        have HS := Lib.hid hst
        have HZ := Lib.hid hz
        have HQ := Lib.hid hq
        have HI := Lib.hid hiL
        obtain ⟨y, hy⟩ : ∃ y : Int, y = (byteOf (b.take i) q : Int) := ⟨_, rfl⟩
        rw [← hy] at c1
        have HY := Lib.hid hy
        clear ho hbl hrr had hst hri hz hq h1 hiL hy
        go_wp2_with fail
        refine wp_region_still_tail 13 (by kernel_rfl) (by kernel_rfl) ?_
        simp only [List.take_succ_cons, List.take_zero, List.drop_succ_cons, List.drop_zero]
        change wpStill _ _ (World.drew _) (fun a' => wpList _ _ _ _ a' (World.drew _)) _ _
        repeat still_step
        refine wpStill_nil ?_
        change wpList _ _ _ _ _ (World.drew _)
        go_wp2
        go_roundw
        case rel =>
          refine ⟨i + 1, by omega, by go_num, ?_, (HB.out.setCell (Nat.le_refl _) _).drew⟩
          have h2 := (HO.out.stored q (.int .u8 (bits .or .u8 y P))).1
          rw [HY.out, HZ.out, HS.out] at h2
          rw [HY.out, HZ.out]
          exact own_drew h2
        case measure => simp [intOf]; omega
      · have h0 : b.getD i false = false := by simpa using h1
        rw [h0] at hc
        have hc : wr.cell? (ad.add i) = some (.int .u8 0) := hc
        have hst : bytesV (b.take (i + 1)) m = bytesV (b.take i) m := by
          unfold bytesV
          apply List.map_congr_left
          intro k _
          rw [byteOf_take_nought b i k hiL h0]
        have HS := Lib.hid hst
        clear ho hbl hrr had h1 h0 hst hiL
        go_wp2
        go_roundw
        case rel => exact ⟨i + 1, by omega, by go_num, by rw [HS.out]; exact HO.out, HB.out⟩
        case measure => simp [intOf]; omega
    · obtain rfl : i = L := by omega
      have hr2 : Rd wr wr.heap.size (some ⟨w.heap.size, 0, none⟩) m (fun k => .int .u8 (byteOf b k)) := by
        obtain ⟨A2, c2, hv2, _, _, hr⟩ := Rd.of_own ho
        have hA2 : A2 = some ⟨w.heap.size, 0, none⟩ := by injection hv2 with h _ _; exact h.symm
        rw [hA2] at hr
        refine hr.congr fun k hk => ?_
        simp [bytesV, List.getD_eq_getElem?_getD, hk]
        rw [List.take_of_length_le (by rw [HL.out]; exact Nat.le_refl _)]
      have e1 : (convert 38 9 (.slice (some ⟨w.heap.size, 0, none⟩) m m)).run Tryz.prog wr = .ok (.string (packS b)) wr := by
        have := run_str (P := Tryz.prog) (c := m) Tryz.underlying38 Tryz.underlying5 Tryz.underlying9 hr2
        rw [this]
        unfold packS
        rw [← HM.out]
      obtain ⟨S, hS⟩ : ∃ S, packS b = S := ⟨_, rfl⟩
      rw [hS] at e1
      have HPS := Lib.hid hS
      clear hS
      clear ho hbl hr2
      go_wp2
      go_ret
      exact ⟨by rw [HPS.out]; rfl, HB.out⟩
end Go.Proofs.YtjokibagciehlaaGreat
