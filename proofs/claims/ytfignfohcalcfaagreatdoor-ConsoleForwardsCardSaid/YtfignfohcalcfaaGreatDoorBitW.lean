/- The program's Writer: what it holds; put. -/
import Derived.Test.YtfignfohcalcfaaGreatDoorBitP
import Derived.Test.YtfignfohcalcfaaGreatDoorAppend
import Derived.Test.YtfignfohcalcfaaGreatDoorSep
import Derived.Laws.LoneSync
import Derived.StillTailTactics
namespace Go.Proofs.YtfignfohcalcfaaGreatDoor
open Go.RowKit
set_option linter.unusedVariables false
set_option linter.unusedSimpArgs false

theorem u8_info : (Tryz.prog.info? 5).map (fun i => (i.zero, i.size, i.bytes)) = some (some (.int .u8 0), 1, 1) := by kernel_rfl

theorem or_u8 (a b : Nat) (ha : a < 256) (hb : b < 256) : bits .or .u8 (a : Int) (b : Int) = ((a ||| b : Nat) : Int) := by
  show IntKind.u8.wrap ((BitVec.ofInt 8 (a : Int) ||| BitVec.ofInt 8 (b : Int)).toNat : Int) = _
  rw [BitVec.toNat_or, BitVec.ofInt_natCast, BitVec.ofInt_natCast, BitVec.toNat_ofNat, BitVec.toNat_ofNat, Nat.mod_eq_of_lt (show a < 2 ^ 8 from ha), Nat.mod_eq_of_lt (show b < 2 ^ 8 from hb), u8_wrap]
  have : a ||| b < 2 ^ 8 := Nat.or_lt_two_pow ha hb
  omega
theorem and1_u64 (a : Nat) (ha : a < 18446744073709551616) : bits .and .u64 (a : Int) 1 = ((a % 2 : Nat) : Int) := by
  show IntKind.u64.wrap ((BitVec.ofInt 64 (a : Int) &&& BitVec.ofInt 64 1).toNat : Int) = _
  rw [BitVec.toNat_and, BitVec.ofInt_natCast, BitVec.toNat_ofNat, Nat.mod_eq_of_lt (show a < 2 ^ 64 from ha)]
  rw [show (BitVec.ofInt 64 1).toNat = 1 from by decide, Nat.and_one_is_mod, u64_wrap]
  omega
theorem bit_u64 (x i : Nat) (hx : x < 18446744073709551616) (hi : i ≤ 64) : bits .and .u64 ((x : Int) / 2 ^ min i 64) 1 = (((x.testBit i).toNat : Nat) : Int) := by
  rw [Nat.min_eq_left hi]
  have e : (x : Int) / 2 ^ i = ((x / 2 ^ i : Nat) : Int) := by simp
  rw [e, and1_u64 _ (Nat.lt_of_le_of_lt (Nat.div_le_self _ _) hx), Nat.testBit_eq_decide_div_mod_eq]
  have : x / 2 ^ i % 2 = 0 ∨ x / 2 ^ i % 2 = 1 := by omega
  rcases this with h | h <;> simp [h]

/-- the first m bytes of bits -/
def bytesV (b : List Bool) (m : Nat) : List Value := (List.range m).map fun i => .int .u8 (byteOf b i)
/-- a Writer that holds bits: block g, its bytes in v -/
def Wm (w : World) (base g : Nat) (v : Value) (b : List Bool) (m : Nat) (c : Int) : Prop :=
  Bk w g 76 #[v, .int .i64 b.length, .int .i64 c] ∧ w.ownsRow base 5 1 v m (bytesV b m)
def Wr (w : World) (base g : Nat) (v : Value) (b : List Bool) : Prop := ∃ c : Int, Wm w base g v b ((b.length + 7) / 8) c
/-- what a call of a Writer may turn -/
def WS (g : Nat) (v : Value) (k : Nat) : Prop := k = g ∨ v.ownBlock = some k
def New (w : World) (v v' : Value) : Prop := v'.ownBlock = v.ownBlock ∨ ∃ k, v'.ownBlock = some k ∧ w.heap.size ≤ k

theorem New.step {w wr : World} {v v' v1 : Value} (h : New w v v') (hs : w.heap.size ≤ wr.heap.size) (k : New wr v' v1) : New w v v1 := by
  rcases k with k | ⟨j, k, hj⟩
  · rcases h with h | ⟨i, h, hi⟩
    · exact .inl (k.trans h)
    · exact .inr ⟨i, k.trans h, hi⟩
  · exact .inr ⟨j, k, by omega⟩
theorem ws_new {w : World} {g : Nat} {v v' : Value} (h : New w v v') {k : Nat} (hk : k < w.heap.size) (hs : WS g v' k) : WS g v k := by
  rcases hs with hs | hs
  · exact .inl hs
  · rcases h with h | ⟨i, h, hi⟩
    · exact .inr (h.symm.trans hs)
    · rw [h] at hs
      have : i = k := by injection hs
      omega
theorem Touch.ws {w wr w1 : World} {g : Nat} {v v' : Value} (h : Touch (WS g v) w wr) (hn : New w v v') (k : Touch (WS g v') wr w1) : Touch (WS g v) w w1 :=
  h.old k fun i hi hs => ws_new hn hi hs
theorem bytesV_snoc (b : List Bool) (m : Nat) : bytesV b (m + 1) = bytesV b m ++ [.int .u8 (byteOf b m)] := range_snoc _ _
theorem bytesV_push (b : List Bool) (x : Bool) (q : Nat) (hq : q = b.length / 8) : (bytesV b (q + 1)).set q (.int .u8 (byteOf (b ++ [x]) q)) = bytesV (b ++ [x]) (q + 1) := by
  rw [bytesV_snoc, bytesV_snoc]
  have hl : (bytesV b q).length = q := by simp [bytesV]
  have e : bytesV b q = bytesV (b ++ [x]) q := by
    unfold bytesV
    apply List.map_congr_left
    intro i hi
    have := List.mem_range.1 hi
    rw [byteOf_far _ _ _ (by omega)]
  rw [List.set_append_right _ _ (by omega), hl, Nat.sub_self, e]
  rfl

theorem Wm.bit {wr : World} {base g A cap q L t s : Nat} {B : List Bool} {bit : Bool} {c : Int} (hk : Bk wr g 76 #[.slice (some ⟨A, 0, none⟩) (q + 1) cap, .int .i64 L, .int .i64 c])
    (ho : wr.ownsRow base 5 1 (.slice (some ⟨A, 0, none⟩) (q + 1) cap) (q + 1) (bytesV B (q + 1))) (hL : L = B.length) (hq : q = L / 8) (hs : s = 7 - L % 8) (ht : t = bit.toNat) :
    Wm ((wr.setCell ⟨A, q, none⟩ (.int .u8 (bits .or .u8 (byteOf B q) (t * 2 ^ s % 256)))).setCell ⟨g, 1, none⟩ (.int .i64 (L + 1))).drew base g (.slice (some ⟨A, 0, none⟩) (q + 1) cap) (B ++ [bit]) (((B ++ [bit]).length + 7) / 8) c := by
  have hne := hk.ne_own ho (by decide)
  have hAg : A ≠ g := fun e => hne (by simp [Value.ownBlock, e])
  have hbv : bits .or .u8 (byteOf B q : Int) ((t : Int) * 2 ^ s % 256) = (byteOf (B ++ [bit]) q : Int) := by
    have h1 : ((t : Int) * 2 ^ s % 256) = ((bv bit (2 ^ s) : Nat) : Int) := by
      have hs8 : s = 0 ∨ s = 1 ∨ s = 2 ∨ s = 3 ∨ s = 4 ∨ s = 5 ∨ s = 6 ∨ s = 7 := by omega
      subst ht
      rcases hs8 with h | h | h | h | h | h | h | h <;> rw [h] <;> cases bit <;> decide
    have h2 : bv bit (2 ^ s) < 256 := Nat.lt_of_le_of_lt (bv_le _ _) (show 2 ^ s < 2 ^ 8 from Nat.pow_lt_pow_right (by omega) (by omega))
    rw [h1, or_u8 _ _ (byteOf_lt _ _) h2, hq, hL, byteOf_push, hs, hL]
  rw [hbv]
  refine ⟨?_, ?_⟩
  · have h1 := ((hk.far (p := ⟨A, q, none⟩) (fun e => hAg e.symm) (.int .u8 (byteOf (B ++ [bit]) q : Int))).set_ 1 (.int .i64 (L + 1))).drew
    have e : ((L : Int) + 1) = ((B ++ [bit]).length : Int) := by rw [hL]; simp
    rw [e] at h1 ⊢
    exact h1
  · have h2 := (ho.stored q (.int .u8 (byteOf (B ++ [bit]) q : Int))).1
    rw [bytesV_push _ _ _ (by rw [hq, hL])] at h2
    have hm : ((B ++ [bit]).length + 7) / 8 = q + 1 := by simp; omega
    rw [hm]
    exact own_drew (own_setFar h2 (by simp [Value.ownBlock, hAg]) _)

theorem atom_add (w : World) (g : Nat) (c : Int) (h : w.cell? ⟨g, 2, none⟩ = some (.int .i64 c)) (hf : w.frozen? ⟨g, 2, none⟩ = false) :
    (callFunc 65 #[.pointer (some ⟨g, 2, none⟩), .int .i64 1]).run Tryz.prog w = .ok (.value (.int .i64 (wrap64 (c + 1)))) (w.setCell ⟨g, 2, none⟩ (.int .i64 (wrap64 (c + 1)))) :=
  run_call_add (P := Tryz.prog) Tryz.func65 (by kernel_rfl) (by kernel_rfl) (by kernel_rfl) .i64 (by kernel_rfl) h hf (by simp [go_sem, wrap64, IntKind.wrap_i64])
theorem add_any (w : World) (g : Nat) (c : Int) (h : w.cell? ⟨g, 2, none⟩ = some (.int .i64 c)) (hf : w.frozen? ⟨g, 2, none⟩ = false) :
    Calls Tryz.prog 37 #[.pointer (some ⟨g, 2, none⟩), .int .i64 1] w fun e w' => e = .returned (.int .i64 (wrap64 (c + 1))) ∧ w.setCell ⟨g, 2, none⟩ (.int .i64 (wrap64 (c + 1))) = w' := by
  have hadd := atom_add w g c h hf
  clear h hf
  go_enter Tryz.func37, Tryz.ntmps37
  go_wp2
  go_ret
  exact ⟨rfl, rfl⟩

def PutPost (w : World) (base g : Nat) (v : Value) (b : List Bool) (w' : World) : Prop := ∃ v', Wr w' base g v' b ∧ Touch (WS g v) w w' ∧ New w v v'

set_option maxRecDepth 100000 in
set_option maxHeartbeats 3200000 in
theorem put_any (base g : Nat) (v : Value) (b : List Bool) (x n : Nat) (w : World) (h : Wr w base g v b) (hb : b.length ≤ 1000000) (hn : n ≤ 64) (hx : x < 18446744073709551616) (hbs : base ≤ w.heap.size) :
    Calls Tryz.prog 25 #[.pointer (some ⟨g, 0, none⟩), .int .u64 x, .int .i64 n] w fun e w' => e = .returned (.tuple #[]) ∧ PutPost w base g v (b ++ dig x n) w' := by
  obtain ⟨c, hk, hown⟩ := h
  obtain ⟨i0, hi, hz0, hz1, hz2⟩ := info_parts u8_info
  have hadd := Lib.hid (add_any w g c (hk.cell 2) (hk.frozen 2))
  have HK := Lib.hid hk
  have HO := Lib.hid hown
  have HX := Lib.hid hx
  have HBS := Lib.hid hbs
  clear hk hown hx hbs
  go_enter Tryz.func25, Tryz.ntmps25
  go_wp2_with fail
  refine hadd.out.mono ?_
  rintro e w1 ⟨rfl, hw1⟩
  obtain ⟨c', hc'⟩ : ∃ c', c' = wrap64 (c + 1) := ⟨_, rfl⟩
  rw [← hc'] at hw1
  have hk1 : Bk w1 g 76 #[v, .int .i64 b.length, .int .i64 c'] := by rw [← hw1]; exact HK.out.set_ 2 _
  have ho1 : w1.ownsRow base 5 1 v ((b.length + 7) / 8) (bytesV b ((b.length + 7) / 8)) := by rw [← hw1]; exact own_setFar HO.out (HK.out.ne_own HO.out (by decide)) _
  have ht1 : Touch (WS g v) w w1 := by rw [← hw1]; exact (Touch.refl _ _).setCell (fun _ => .inl rfl) _
  have H1 := Lib.hid (show Wm w1 base g v b ((b.length + 7) / 8) c' from ⟨hk1, ho1⟩)
  have HT1 := Lib.hid ht1
  clear hadd hc' hw1 hk1 ho1 ht1
  go_wp2_with fail
  go_loopw [6] (fun t wr => ∃ (j : Nat) (v' : Value) (B : List Bool), j ≤ n ∧ B = b ++ (dig x n).take j ∧ t = .int .i64 ((n : Int) - 1 - j) ∧ Wm wr base g v' B ((B.length + 7) / 8) c' ∧ Touch (WS g v) w wr ∧ New w v v') (fun t _ => (intOf t + 1).toNat)
  case atStart => exact ⟨0, v, b, Nat.zero_le _, by simp, by go_num, H1.out, HT1.out, .inl rfl⟩
  case round =>
    clear H1 HT1
    obtain ⟨j, v', B, hj, hB, rfl, ⟨hk, hown⟩, ht, hnw⟩ := hrel
    have hBl : B.length = b.length + j := by rw [hB]; simp [dig_len]; omega
    by_cases hlt : j < n
    · obtain ⟨i, hi'⟩ : ∃ i : Nat, (n : Int) - 1 - j = i := ⟨n - 1 - j, by omega⟩
      have hB' : B ++ [x.testBit i] = b ++ (dig x n).take (j + 1) := by
        rw [hB, List.append_assoc, List.take_add_one]
        congr 2
        have hd := dig_get x n j hlt
        rw [List.getD_eq_getElem?_getD, List.getElem?_eq_getElem (by rw [dig_len]; exact hlt)] at hd
        rw [List.getElem?_eq_getElem (by rw [dig_len]; exact hlt)]
        simp only [Option.getD_some] at hd
        rw [hd, show i = n - 1 - j by omega]
        rfl
      rw [hi']
      have hin : i < n := by omega
      have HB := Lib.hid hB'
      have HI := Lib.hid hi'
      have hL : B.length ≤ 1001000 := by omega
      clear hB hB' hi' hBl
      obtain ⟨L, hLL⟩ : ∃ L, L = B.length := ⟨_, rfl⟩
      rw [← hLL] at hk hL hown
      have HT := Lib.hid ht
      have HN := Lib.hid hnw
      have HLL := Lib.hid hLL
      clear hLL ht hnw
      obtain ⟨q, hq⟩ : ∃ q, q = L / 8 := ⟨_, rfl⟩
      obtain ⟨r, hr⟩ : ∃ r : Nat, (L : Int) % 8 = r := ⟨L % 8, by omega⟩
      obtain ⟨s, hs⟩ : ∃ s : Nat, s = 7 - r := ⟨_, rfl⟩
      have hr8 : r < 8 := by omega
      have hs8 : s < 8 := by omega
      have hr2 : (L : Int).tmod 8 = r := by rw [Int.tmod_eq_emod_of_nonneg (by omega)]; exact hr
      obtain ⟨t, ht⟩ : ∃ t, t = (x.testBit i).toNat := ⟨_, rfl⟩
      have ht1 : t ≤ 1 := by rw [ht]; cases x.testBit i <;> simp
      have e4 : bits .and .u64 ((x : Int) / 2 ^ min i 64) 1 = t := by rw [ht]; exact bit_u64 x i HX.out (by omega)
      have e6 : bits .and .u64 ((x : Int) / 2 ^ i) 1 = t := by rw [← e4, Nat.min_eq_left (by omega)]
      have e5 : IntKind.u8.wrap (t : Int) = t := by rw [u8_wrap]; omega
      have e1 : IntKind.i64.wrap (7 - (r : Int)) = s := by rw [wr_in (by omega)]; omega
      have e2 : IntKind.i64.wrap (q : Int) = q := wr_in (by omega)
      have hqL : q ≤ 1000000 := by omega
      have hsr : s = 7 - L % 8 := by omega
      have e3 : (q : Int) < (q : Int) + 1 := by omega
      have i0' : (0 : Int) ≤ (i : Int) := Int.natCast_nonneg _
      have s0 : (0 : Int) ≤ (s : Int) := Int.natCast_nonneg _
      have HTT := Lib.hid ht
      have HQ := Lib.hid hq
      have HS := Lib.hid hsr
      clear hs hsr ht
      by_cases h8 : L % 8 = 0
      · have h8' : ((r : Int) == 0) = true := by simp; omega
        have hm : (L + 7) / 8 = q := by omega
        rw [hm] at hown
        have HK := Lib.hid hk
        have HO := Lib.hid hown
        have c0 : wr.cell? ⟨g, 0, none⟩ = some v' := hk.cell 0
        have c1 : wr.cell? ⟨g, 1, none⟩ = some (.int .i64 L) := hk.cell 1
        have f0 := hk.frozen 0
        have f1 := hk.frozen 1
        have hbs1 := HT.out.size
        have hz8 : byteOf B q = 0 := byteOf_past B q (by rw [← HLL.out]; omega)
        have HZ8 := Lib.hid hz8
        clear hk hown hm h8 hq hz8
        go_wp2_with (at_builtin; refine wpList_append_own_at (P := Tryz.prog) _ rfl _ _ 61 rfl base 5 i0 (.int .u8 0) 1 1 Tryz.underlying61 hi hz0 hz1 hz2 rfl (by decide) _ q (bytesV B q) rfl (HO.out.alloc _) ⟨wr.heap.size, 0, none⟩ 1 1 [.int .u8 0] rfl rfl ?c1 ?c2 (by unfold maxLen; omega) (by omega) (by have := HBS.out; simp; omega) ?_)
        case c1 =>
          intro j u hj
          rw [add_new]
          match j, hj with
          | 0, hj => simp at hj; subst hj; simp
        case c2 => intro u hu; simp at hu; subst hu; rfl
        intro v1 w2 hown2 hg2 _ hat
        have hk2 : Bk w2 g 76 #[v', .int .i64 L, .int .i64 c'] := (HK.out.alloc _).grown hg2 (fun e => HK.out.ne_own HO.out (by decide) e.symm)
        have hnw2 : New wr v' v1 := by
          rcases hat with h | h
          · exact .inl h
          · exact .inr ⟨_, h, by simp⟩
        have ht2 : Touch (WS g v') wr w2 := ((Touch.refl _ _).alloc _).grown hg2 (fun k e _ => .inr e)
        have hz8 := HZ8.out
        rw [show bytesV B q ++ [Value.int .u8 0] = bytesV B (q + 1) by rw [bytesV_snoc, hz8]; rfl] at hown2
        have ht3 := HT.out.ws HN.out ht2
        have hn3 := HN.out.step HT.out.size hnw2
        obtain ⟨A, cap, rfl, hnc, hcm, -, hAl⟩ := own_form hown2 (by omega)
        have hne := hk2.ne_own hown2 (by decide)
        have hAg : A ≠ g := fun e => hne (by simp [Value.ownBlock, e])
        clear c0 c1 f0 f1 hg2 hat hnw2 ht2 hz8 HZ8 HT HN HK HO hne
        have f0 := hk2.frozen 0
        have c0 : w2.cell? ⟨g, 0, none⟩ = some v' := hk2.cell 0
        have HK := Lib.hid (hk2.set_ 0 (.slice (some ⟨A, 0, none⟩) (q + 1) cap))
        have HO := Lib.hid (own_setFar hown2 (p := ⟨g, 0, none⟩) (by simp [Value.ownBlock, hAg]) (.slice (some ⟨A, 0, none⟩) (q + 1) cap))
        have HT := Lib.hid (ht3.setCell (p := ⟨g, 0, none⟩) (fun _ => .inl rfl) (.slice (some ⟨A, 0, none⟩) (q + 1) cap))
        have HN := Lib.hid hn3
        clear hk2 hown2 ht3 hn3
        go_wp2_with fail
        obtain ⟨wz, hwz⟩ : ∃ wz, wz = w2.setCell ⟨g, 0, none⟩ (.slice (some ⟨A, 0, none⟩) (q + 1) cap) := ⟨_, rfl⟩
        rw [← hwz] at HK HO HT ⊢
        have HK2 : Hid (Bk wz g 76 #[.slice (some ⟨A, 0, none⟩) (q + 1) cap, .int .i64 L, .int .i64 c']) := Lib.hid HK.out
        clear hwz HK
        have c0 : wz.cell? ⟨g, 0, none⟩ = some (.slice (some ⟨A, 0, none⟩) (q + 1) cap) := HK2.out.cell 0
        have c1 : wz.cell? ⟨g, 1, none⟩ = some (.int .i64 L) := HK2.out.cell 1
        have f1 := HK2.out.frozen 1
        have c2 : wz.cell? ⟨A, q, none⟩ = some (.int .u8 (byteOf B q)) := by
          rw [HO.out.cellAt q (by omega)]
          simp [bytesV]
        have f2 : wz.frozen? ⟨A, q, none⟩ = false := HO.out.frozenAt q
        have hAg : ¬ A = g := fun e => HK2.out.ne_own HO.out (by decide) (by simp [Value.ownBlock, e])
        refine wp_region_still_tail 26 (by kernel_rfl) (by kernel_rfl) ?_
        simp only [List.take_succ_cons, List.take_zero, List.drop_succ_cons, List.drop_zero]
        change wpStill _ _ (World.drew _) (fun a' => wpList _ _ _ _ a' (World.drew _)) _ _
        repeat still_step
        refine wpStill_nil ?_
        change wpList _ _ _ _ _ (World.drew _)
        go_wp2
        go_roundw
        case rel =>
          refine ⟨j + 1, .slice (some ⟨A, 0, none⟩) (q + 1) cap, B ++ [x.testBit i], by omega, HB.out, by have := HI.out; congr 1; omega, Wm.bit HK2.out HO.out HLL.out HQ.out HS.out HTT.out, ?_, HN.out⟩
          exact ((HT.out.setCell (p := ⟨A, q, none⟩) (fun hk => ws_new HN.out hk (.inr rfl)) _).setCell (p := ⟨g, 1, none⟩) (fun _ => .inl rfl) _).drew
        case measure => simp [intOf]
      · have h8' : ((r : Int) == 0) = false := by simp; omega
        have hm : (L + 7) / 8 = q + 1 := by omega
        rw [hm] at hown
        have HK := Lib.hid hk
        have HO := Lib.hid hown
        have c0 : wr.cell? ⟨g, 0, none⟩ = some v' := hk.cell 0
        have c1 : wr.cell? ⟨g, 1, none⟩ = some (.int .i64 L) := hk.cell 1
        have f0 := hk.frozen 0
        have f1 := hk.frozen 1
        have hbs1 := HT.out.size
        skip
        skip
        clear hk hown hm h8 hq 
        obtain ⟨A, cap, rfl, hnc, hcm, -, hAl⟩ := own_form HO.out (by omega)
        obtain ⟨wz, hwz⟩ : ∃ wz, wz = wr := ⟨_, rfl⟩
        subst hwz
        have HK2 : Hid (Bk wz g 76 #[.slice (some ⟨A, 0, none⟩) (q + 1) cap, .int .i64 L, .int .i64 c']) := Lib.hid HK.out
        clear c0 f0 f1 HK
        go_wp2_with fail
        clear c1
        have c0 : wz.cell? ⟨g, 0, none⟩ = some (.slice (some ⟨A, 0, none⟩) (q + 1) cap) := HK2.out.cell 0
        have c1 : wz.cell? ⟨g, 1, none⟩ = some (.int .i64 L) := HK2.out.cell 1
        have f1 := HK2.out.frozen 1
        have c2 : wz.cell? ⟨A, q, none⟩ = some (.int .u8 (byteOf B q)) := by
          rw [HO.out.cellAt q (by omega)]
          simp [bytesV]
        have f2 : wz.frozen? ⟨A, q, none⟩ = false := HO.out.frozenAt q
        have hAg : ¬ A = g := fun e => HK2.out.ne_own HO.out (by decide) (by simp [Value.ownBlock, e])
        refine wp_region_still_tail 26 (by kernel_rfl) (by kernel_rfl) ?_
        simp only [List.take_succ_cons, List.take_zero, List.drop_succ_cons, List.drop_zero]
        change wpStill _ _ (World.drew _) (fun a' => wpList _ _ _ _ a' (World.drew _)) _ _
        repeat still_step
        refine wpStill_nil ?_
        change wpList _ _ _ _ _ (World.drew _)
        go_wp2
        go_roundw
        case rel =>
          refine ⟨j + 1, .slice (some ⟨A, 0, none⟩) (q + 1) cap, B ++ [x.testBit i], by omega, HB.out, by have := HI.out; congr 1; omega, Wm.bit HK2.out HO.out HLL.out HQ.out HS.out HTT.out, ?_, HN.out⟩
          exact ((HT.out.setCell (p := ⟨A, q, none⟩) (fun hk => ws_new HN.out hk (.inr rfl)) _).setCell (p := ⟨g, 1, none⟩) (fun _ => .inl rfl) _).drew
        case measure => simp [intOf]
    · obtain rfl : j = n := by omega
      have hB2 : B = b ++ dig x j := by rw [hB, List.take_of_length_le (by rw [dig_len]; exact Nat.le_refl _)]
      have e0 : (j : Int) - 1 - j = -1 := by omega
      rw [e0]
      have HK := Lib.hid hk
      have HO := Lib.hid hown
      have HT := Lib.hid ht
      have HN := Lib.hid hnw
      have HB := Lib.hid hB2
      clear hB hB2 e0 hk hown ht hnw hBl
      go_wp2_with fail
      go_end0
      exact ⟨rfl, v', by rw [← HB.out]; exact ⟨c', HK.out, HO.out⟩, HT.out, HN.out⟩
end Go.Proofs.YtfignfohcalcfaaGreatDoor
