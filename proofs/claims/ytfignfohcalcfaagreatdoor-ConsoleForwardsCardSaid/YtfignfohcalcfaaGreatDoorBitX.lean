/- The program's Writer: its calls. -/
import Derived.Test.YtfignfohcalcfaaGreatDoorBitW
import Derived.Test.YtfignfohcalcfaaGreatDoorStr
import Derived.Deep.CutBlock
namespace Go.Proofs.YtfignfohcalcfaaGreatDoor
open Go.RowKit
set_option linter.unusedVariables false
set_option linter.unusedSimpArgs false

theorem PutPost.same {w : World} {base g : Nat} {v : Value} {b : List Bool} (h : Wr w base g v b) : PutPost w base g v b w := ⟨v, h, Touch.refl _ _, .inl rfl⟩

theorem u64_in {x : Int} (h : 0 ≤ x ∧ x < 18446744073709551616) : IntKind.u64.wrap x = x := by rw [u64_wrap]; omega

/-- the table of lengths -/
structure Lens (T : ByteArray) : Prop where
  size : T.size = 256
  get : ∀ i : Fin 256, 0 < i.val → (T.data[i.val]?.map UInt8.toNat) = some (lg i.val + 1)
theorem Lens.at_ {T : ByteArray} (h : Lens T) (y : Nat) (hy : 0 < y) (hl : y < T.size) : (T[y]'hl).toNat = lg y + 1 := by
  have := h.get ⟨y, by have := h.size; omega⟩ hy
  simp only at this
  rw [Array.getElem?_eq_getElem (by exact hl)] at this
  exact Option.some.inj this
theorem lg_down (x k : Nat) (h : 2 ^ k ≤ x) : lg x = lg (x / 2 ^ k) + k := by
  induction k with
  | zero => simp
  | succ k ih =>
    have h1 : 2 ^ k ≤ x := Nat.le_trans (Nat.pow_le_pow_right (by omega) (by omega)) h
    have h2 : 2 ≤ x / 2 ^ k := by rw [Nat.le_div_iff_mul_le (Nat.two_pow_pos k), Nat.mul_comm, ← Nat.pow_succ]; exact h
    rw [ih h1, lg_half _ h2, Nat.div_div_eq_div_mul, ← Nat.pow_succ, Nat.add_assoc, Nat.add_comm 1 k]
theorem lg_lt_of (x k : Nat) (h : x < 2 ^ k) (hk : 0 < k) : lg x < k := by
  have := lg_le x (k - 1) (by rw [Nat.sub_add_cancel hk]; exact h)
  omega

set_option maxRecDepth 100000 in
set_option maxHeartbeats 1600000 in
theorem len64_0 (x : Int) (w : World) (hx : 0 ≤ x) (h : x < 256) (hp : 0 < x) :
    Calls Tryz.prog 39 #[.int .u64 x] w fun e w' => e = .returned (.int .i64 ((lg x.toNat + 1 : Nat) : Int)) ∧ w = w' := by
  go_enter Tryz.func39, Tryz.ntmps39
  go_upto_region 10 with (fail)
  generalize hT : ByteArray.mk _ = T
  have hL : Lens T := by rw [← hT]; exact ⟨by decide +kernel, by decide +kernel⟩
  have hsz := hL.size
  have HL := Lib.hid hL
  clear hT hL
  go_wp2_with fail
  go_ret
  refine ⟨ret_int ?_, rfl⟩
  have hs := HL.out.size
  have hy : x = (x.toNat / 1 : Nat) := by omega
  have hl := lg_down x.toNat 0 (by omega)
  have hb := lg_lt_of x.toNat 32 (by omega) (by omega)
  have hm := HL.out.at_ (x).toNat (by omega) (by omega)
  rw [hm]
  have he : lg (x).toNat = lg (x.toNat / 2 ^ 0) := by congr 1; omega
  rw [he]
  first | rw [hl] | skip
  rw [hl] at hb
  generalize lg (x.toNat / 2 ^ 0) = m at *
  rw [IntWalk.wrap64_in (((m + 1 : Nat) : Int)) ⟨by omega, by omega⟩, IntWalk.wrap64_in _ ⟨by omega, by omega⟩]
  first | done | omega
set_option maxRecDepth 100000 in
set_option maxHeartbeats 1600000 in
theorem len64_1 (x : Int) (w : World) (hx : 256 ≤ x) (h : x < 65536) (hp : 0 < x) :
    Calls Tryz.prog 39 #[.int .u64 x] w fun e w' => e = .returned (.int .i64 ((lg x.toNat + 1 : Nat) : Int)) ∧ w = w' := by
  go_enter Tryz.func39, Tryz.ntmps39
  go_upto_region 10 with (fail)
  generalize hT : ByteArray.mk _ = T
  have hL : Lens T := by rw [← hT]; exact ⟨by decide +kernel, by decide +kernel⟩
  have hsz := hL.size
  have HL := Lib.hid hL
  clear hT hL
  go_wp2_with fail
  go_ret
  refine ⟨ret_int ?_, rfl⟩
  have hs := HL.out.size
  have hy : x / 256 = (x.toNat / 256 : Nat) := by omega
  have hl := lg_down x.toNat 8 (by omega)
  have hb := lg_lt_of x.toNat 32 (by omega) (by omega)
  have hm := HL.out.at_ (x / 256).toNat (by omega) (by omega)
  rw [hm]
  have he : lg (x / 256).toNat = lg (x.toNat / 2 ^ 8) := by congr 1; omega
  rw [he]
  first | rw [hl] | skip
  rw [hl] at hb
  generalize lg (x.toNat / 2 ^ 8) = m at *
  rw [IntWalk.wrap64_in (((m + 1 : Nat) : Int)) ⟨by omega, by omega⟩, IntWalk.wrap64_in _ ⟨by omega, by omega⟩]
  first | done | omega
set_option maxRecDepth 100000 in
set_option maxHeartbeats 1600000 in
theorem len64_2 (x : Int) (w : World) (hx : 65536 ≤ x) (h : x < 16777216) (hp : 0 < x) :
    Calls Tryz.prog 39 #[.int .u64 x] w fun e w' => e = .returned (.int .i64 ((lg x.toNat + 1 : Nat) : Int)) ∧ w = w' := by
  go_enter Tryz.func39, Tryz.ntmps39
  go_upto_region 10 with (fail)
  generalize hT : ByteArray.mk _ = T
  have hL : Lens T := by rw [← hT]; exact ⟨by decide +kernel, by decide +kernel⟩
  have hsz := hL.size
  have HL := Lib.hid hL
  clear hT hL
  go_wp2_with fail
  go_ret
  refine ⟨ret_int ?_, rfl⟩
  have hs := HL.out.size
  have hy : x / 65536 = (x.toNat / 65536 : Nat) := by omega
  have hl := lg_down x.toNat 16 (by omega)
  have hb := lg_lt_of x.toNat 32 (by omega) (by omega)
  have hm := HL.out.at_ (x / 65536).toNat (by omega) (by omega)
  rw [hm]
  have he : lg (x / 65536).toNat = lg (x.toNat / 2 ^ 16) := by congr 1; omega
  rw [he]
  first | rw [hl] | skip
  rw [hl] at hb
  generalize lg (x.toNat / 2 ^ 16) = m at *
  rw [IntWalk.wrap64_in (((m + 1 : Nat) : Int)) ⟨by omega, by omega⟩, IntWalk.wrap64_in _ ⟨by omega, by omega⟩]
  first | done | omega
set_option maxRecDepth 100000 in
set_option maxHeartbeats 1600000 in
theorem len64_3 (x : Int) (w : World) (hx : 16777216 ≤ x) (h : x < 4294967296) (hp : 0 < x) :
    Calls Tryz.prog 39 #[.int .u64 x] w fun e w' => e = .returned (.int .i64 ((lg x.toNat + 1 : Nat) : Int)) ∧ w = w' := by
  go_enter Tryz.func39, Tryz.ntmps39
  go_upto_region 10 with (fail)
  generalize hT : ByteArray.mk _ = T
  have hL : Lens T := by rw [← hT]; exact ⟨by decide +kernel, by decide +kernel⟩
  have hsz := hL.size
  have HL := Lib.hid hL
  clear hT hL
  go_wp2_with fail
  go_ret
  refine ⟨ret_int ?_, rfl⟩
  have hs := HL.out.size
  have hy : x / 65536 / 256 = (x.toNat / 16777216 : Nat) := by omega
  have hl := lg_down x.toNat 24 (by omega)
  have hb := lg_lt_of x.toNat 32 (by omega) (by omega)
  have hm := HL.out.at_ (x / 65536 / 256).toNat (by omega) (by omega)
  rw [hm]
  have he : lg (x / 65536 / 256).toNat = lg (x.toNat / 2 ^ 24) := by congr 1; omega
  rw [he]
  first | rw [hl] | skip
  rw [hl] at hb
  generalize lg (x.toNat / 2 ^ 24) = m at *
  rw [IntWalk.wrap64_in (((m + 1 : Nat) : Int)) ⟨by omega, by omega⟩, IntWalk.wrap64_in _ ⟨by omega, by omega⟩]
  first | done | omega
theorem len_any (x : Int) (w : World) (hx : 0 < x) (h : x < 4294967296) :
    Calls Tryz.prog 26 #[.int .u64 x] w fun e w' => e = .returned (.int .i64 ((lg x.toNat + 1 : Nat) : Int)) ∧ w = w' := by
  have HC : Hid (Calls Tryz.prog 39 #[.int .u64 x] w fun e w' => e = .returned (.int .i64 ((lg x.toNat + 1 : Nat) : Int)) ∧ w = w') := by
    rcases (by omega : x < 256 ∨ (256 ≤ x ∧ x < 65536) ∨ (65536 ≤ x ∧ x < 16777216) ∨ 16777216 ≤ x) with h1 | h1 | h1 | h1
    · exact Lib.hid (len64_0 x w (by omega) h1 hx)
    · exact Lib.hid (len64_1 x w h1.1 h1.2 hx)
    · exact Lib.hid (len64_2 x w h1.1 h1.2 hx)
    · exact Lib.hid (len64_3 x w h1 h hx)
  go_enter Tryz.func26, Tryz.ntmps26
  go_wp2_with fail
  refine HC.out.mono ?_
  rintro e w' ⟨rfl, rfl⟩
  go_wp2_with fail
  go_ret
  exact ⟨rfl, rfl⟩

theorem ue_no (g : Nat) (x : Int) (w : World) (h : x < 0 ∨ 2147483646 < x) :
    Calls Tryz.prog 12 #[.pointer (some ⟨g, 0, none⟩), .int .i64 x] w fun e w' => e = .returned (.int .i64 101) ∧ w = w' := by
  rcases h with h | h
  · go_enter Tryz.func12, Tryz.ntmps12
    go_wp2_with fail
    go_ret
    exact ⟨rfl, rfl⟩
  · have h0 : ¬ x < 0 := by omega
    go_enter Tryz.func12, Tryz.ntmps12
    go_wp2_with fail
    go_ret
    exact ⟨rfl, rfl⟩

set_option maxRecDepth 100000 in
set_option maxHeartbeats 800000 in
theorem ue_yes (base g : Nat) (v : Value) (b : List Bool) (x : Int) (w : World) (h : Wr w base g v b) (hb : b.length ≤ 1000000) (h0 : 0 ≤ x) (h1 : x ≤ 2147483646) (hbs : base ≤ w.heap.size) :
    Calls Tryz.prog 12 #[.pointer (some ⟨g, 0, none⟩), .int .i64 x] w fun e w' => e = .returned (.int .i64 0) ∧ PutPost w base g v (b ++ ueL x.toNat) w' := by
  obtain ⟨k, hk⟩ : ∃ k, k = lg (x + 1).toNat := ⟨_, rfl⟩
  have hk31 : k < 31 := by rw [hk]; exact lg_lt_of _ _ (by omega) (by omega)
  have hp := put_any base g v b (x + 1).toNat (2 * k + 1) w h hb (by omega) (by omega) hbs
  have e0 : (((x + 1).toNat : Nat) : Int) = x + 1 := by omega
  have e1 : ((2 * k + 1 : Nat) : Int) = 2 * (k : Int) + 1 := by omega
  have e2 : dig (x + 1).toNat (2 * k + 1) = ueL x.toNat := by
    unfold ueL
    rw [hk, show (x + 1).toNat = x.toNat + 1 by omega]
  rw [e0, e1, e2] at hp
  have HP := Lib.hid hp
  have hl := len_any (x + 1) w (by omega) (by omega)
  rw [← hk] at hl
  have HL := Lib.hid hl
  have hw : IntKind.u64.wrap (x + 1) = x + 1 := u64_in (by omega)
  clear hk e0 e1 e2 hp hl h hbs
  go_enter Tryz.func12, Tryz.ntmps12
  go_wp2_with fail
  refine HL.out.mono ?_
  rintro e w' ⟨rfl, rfl⟩
  have hk0 : (0 : Int) ≤ k := Int.natCast_nonneg _
  go_wp2_with fail
  have e3 : 2 * ((k : Int) + 1) - 1 = 2 * (k : Int) + 1 := by omega
  rw [e3]
  refine HP.out.mono ?_
  rintro e w1 ⟨rfl, hq⟩
  have HQ := Lib.hid hq
  clear hq HP HL e3
  go_wp2_with fail
  go_ret
  exact ⟨rfl, HQ.out⟩

theorem se_no (g : Nat) (x : Int) (w : World) (h : x < -1073741823 ∨ 1073741823 < x) :
    Calls Tryz.prog 11 #[.pointer (some ⟨g, 0, none⟩), .int .i64 x] w fun e w' => e = .returned (.int .i64 101) ∧ w = w' := by
  rcases h with h | h
  · go_enter Tryz.func11, Tryz.ntmps11
    go_wp2_with fail
    go_ret
    exact ⟨rfl, rfl⟩
  · have h0 : ¬ x < -1073741823 := by omega
    go_enter Tryz.func11, Tryz.ntmps11
    go_wp2_with fail
    go_ret
    exact ⟨rfl, rfl⟩

theorem se_yes (base g : Nat) (v : Value) (b : List Bool) (x : Int) (w : World) (h : Wr w base g v b) (hb : b.length ≤ 1000000) (h0 : -1073741823 ≤ x) (h1 : x ≤ 1073741823) (hbs : base ≤ w.heap.size) :
    Calls Tryz.prog 11 #[.pointer (some ⟨g, 0, none⟩), .int .i64 x] w fun e w' => e = .returned (.int .i64 0) ∧ PutPost w base g v (b ++ seL x) w' := by
  unfold seL seN
  by_cases hx : 0 < x
  · have hp := Lib.hid (ue_yes base g v b (2 * x - 1) w h hb (by omega) (by omega) hbs)
    rw [if_pos hx]
    clear h hbs
    go_enter Tryz.func11, Tryz.ntmps11
    go_wp2_with fail
    refine hp.out.mono ?_
    rintro e w1 ⟨rfl, hq⟩
    have HQ := Lib.hid hq
    clear hq hp
    go_wp2_with fail
    go_ret
    exact ⟨rfl, HQ.out⟩
  · have hp := Lib.hid (ue_yes base g v b (-2 * x) w h hb (by omega) (by omega) hbs)
    rw [if_neg hx]
    clear h hbs
    go_enter Tryz.func11, Tryz.ntmps11
    go_wp2_with fail
    refine hp.out.mono ?_
    rintro e w1 ⟨rfl, hq⟩
    have HQ := Lib.hid hq
    clear hq hp
    go_wp2_with fail
    go_ret
    exact ⟨rfl, HQ.out⟩

theorem Wr.len {w : World} {base g : Nat} {v : Value} {b : List Bool} (h : Wr w base g v b) : w.cell? ⟨g, 1, none⟩ = some (.int .i64 b.length) := by
  obtain ⟨c, hk, _⟩ := h
  exact hk.cell 1
theorem Wr.v {w : World} {base g : Nat} {v : Value} {b : List Bool} (h : Wr w base g v b) : w.cell? ⟨g, 0, none⟩ = some v := by
  obtain ⟨c, hk, _⟩ := h
  exact hk.cell 0
theorem PutPost.then {w w1 w2 : World} {base g : Nat} {v v1 : Value} {b : List Bool} (ht : Touch (WS g v) w w1) (hn : New w v v1) (h : PutPost w1 base g v1 b w2) : PutPost w base g v b w2 := by
  obtain ⟨v2, hw, ht2, hn2⟩ := h
  exact ⟨v2, hw, ht.ws hn ht2, hn.step ht.size hn2⟩

/-- bits as a text -/
def packS (b : List Bool) : ByteArray := strOfNums ((List.range ((b.length + 7) / 8)).map fun i => (byteOf b i : Int))
theorem Wr.bytes {w : World} {base g : Nat} {v : Value} {b : List Bool} (h : Wr w base g v b) : ∃ A c, v = .slice A ((b.length + 7) / 8) c ∧ Rd w w.heap.size A ((b.length + 7) / 8) (fun k => .int .u8 (byteOf b k)) := by
  obtain ⟨c, hk, ho⟩ := h
  obtain ⟨A, c, hv, _, _, hr⟩ := Rd.of_own ho
  exact ⟨A, c, hv, hr.congr fun k hk => by simp [bytesV, List.getD_eq_getElem?_getD, hk]⟩
theorem wbytes_any (base g : Nat) (v : Value) (b : List Bool) (w : World) (h : Wr w base g v b) :
    Calls Tryz.prog 16 #[.pointer (some ⟨g, 0, none⟩)] w fun e w' => e = .returned (.string (packS b)) ∧ w = w' := by
  obtain ⟨A, c, rfl, hr⟩ := h.bytes
  have c0 := h.v
  have e1 : (convert 61 9 (.slice A ((b.length + 7) / 8) c)).run Tryz.prog w = .ok (.string (packS b)) w := run_str Tryz.underlying61 Tryz.underlying5 Tryz.underlying9 hr
  generalize packS b = S at *
  clear h hr
  go_enter Tryz.func16, Tryz.ntmps16
  go_wp2_with fail
  go_ret
  exact ⟨rfl, rfl⟩

theorem new_any (w : World) : Calls Tryz.prog 10 #[] w fun e w' => e = .returned (.pointer (some ⟨w.heap.size, 0, none⟩)) ∧ w.alloc (.cells #[.slice none 0 0, .int .i64 0, .int .i64 0] 76) = w' := by
  go_enter Tryz.func10, Tryz.ntmps10
  go_wp2_with fail
  go_ret
  exact ⟨rfl, rfl⟩
theorem Wr.new (w : World) (base : Nat) : Wr (w.alloc (.cells #[.slice none 0 0, .int .i64 0, .int .i64 0] 76)) base w.heap.size (.slice none 0 0) [] :=
  ⟨0, Bk.new _ _ _, World.ownsRow_nil _ _ _ _⟩

end Go.Proofs.YtfignfohcalcfaaGreatDoor
