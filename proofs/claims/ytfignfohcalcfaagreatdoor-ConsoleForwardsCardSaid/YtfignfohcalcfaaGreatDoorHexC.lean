/- The Builder's WriteByte; hex. hex. unhex. -/
import Derived.Test.YtfignfohcalcfaaGreatDoorNalC
import Derived.Test.YtfignfohcalcfaaGreatDoorLinB
import Derived.Test.YtfignfohcalcfaaGreatDoorQuiet
namespace Go.Proofs.YtfignfohcalcfaaGreatDoor
open Go.RowKit
set_option linter.unusedVariables false
set_option linter.unusedSimpArgs false

set_option maxHeartbeats 1000000 in
set_option maxRecDepth 100000 in
theorem writeb_any (B b : Nat) (l : List Nat) (c : Nat) (w : World) (h : SB w B b l) (hlen : l.length ≤ 140737488355000) (hBw : B ≤ w.heap.size) :
    Calls Tryz.prog 47 #[.pointer (some ⟨b, 0, none⟩), .int .u8 c] w fun e w' => e = .returned .nilIface ∧ SB w' B b (l ++ [c]) ∧ Below B w w' := by
  obtain ⟨i0, hi, hz0, hz1, hz2⟩ := info_parts u8_info
  have hbl : (bV l).length = l.length := bV_len l
  have HC := Lib.hid (check_any B b (bV l) w h)
  have HBL := Lib.hid hbl
  have hss : l.length ≤ 140737488355000 := by omega
  clear h hbl
  go_enter Tryz.func47, Tryz.ntmps47
  go_wp2_with fail
  refine HC.out.mono ?_
  rintro e w1 ⟨rfl, h1, hb1⟩
  obtain ⟨hB, v, hbk, hown, hne⟩ := h1
  have hs1 := hb1.size
  have hbk1 : Bk w1 b 63 #[.pointer (some ⟨b, 0, none⟩), v] := hbk
  have hbk2 := hbk1.alloc (.cells #[.int .u8 c] 5)
  have c1 : w1.cell? ⟨b, 1, none⟩ = some v := hbk1.cell 1
  have HO := Lib.hid hown
  have HB1 := Lib.hid hb1
  have HBK := Lib.hid hbk2
  have HNE := Lib.hid hne
  clear hown hb1 hbk hbk1 hbk2 hne HC
  go_wp2_with (at_builtin; refine wpList_append_own (P := Tryz.prog) _ rfl (.tmp 11) (.tmp 13) 61 rfl B 5 i0 (.int .u8 0) 1 1 Tryz.underlying61 hi hz0 hz1 hz2 rfl (by decide) _ l.length _ rfl (by have := HO.out; rw [HBL.out] at this; exact this.alloc _) ⟨w1.heap.size, 0, none⟩ 1 1 [.int .u8 c] rfl rfl (cells_new _ _ _) (one_cell _) (by unfold maxLen; omega) (by omega) (by simp; omega) ?_)
  intro v' w2 hown' hgrow _
  have hb2 := HBK.out.grown hgrow (fun e => HNE.out e.symm)
  have f1 := hb2.frozen 1
  have d1 : w2.cell? ⟨b, 1, none⟩ = some v := hb2.cell 1
  obtain ⟨ao, n', cap, rfl⟩ : ∃ ao n' cap, v' = .slice ao n' cap := by
    rcases hown'.2 with ⟨hv, _⟩ | ⟨g, cap, cur, hv, _⟩
    · exact ⟨_, _, _, hv⟩
    · exact ⟨_, _, _, hv⟩
  have HO2 := Lib.hid hown'
  have HG := Lib.hid hgrow
  have HB2 := Lib.hid hb2
  clear hown' hgrow hb2 c1
  go_wp2
  go_ret
  refine ⟨rfl, .inr ?_, ?_⟩
  · have ho := HO2.out
    have e1 : bV l ++ [.int .u8 (c : Int)] = bV (l ++ [c]) := by rw [bV_append]; rfl
    rw [e1] at ho
    have hl : l.length + 1 = (bV (l ++ [c])).length := by rw [bV_len, List.length_append]; rfl
    rw [hl] at ho
    exact Lib.BuilderAt.put hB HB2.out ho (by decide)
  · exact ((HB1.out.alloc (Nat.le_trans hBw hs1) _).grown HG.out (by simp; omega) (fun k hk => (HO.out.lt k hk).1)).setCell (p := ⟨b, 1, none⟩) hB _
end Go.Proofs.YtfignfohcalcfaaGreatDoor

namespace Go.Proofs.YtfignfohcalcfaaGreatDoor
open Go.RowKit
set_option linter.unusedVariables false
set_option linter.unusedSimpArgs false

theorem bl_append (a b : ByteArray) : bl (a ++ b) = bl a ++ bl b := by simp [bl]
theorem SB.go {w w' : World} {B b : Nat} {l : List Nat} (h : SB w B b l) (hb : Below w.heap.size w w') : SB w' B b l := by
  rcases h with h | h
  · have hl := h.lt
    obtain ⟨hB, v, hbk, hown, hne⟩ := h
    exact .inl ⟨hB, v, (hb.block b hl).trans hbk, own_go hown hb, hne⟩
  · have hl := h.lt
    obtain ⟨hB, v, hbk, hown, hne⟩ := h
    exact .inr ⟨hB, v, (hb.block b hl).trans hbk, own_go hown hb, hne⟩
theorem ba_toList (s : ByteArray) : s.toList = s.data.toList := by first | exact ByteArray.toList_eq s | exact Lib.toList_eq s | exact bytes_toList s | simp [ByteArray.toList]
theorem and15_u8 (c : Nat) (h : c < 256) : bits .and .u8 (c : Int) 15 = ((c % 16 : Nat) : Int) := (by decide +kernel : ∀ c : Fin 256, bits .and .u8 (c.val : Int) 15 = ((c.val % 16 : Nat) : Int)) ⟨c, h⟩
def hexS : ByteArray := ⟨#[48, 49, 50, 51, 52, 53, 54, 55, 56, 57, 97, 98, 99, 100, 101, 102]⟩
def hexN (n : Nat) : Nat := (hexD n).toNat
theorem hexS_at : ∀ (n : Nat) (h : n < hexS.size), (hexS[n]'h).toNat = hexN n := by
  have : ∀ n : Fin 16, (hexS[n.val]'n.isLt).toNat = hexN n.val := by decide +kernel
  exact fun n h => this ⟨n, h⟩
/-- digits as numbers -/
def hexLN (l : List Nat) : List Nat := l.flatMap fun c => [hexN (c / 16), hexN (c % 16)]
theorem hexLN_snoc (l : List Nat) (c : Nat) : hexLN (l ++ [c]) = hexLN l ++ [hexN (c / 16)] ++ [hexN (c % 16)] := by simp [hexLN]
theorem hexLN_len (l : List Nat) : (hexLN l).length = 2 * l.length := by
  induction l with
  | nil => rfl
  | cons c t ih => simp only [hexLN, List.flatMap_cons, List.length_append, List.length_cons, List.length_nil] at ih ⊢; omega
theorem hexLN_lt (l : List Nat) : ∀ x ∈ hexLN l, x < 256 := by
  intro x hx
  unfold hexLN at hx
  obtain ⟨c, _, hx⟩ := List.mem_flatMap.1 hx
  simp at hx
  rcases hx with rfl | rfl <;> exact UInt8.toNat_lt _
theorem hexF_txt (s : ByteArray) (h : s.size ≠ 0) : hexF s = txt (hexLN (bl s)) := by
  unfold hexF
  rw [if_neg h]
  have e : bl (tx (hexL s.data.toList)) = hexLN (bl s) := by
    unfold bl hexL hexLN
    rw [data_tx, List.flatMap_map, List.map_flatMap]
    rfl
  rw [← e, txt_bl]
set_option maxRecDepth 100000 in
set_option maxHeartbeats 3200000 in
theorem chex_any (s : ByteArray) (w : World) (hs : s.size ≤ 4194304) :
    Calls Tryz.prog 33 #[.string s] w fun e w' => e = .returned (.string (hexF s)) ∧ Below w.heap.size w w' := by
  by_cases h0 : s.size = 0
  · obtain rfl : s = ⟨#[]⟩ := by
      apply ByteArray.ext
      exact Array.eq_empty_of_size_eq_zero h0
    go_enter Tryz.func33, Tryz.ntmps33
    go_wp2_with fail
    go_ret
    exact ⟨rfl, Below.refl _ _⟩
  · obtain ⟨l, hl⟩ : ∃ l, l = bl s := ⟨_, rfl⟩
    have hll : l.length = s.size := by rw [hl]; exact bl_len s
    have hlt : ∀ b ∈ l, b < 256 := by rw [hl]; exact bl_lt s
    have hat : ∀ k (h : k < s.size), (s[k]'h).toNat = l.getD k 0 := fun k h => by rw [List.getD_eq_getElem?_getD, List.getElem?_eq_getElem (by omega)]; subst hl; exact (bl_at s k h).symm
    have hF : hexF s = txt (hexLN l) := hl ▸ hexF_txt s h0
    obtain ⟨F, hF2⟩ : ∃ F, hexF s = F := ⟨_, rfl⟩
    rw [hF2] at hF ⊢
    have he : s.toList.isEmpty = false := by
      rw [ba_toList]
      cases hd : s.data.toList with
      | nil => exact absurd (by rw [Lib.size_eq, hd]; rfl) h0
      | cons x t => rfl
    have HL := Lib.hid hll
    have HLT := Lib.hid hlt
    have HAT := Lib.hid hat
    have HF := Lib.hid hF
    have hfr := Lib.fresh_isBuilder 63 5 w
    have hb0 := (Below.refl w.heap.size w).alloc (Nat.le_refl _) (.cells #[.pointer none, .slice none 0 0] 63)
    have hlt0 : w.heap.size < (w.alloc (.cells #[.pointer none, .slice none 0 0] 63)).heap.size := by simp
    obtain ⟨w1, hw1⟩ : ∃ w1, w1 = w.alloc (.cells #[.pointer none, .slice none 0 0] 63) := ⟨_, rfl⟩
    have hfr' : SB w1 w.heap.size w.heap.size [] := by rw [hw1]; exact hfr
    rw [← hw1] at hb0 hlt0
    have HFR := Lib.hid hfr'
    have HB0 := Lib.hid hb0
    clear hfr hfr' hb0 hl hll hlt hat h0 hF hF2
    go_enter Tryz.func33, Tryz.ntmps33
    go_wp2_with fail
    try rw [← hw1]
    clear hw1 he
    go_loopw [9] (fun t wr => ∃ (i : Nat), i ≤ s.size ∧ t = .int .i64 i ∧ SB wr w.heap.size w.heap.size (hexLN (l.take i)) ∧ Below w.heap.size w wr ∧ w.heap.size < wr.heap.size) (fun t _ => s.size - (intOf t).toNat)
    case atStart => exact ⟨0, Nat.zero_le _, rfl, HFR.out, HB0.out, hlt0⟩
    case round =>
      obtain ⟨i, hi', rfl, hsb, hb, hwz⟩ := hrel
      have HB := Lib.hid hb
      have HSB := Lib.hid hsb
      clear hsb hb HFR HB0
      by_cases hlt : i < s.size
      · have hil : i < l.length := by have := HL.out; omega
        have hil2 : (i : Int) < (s.size : Int) := by omega
        have hi0 : (0 : Int) ≤ (i : Int) := Int.natCast_nonneg _
        have hg : (s[i]'hlt).toNat = l[i] := (HAT.out i hlt).trans (by rw [List.getD_eq_getElem?_getD, List.getElem?_eq_getElem hil]; rfl)
        have h256 := HLT.out _ (List.getElem_mem hil)
        have htk : l.take (i + 1) = l.take i ++ [l[i]] := by rw [List.take_add_one, List.getElem?_eq_getElem hil]; rfl
        obtain ⟨c, hc⟩ : ∃ c, c = l[i] := ⟨_, rfl⟩
        rw [← hc] at hg h256 htk
        have hsn := hexLN_snoc (l.take i) c
        rw [← htk] at hsn
        have hlen := hexLN_len (l.take i)
        have hlen2 : (hexLN (l.take i)).length ≤ 8388608 := by rw [hlen, List.length_take]; omega
        obtain ⟨J, hJ⟩ : ∃ J, hexLN (l.take i) = J := ⟨_, rfl⟩
        rw [hJ] at HSB hsn hlen2
        have HSN := Lib.hid hsn
        have e1 : (c : Int) / 16 = ((c / 16 : Nat) : Int) := by omega
        have e2 := and15_u8 c h256
        obtain ⟨p, hp⟩ : ∃ p, c / 16 = p := ⟨_, rfl⟩
        obtain ⟨q, hq⟩ : ∃ q, c % 16 = q := ⟨_, rfl⟩
        have hp16 : p < 16 := by omega
        have hq16 : q < 16 := by omega
        have hx1 : ((⟨#[48, 49, 50, 51, 52, 53, 54, 55, 56, 57, 97, 98, 99, 100, 101, 102]⟩ : ByteArray)[p]'hp16).toNat = hexN p := hexS_at p hp16
        have hx2 : ((⟨#[48, 49, 50, 51, 52, 53, 54, 55, 56, 57, 97, 98, 99, 100, 101, 102]⟩ : ByteArray)[q]'hq16).toNat = hexN q := hexS_at q hq16
        rw [hp] at e1 HSN
        rw [hq] at e2 HSN
        clear hc htk hsn hlen hJ hp hq
        go_wp2_with fail
        refine (writeb_any w.heap.size w.heap.size J (hexN p) wr HSB.out (by omega) (by omega)).mono ?_
        rintro e w2 ⟨rfl, hsb2, hb2⟩
        have HSB2 := Lib.hid hsb2
        have HB2 := Lib.hid (HB.out.trans hb2)
        have hs2 := hb2.size
        clear hsb2 hb2 HSB HB
        go_wp2_with fail
        refine (writeb_any w.heap.size w.heap.size (J ++ [hexN p]) (hexN q) w2 HSB2.out (by simp; omega) (by omega)).mono ?_
        rintro e w3 ⟨rfl, hsb3, hb3⟩
        have HSB3 := Lib.hid (HSN.out ▸ hsb3)
        have HB3 := Lib.hid (HB2.out.trans hb3)
        have hs3 := hb3.size
        clear hsb3 hb3 HSB2 HB2
        go_wp2_with fail
        go_roundw
        case rel => exact ⟨i + 1, by omega, by go_num, HSB3.out, HB3.out, by omega⟩
        case measure => simp [intOf]; omega
      · obtain rfl : i = s.size := by omega
        have hsb := HSB.out
        rw [List.take_of_length_le (by rw [HL.out]; exact Nat.le_refl _)] at hsb
        have HS := Lib.hid (sbString_any w.heap.size w.heap.size (hexLN l) wr hsb (hexLN_lt l) (by omega))
        rw [← HF.out] at HS
        clear hsb
        go_wp2_with fail
        refine HS.out.mono ?_
        rintro e w2 ⟨rfl, hb2⟩
        have HB2 := Lib.hid (HB.out.trans hb2)
        clear hb2
        go_wp2_with fail
        go_ret
        exact ⟨rfl, HB2.out⟩
end Go.Proofs.YtfignfohcalcfaaGreatDoor

namespace Go.Proofs.YtfignfohcalcfaaGreatDoor
open Go.RowKit
set_option linter.unusedVariables false
set_option linter.unusedSimpArgs false

theorem toL_eq (s : ByteArray) (l : List UInt8) : (s.toList == l) = decide (s = tx l) := by
  rw [ba_toList]
  by_cases h : s = tx l
  · subst h
    rw [data_tx]
    simp
  · rw [decide_eq_false h, beq_eq_false_iff_ne]
    intro e
    exact h (by rw [← e, tx_data])
theorem toL_yes {s : ByteArray} {l : List UInt8} (h : s = tx l) : (s.toList == l) = true := by rw [toL_eq]; exact decide_eq_true h
theorem toL_no {s : ByteArray} {l : List UInt8} (h : ¬ s = tx l) : (s.toList == l) = false := by rw [toL_eq]; exact decide_eq_false h
theorem unF_none {s : ByteArray} (h : s = noneT) : unF s = (tx [], true) := by
  unfold unF
  rw [if_pos h]
def uidx (c : UInt8) : Int := match unD c with
  | some x => (x : Int)
  | none => -1
theorem uidx_any (c : UInt8) (w : World) : Calls Tryz.prog 46 #[.string ⟨#[48, 49, 50, 51, 52, 53, 54, 55, 56, 57, 97, 98, 99, 100, 101, 102]⟩, .int .u8 (c.toNat : Int)] w fun e w' => e = .returned (.int .i64 (uidx c)) ∧ w' = w := by
  have h := Tryz.strings_IndexByte hexS (c.toNat : Int) w
  have e : Lib.indexByte hexS.data.toList (c.toNat : Int).toNat.toUInt8 = uidx c := by
    have h2 : ∀ n : Fin 256, Lib.indexByte hexS.data.toList (n.val : Int).toNat.toUInt8 = uidx n.val.toUInt8 := by decide +kernel
    have h3 := h2 ⟨c.toNat, UInt8.toNat_lt c⟩
    have h4 : c.toNat.toUInt8 = c := by simp
    simp only [h4] at h3
    exact h3
  rw [e] at h
  exact h
theorem unD_lt (c : UInt8) (x : Nat) (h : unD c = some x) : x < 16 := by
  unfold unD at h
  split at h
  · injection h with h; omega
  · split at h
    · injection h with h; omega
    · cases h
theorem or_dig (x y : Nat) (hx : x < 16) (hy : y < 16) : bits .or .i64 (x * 16 : Int) (y : Int) % 256 = ((16 * x + y).toUInt8.toNat : Int) :=
  (by decide +kernel : ∀ p q : Fin 16, bits .or .i64 (p.val * 16 : Int) (q.val : Int) % 256 = ((16 * p.val + q.val).toUInt8.toNat : Int)) ⟨x, hx⟩ ⟨y, hy⟩
theorem unL_two (a b : UInt8) (t : List UInt8) : unL (a :: b :: t) = (match unD a, unD b with | some x, some y => (unL t).map ((16 * x + y).toUInt8 :: ·) | _, _ => none) := by
  rw [unL]
  cases unD a <;> cases unD b <;> rfl
theorem unL_step {l O : List UInt8} {n : Nat} {a b : UInt8} {x y : Nat} (h : unL l = (unL (l.drop n)).map (O ++ ·)) (hd : l.drop n = a :: b :: l.drop (n + 2)) (ha : unD a = some x) (hb : unD b = some y) : unL l = (unL (l.drop (n + 2))).map ((O ++ [(16 * x + y).toUInt8]) ++ ·) := by
  rw [h, hd, unL_two, ha, hb]
  simp only [Option.map_map]
  congr 1
  funext z
  simp
theorem unL_bad {l O : List UInt8} {n : Nat} {a b : UInt8} (h : unL l = (unL (l.drop n)).map (O ++ ·)) (hd : l.drop n = a :: b :: l.drop (n + 2)) (hb : unD a = none ∨ unD b = none) : unL l = none := by
  rw [h, hd, unL_two]
  rcases hb with hb | hb
  · rw [hb]; rfl
  · rw [hb]; cases unD a <;> rfl
theorem unL_end {l O : List UInt8} {n : Nat} (h : unL l = (unL (l.drop n)).map (O ++ ·)) (hn : l.length ≤ n + 1) : unL l = some O := by
  rw [h]
  have : (l.drop n).length ≤ 1 := by rw [List.length_drop]; omega
  match hd : l.drop n, this with
  | [], _ => simp [unL]
  | [a], _ => simp [unL]
theorem unF_bad {s : ByteArray} (h : ¬ s = noneT) (hu : unL s.data.toList = none) : unF s = (tx [], false) := by
  unfold unF
  rw [if_neg h, hu]
theorem unF_ok {s : ByteArray} {O : List UInt8} (h : ¬ s = noneT) (hu : unL s.data.toList = some O) : unF s = (tx O, decide (s.size ≠ 0) && decide (s.size % 2 = 0)) := by
  unfold unF
  rw [if_neg h, hu]
theorem txt_tx (O : List UInt8) : txt (O.map UInt8.toNat) = tx O := by
  have := txt_bl (tx O)
  unfold bl at this
  rw [data_tx] at this
  exact this
def bO (O : List UInt8) : List Nat := O.map UInt8.toNat
theorem bO_snoc (O : List UInt8) (c : UInt8) : bV (bO O) ++ [.int .u8 (c.toNat : Int)] = bV (bO (O ++ [c])) := by simp [bO, bV]
set_option maxRecDepth 100000 in
set_option maxHeartbeats 3200000 in
theorem cunhex_any (s : ByteArray) (w : World) (hs : s.size ≤ 4194304) :
    Calls Tryz.prog 32 #[.string s] w fun e w' => e = .returned (.tuple #[.string (unF s).1, .bool (unF s).2]) ∧ Below w.heap.size w w' := by
  by_cases h0 : s = noneT
  · have he : (s.toList == [110, 111, 110, 101]) = true := toL_yes h0
    rw [unF_none h0]
    clear h0
    go_enter Tryz.func32, Tryz.ntmps32
    go_wp2_with fail
    go_ret2
    exact ⟨rfl, Below.refl _ _⟩
  · obtain ⟨i0, hi, hz0, hz1, hz2⟩ := info_parts u8_info
    obtain ⟨l, hl⟩ : ∃ l, s.data.toList = l := ⟨_, rfl⟩
    have hll : l.length = s.size := by rw [← hl]; exact (Lib.size_eq s).symm
    have hat : ∀ k (h : k < s.size), (s[k]'h) = l.getD k 0 := fun k h => by
      subst hl
      rw [List.getD_eq_getElem?_getD, List.getElem?_eq_getElem (by omega)]
      rfl
    have HL := Lib.hid hll
    have HAT := Lib.hid hat
    have HBAD := Lib.hid (fun hu => unF_bad h0 (hl ▸ hu))
    have HOK := Lib.hid (fun O hu => unF_ok (O := O) h0 (hl ▸ hu))
    have he : (s.toList == [110, 111, 110, 101]) = false := toL_no h0
    clear hll hat hl h0
    go_enter Tryz.func32, Tryz.ntmps32
    go_wp2_with fail
    go_loopw [4, 5] (fun v t wr => ∃ (n : Nat) (O : List UInt8), n ≤ s.size ∧ t = .int .i64 n ∧ unL l = (unL (l.drop n)).map (O ++ ·) ∧ O.length ≤ n ∧ n % 2 = 0 ∧ wr.ownsRow w.heap.size 5 1 v (bO O).length (bV (bO O)) ∧ Below w.heap.size w wr) (fun _ t _ => s.size - (intOf t).toNat)
    case atStart => exact ⟨0, [], Nat.zero_le _, rfl, by simp, Nat.le_refl _, rfl, World.ownsRow_nil _ _ _ _, Below.refl _ _⟩
    case round =>
      obtain ⟨n, O, hn, rfl, hu, hOl, hn2, ho, hb⟩ := hrel
      have HU := Lib.hid hu
      have HO := Lib.hid ho
      have HB := Lib.hid hb
      have hsz := hb.size
      have hn0 : (0 : Int) ≤ (n : Int) := Int.natCast_nonneg _
      clear hu ho hb
      by_cases hlt : n + 1 < s.size
      · have hlt0 : n < s.size := by omega
        have hlt2 : (n : Int) + 1 < (s.size : Int) := by omega
        have hlt3 : (n : Int) < (s.size : Int) := by omega
        have ha := HAT.out n hlt0
        have hb' := HAT.out (n + 1) hlt
        have hd : l.drop n = l.getD n 0 :: l.getD (n + 1) 0 :: l.drop (n + 2) := by
          have h1 : n < l.length := by have := HL.out; omega
          have h2 : n + 1 < l.length := by have := HL.out; omega
          rw [List.drop_eq_getElem_cons h1, List.drop_eq_getElem_cons h2]
          simp [h1, h2]
        obtain ⟨a, hae⟩ : ∃ a, l.getD n 0 = a := ⟨_, rfl⟩
        obtain ⟨b, hbe⟩ : ∃ b, l.getD (n + 1) 0 = b := ⟨_, rfl⟩
        rw [hae] at ha hd
        rw [hbe] at hb' hd
        have HD := Lib.hid hd
        clear hae hbe hd
        have HI := Lib.hid uidx_any
        go_upto_region 7 with fail
        have hwr : IntKind.i64.wrap ((n : Int) + 1) = (n : Int) + 1 := by rw [IntKind.wrap_i64]; omega
        have hn1 : (0 : Int) ≤ (n : Int) + 1 := by omega
        refine wp_region_class (fun w' => Below wr.heap.size wr w') (by kernel_rfl) (by kernel_rfl) ((Below.refl _ _).drew) ?_
        repeat (first
          | go_big_quiet_skip
          | (go_big_quiet_want; first
              | (go_big_quiet_op; go_big_quiet_on)
              | (refine qv_val (v := ?_) ?_ ?_; rotate_left 1; (intro w' hw'; obtain ⟨hcc, hff⟩ := bcell hw'; clear hff hw'; go_simp; (try with_reducible rfl)); (try simp only [Act.put, List.setIfInBounds_toArray, List.set_cons_zero, List.set_cons_succ]); go_big_quiet_on)
              | (refine qv_call (v := ?_) (f := ?_) (args := ?_) ?_ ?_ ?_; rotate_left 3; (intro w' hw'; clear hw'; go_simp; (refine ⟨?_, ?_⟩ <;> rfl)); (first | (intro w' hw'; refine (HI.out _ _).mono ?_; rintro e w'' ⟨rfl, rfl⟩; refine ⟨?_, hw'⟩; skip; rfl)); (try simp only [Act.put, List.setIfInBounds_toArray, List.set_cons_zero, List.set_cons_succ]); go_big_quiet_on)))
        with_reducible refine wpQuiet_nil ?_
        intro w1 hw
        have HO1 := Lib.hid (own_go HO.out hw)
        have HB1 := Lib.hid (HB.out.trans (hw.mono HB.out.size))
        have hsz1 := HB1.out.size
        clear hw HO HB ha hb'
        have hbad : (unD a = none ∨ unD b = none) ∨ ∃ x y, unD a = some x ∧ unD b = some y := by
          cases unD a with
          | none => exact .inl (.inl rfl)
          | some x => cases unD b with
            | none => exact .inl (.inr rfl)
            | some y => exact .inr ⟨x, y, rfl, rfl⟩
        rcases hbad with hbad | ⟨x, y, hx, hy⟩
        · have HR := Lib.hid (HBAD.out (unL_bad HU.out HD.out hbad))
          obtain ⟨p, hp⟩ : ∃ p, uidx a = p := ⟨_, rfl⟩
          obtain ⟨q, hq⟩ : ∃ q, uidx b = q := ⟨_, rfl⟩
          have hpq : p < 0 ∨ (¬ p < 0 ∧ q < 0) := by
            by_cases h1 : p < 0
            · exact .inl h1
            · refine .inr ⟨h1, ?_⟩
              rcases hbad with h | h
              · exfalso
                apply h1
                rw [← hp]
                unfold uidx
                rw [h]
                decide
              · rw [← hq]
                unfold uidx
                rw [h]
                decide
          rw [hp, hq]
          clear hp hq hbad
          rcases hpq with h1 | ⟨h1, h2⟩
          all_goals
            go_wp2_with fail
            go_ret2
            exact ⟨by rw [HR.out]; rfl, HB1.out⟩
        · have HXY := Lib.hid (And.intro (unD_lt a x hx) (unD_lt b y hy))
          have HS := Lib.hid (unL_step HU.out HD.out hx hy)
          have hp : uidx a = (x : Int) := by unfold uidx; rw [hx]
          have hq : uidx b = (y : Int) := by unfold uidx; rw [hy]
          rw [hp, hq]
          clear hp hq hx hy
          have hx0 : (0 : Int) ≤ (x : Int) := Int.natCast_nonneg _
          have hy0 : (0 : Int) ≤ (y : Int) := Int.natCast_nonneg _
          have hx1 : (x : Int) < 16 := by have := HXY.out; omega
          have hor := or_dig x y HXY.out.1 HXY.out.2
          obtain ⟨z, hz⟩ : ∃ z, (16 * x + y).toUInt8 = z := ⟨_, rfl⟩
          rw [hz] at hor HS
          obtain ⟨L, hL⟩ : ∃ L, (bO O).length = L := ⟨_, rfl⟩
          have hLl : L ≤ 8388608 := by
            rw [← hL]
            unfold bO
            rw [List.length_map]
            omega
          rw [hL] at HO1
          have HL2 := Lib.hid hL
          clear hL hz
          go_wp2_with (at_builtin; refine wpList_append_own (P := Tryz.prog) _ rfl (.tmp 32) (.tmp 38) 61 rfl w.heap.size 5 i0 (.int .u8 0) 1 1 Tryz.underlying61 hi hz0 hz1 hz2 rfl (by decide) _ L _ rfl (HO1.out.alloc _) ⟨w1.heap.size, 0, none⟩ 1 1 [.int .u8 (z.toNat : Int)] rfl rfl (cells_new _ _ _) (one_cell _) (by unfold maxLen; omega) (by omega) (by simp; omega) ?_)
          intro v3 w3 hown3 hg3 _
          have HB3 := Lib.hid ((HB1.out.alloc hsz1 _).grown hg3 (by simp; omega) (fun k hk => (HO1.out.lt k hk).1))
          rw [bO_snoc] at hown3
          have HO3 := Lib.hid hown3
          clear hown3 hg3
          go_wp2_with fail
          go_roundw
          case rel => exact ⟨n + 2, O ++ [z], by omega, by go_num, HS.out, by simp; omega, by omega, by have := HO3.out; rw [← HL2.out] at this; simpa [bO] using this, HB3.out⟩
          case measure => simp [intOf]; omega
      · have hlt2 : ¬ (n : Int) + 1 < (s.size : Int) := by omega
        have HR := Lib.hid (HOK.out O (unL_end HU.out (by rw [HL.out]; omega)))
        have hcv := run_txt HO.out
        have htx : txt (bO O) = tx O := txt_tx O
        rw [htx] at hcv
        obtain ⟨X, hX⟩ : ∃ X, tx O = X := ⟨_, rfl⟩
        rw [hX] at hcv HR
        clear htx hX
        by_cases hz : s.size = 0
        · have h1 : s.toList.isEmpty = true := by
            rw [ba_toList]
            have : s.data.toList.length = 0 := by rw [← Lib.size_eq]; exact hz
            rw [List.eq_nil_of_length_eq_zero this]
            rfl
          have HZ := Lib.hid hz
          clear hz
          go_wp2_with fail
          go_ret2
          exact ⟨by rw [HR.out, decide_eq_false (fun h => h HZ.out)]; rfl, HB.out⟩
        · have h1 : s.toList.isEmpty = false := by
            rw [ba_toList]
            cases hd : s.data.toList with
            | nil => exact absurd (by rw [Lib.size_eq, hd]; rfl) hz
            | cons x t => rfl
          obtain ⟨b, hb⟩ : ∃ b, decide (s.size % 2 = 0) = b := ⟨_, rfl⟩
          have hm : ((s.size : Int) % 2 == 0) = b := by
            rw [← hb]
            by_cases h2 : s.size % 2 = 0
            · rw [decide_eq_true h2, beq_iff_eq]; omega
            · rw [decide_eq_false h2, beq_eq_false_iff_ne]; omega
          have HR2 : Hid (unF s = (X, b)) := Lib.hid (by rw [HR.out, decide_eq_true hz, hb]; rfl)
          clear hz hb HR
          go_wp2_with fail
          go_ret2
          exact ⟨by rw [HR2.out]; rfl, HB.out⟩
end Go.Proofs.YtfignfohcalcfaaGreatDoor
