/- ParamsTails. Printed by gen-tails.py. -/
import Derived.Test.YtegfglpaabddlaaLawC
namespace Go.Proofs.Ytegfglpaabddlaa
open Go.RowKit
set_option linter.unusedVariables false
set_option linter.unusedSimpArgs false

theorem gS_cut (s : ByteArray) (k i : Nat) (hk : k ≤ s.size) (hi : i < k) : gS (s.extract 0 k) i = gS s i := by
  unfold gS
  rw [ByteArray.data_extract]
  have h1 : i < s.data.size := by have : s.size = s.data.size := rfl; omega
  have h2 : i < (s.data.extract 0 k).size := by rw [Array.size_extract]; have : s.size = s.data.size := rfl; omega
  simp only [Array.getD_eq_getD_getElem?, Array.getElem?_eq_getElem h1, Array.getElem?_eq_getElem h2, Option.getD_some]
  simp
theorem sbit_cut (s : ByteArray) (k a : Nat) (hk : k ≤ s.size) (ha : a < 8 * k) : sbit s a = sbit (s.extract 0 k) a := by
  unfold sbit bitOf
  rw [gS_cut s k (a / 8) hk (by omega)]
theorem gS_app (s x : ByteArray) (i : Nat) (hi : i < s.size) : gS (s ++ x) i = gS s i := by
  unfold gS
  rw [ByteArray.data_append]
  have h1 : i < s.data.size := hi
  have h2 : i < (s.data ++ x.data).size := by rw [Array.size_append]; omega
  simp only [Array.getD_eq_getD_getElem?, Array.getElem?_eq_getElem h1, Array.getElem?_eq_getElem h2, Option.getD_some, Array.getElem_append_left h1]
theorem sbit_app (s x : ByteArray) (a : Nat) (ha : a < 8 * s.size) : sbit s a = sbit (s ++ x) a := by
  unfold sbit bitOf
  rw [gS_app s x (a / 8) (by omega)]
theorem size_cut (s : ByteArray) (k : Nat) (hk : k ≤ s.size) : (s.extract 0 k).size = k := by
  rw [ByteArray.size_extract]; omega
def oneS (y : Int) : ByteArray := strOfNums [y]
theorem oneS_size (y : Int) : (oneS y).size = 1 := rfl
theorem run_one (y : Int) (B : Nat) (w' : World) (h : w'.cell? ⟨B, 0, none⟩ = some (.int .u8 y)) : (convert 56 9 (.slice (some ⟨B, 0, none⟩) 1 1)).run Try.prog w' = .ok (.string (oneS y)) w' := by
  have hr : Rd w' (B + 1) (some ⟨B, 0, none⟩) 1 fun k => .int .u8 ([y].getD k 0) := fun _ => ⟨_, rfl, Nat.lt_succ_self _, fun k hk => by
    obtain rfl : k = 0 := by omega
    exact h⟩
  rw [run_str Try.underlying56 Try.underlying5 Try.underlying9 hr]
  rfl
/-- a text cut, or with a byte more -/
theorem sp_tail {p : Sp} (h : putSpE p = 0) : 1 ≤ (putSpS p).size ∧ (putSpS p).size ≤ 1000 ∧
    (∀ u : ByteArray, u.size < (putSpS p).size → (∀ a, a < 8 * u.size → sbit (putSpS p) a = sbit u a) → (getSp (sbit u) (8 * u.size)).2 ≠ 0) ∧
    (∀ u : ByteArray, u.size = (putSpS p).size + 1 → (∀ a, a < 8 * (putSpS p).size → sbit (putSpS p) a = sbit u a) → (getSp (sbit u) (8 * u.size)).2 ≠ 0) := by
  have ok := (sp_again h).1
  have hS : putSpS p = packS (trL (spL p)) := by unfold putSpS; rw [if_pos (maySp_of h)]
  have hz : (putSpS p).size = (spL p).length / 8 + 1 := by rw [hS]; exact (trail_facts _).1
  exact ⟨by omega, putSp_size p, fun u h1 h2 => sp_tails ok hS (by omega) (fun a _ h4 => h2 a h4), fun u h1 h2 => sp_tails ok hS (by omega) (fun a h3 _ => h2 a h3)⟩
theorem pp_tail {p : Pp} (h : putPpE p = 0) : 1 ≤ (putPpS p).size ∧ (putPpS p).size ≤ 1000 ∧
    (∀ u : ByteArray, u.size < (putPpS p).size → (∀ a, a < 8 * u.size → sbit (putPpS p) a = sbit u a) → (getPp (sbit u) (8 * u.size)).2 ≠ 0) ∧
    (∀ u : ByteArray, u.size = (putPpS p).size + 1 → (∀ a, a < 8 * (putPpS p).size → sbit (putPpS p) a = sbit u a) → (getPp (sbit u) (8 * u.size)).2 ≠ 0) := by
  have ok := (pp_again h).1
  have hS : putPpS p = packS (trL (ppL p)) := by unfold putPpS; rw [if_pos ((mayPp_iff p).2 ok)]
  have hz : (putPpS p).size = (ppL p).length / 8 + 1 := by rw [hS]; exact (trail_facts _).1
  exact ⟨by omega, putPp_size p, fun u h1 h2 => pp_tails ok hS (by omega) (fun a _ h4 => h2 a h4), fun u h1 h2 => pp_tails ok hS (by omega) (fun a h3 _ => h2 a h3)⟩

set_option maxRecDepth 100000 in
set_option maxHeartbeats 6400000 in
theorem tails_00 (s0 s1 s2 s3 s4 s5 : Int) (cy : List Int) (A : Option Addr) (c : Nat) (s7 s8 : Int) (p0 p1 : Bool) (p2 p3 p4 : Int) (p5 p6 : Bool) (p7 p8 : Int) (x y : Int) (w : World) (hs : SpAt w w.heap.size ⟨s0, s1, s2, s3, s4, s5, cy, s7, s8⟩ A) (hn : cy.length ≤ 1152921504606846976)
    (ha : ¬ putSpE ⟨s0, s1, s2, s3, s4, s5, cy, s7, s8⟩ = 0) (hb_ : ¬ putPpE ⟨p0, p1, p2, p3, p4, p5, p6, p7, p8⟩ = 0) :
    Calls Try.prog 9 #[.agg #[.int .i64 s0, .int .i64 s1, .int .i64 s2, .int .i64 s3, .int .i64 s4, .int .i64 s5, .slice A cy.length c, .int .i64 s7, .int .i64 s8], .agg #[.bool p0, .bool p1, .int .i64 p2, .int .i64 p3, .int .i64 p4, .bool p5, .bool p6, .int .i64 p7, .int .i64 p8], .int .i64 x, .int .i64 y] w fun e w' => e = .returned (.bool true) ∧ Below w.heap.size w w' := by
  have h1 := putsp_no ha A c
  have hr := putpp_no (fun ok => hb_ (by unfold putPpE; rw [if_pos ((mayPp_iff _).2 ok)]))
  simp only [spV, ppV] at h1 hr
  have Xh1 := Lib.hid h1
  have Xhr := Lib.hid hr
  have HS := Lib.hid hs
  clear hs ha hb_   h1 hr
  have HB := Lib.hid (Below.refl w.heap.size w)
  replace HS := Lib.hid (SpAt.past HS.out (.cells #[.int .i64 s0, .int .i64 s1, .int .i64 s2, .int .i64 s3, .int .i64 s4, .int .i64 s5, .slice A cy.length c, .int .i64 s7, .int .i64 s8] 24))
  replace HB := Lib.hid (HB.out.alloc HB.out.size (.cells #[.int .i64 s0, .int .i64 s1, .int .i64 s2, .int .i64 s3, .int .i64 s4, .int .i64 s5, .slice A cy.length c, .int .i64 s7, .int .i64 s8] 24))
  have Ks := Lib.hid (Bk.new w 24 #[.int .i64 s0, .int .i64 s1, .int .i64 s2, .int .i64 s3, .int .i64 s4, .int .i64 s5, .slice A cy.length c, .int .i64 s7, .int .i64 s8])
  replace Ks := Lib.hid (Ks.out.alloc (.cells #[.bool p0, .bool p1, .int .i64 p2, .int .i64 p3, .int .i64 p4, .bool p5, .bool p6, .int .i64 p7, .int .i64 p8] 43))
  replace HS := Lib.hid (SpAt.past HS.out (.cells #[.bool p0, .bool p1, .int .i64 p2, .int .i64 p3, .int .i64 p4, .bool p5, .bool p6, .int .i64 p7, .int .i64 p8] 43))
  replace HB := Lib.hid (HB.out.alloc HB.out.size (.cells #[.bool p0, .bool p1, .int .i64 p2, .int .i64 p3, .int .i64 p4, .bool p5, .bool p6, .int .i64 p7, .int .i64 p8] 43))
  have Kp := Lib.hid (Bk.new (w.alloc (.cells #[.int .i64 s0, .int .i64 s1, .int .i64 s2, .int .i64 s3, .int .i64 s4, .int .i64 s5, .slice A cy.length c, .int .i64 s7, .int .i64 s8] 24)) 43 #[.bool p0, .bool p1, .int .i64 p2, .int .i64 p3, .int .i64 p4, .bool p5, .bool p6, .int .i64 p7, .int .i64 p8])
  go_enter Try.func9, Try.ntmps9
  go_wp2_with fail
  refine (awake_any _).mono ?_
  rintro e w1 ⟨rfl, hb⟩
  replace Ks := Lib.hid (Ks.out.go hb)
  replace Kp := Lib.hid (Kp.out.go hb)
  replace HS := Lib.hid (SpAt.go HS.out hb)
  replace HB := Lib.hid (HB.out.trans (hb.mono HB.out.size))
  clear hb
  have cs_0 := Ks.out.cell 0
  have cs_1 := Ks.out.cell 1
  have cs_2 := Ks.out.cell 2
  have cs_3 := Ks.out.cell 3
  have cs_4 := Ks.out.cell 4
  have cs_5 := Ks.out.cell 5
  have cs_6 := Ks.out.cell 6
  have cs_7 := Ks.out.cell 7
  have cs_8 := Ks.out.cell 8
  simp at cs_0 cs_1 cs_2 cs_3 cs_4 cs_5 cs_6 cs_7 cs_8
  go_wp2_with fail
  clear cs_0 cs_1 cs_2 cs_3 cs_4 cs_5 cs_6 cs_7 cs_8
  refine (Xh1.out _ HS.out (by simpa using hn)).mono ?_
  rintro e w2 ⟨rfl, hb⟩
  replace Ks := Lib.hid (Ks.out.go hb)
  replace Kp := Lib.hid (Kp.out.go hb)
  replace HS := Lib.hid (SpAt.go HS.out hb)
  replace HB := Lib.hid (HB.out.trans (hb.mono HB.out.size))
  clear hb
  clear HS Ks
  have cp_0 := Kp.out.cell 0
  have cp_1 := Kp.out.cell 1
  have cp_2 := Kp.out.cell 2
  have cp_3 := Kp.out.cell 3
  have cp_4 := Kp.out.cell 4
  have cp_5 := Kp.out.cell 5
  have cp_6 := Kp.out.cell 6
  have cp_7 := Kp.out.cell 7
  have cp_8 := Kp.out.cell 8
  simp at cp_0 cp_1 cp_2 cp_3 cp_4 cp_5 cp_6 cp_7 cp_8
  go_wp2_with (go_at_call 17; refine (num_any _ _).mono ?_; rintro e w' ⟨rfl, rfl⟩)
  clear cp_0 cp_1 cp_2 cp_3 cp_4 cp_5 cp_6 cp_7 cp_8
  refine (Xhr.out _).mono ?_
  rintro e w3 ⟨rfl, hb⟩
  replace Kp := Lib.hid (Kp.out.go hb)
  replace HB := Lib.hid (HB.out.trans (hb.mono HB.out.size))
  clear hb
  clear Kp
  go_wp2_with (go_at_call 17; refine (num_any _ _).mono ?_; rintro e w' ⟨rfl, rfl⟩)
  go_ret
  exact ⟨rfl, HB.out⟩
set_option maxRecDepth 100000 in
set_option maxHeartbeats 6400000 in
theorem tails_01 (s0 s1 s2 s3 s4 s5 : Int) (cy : List Int) (A : Option Addr) (c : Nat) (s7 s8 : Int) (p0 p1 : Bool) (p2 p3 p4 : Int) (p5 p6 : Bool) (p7 p8 : Int) (x y : Int) (w : World) (hs : SpAt w w.heap.size ⟨s0, s1, s2, s3, s4, s5, cy, s7, s8⟩ A) (hn : cy.length ≤ 1152921504606846976)
    (ha : ¬ putSpE ⟨s0, s1, s2, s3, s4, s5, cy, s7, s8⟩ = 0) (hb_ : putPpE ⟨p0, p1, p2, p3, p4, p5, p6, p7, p8⟩ = 0) :
    Calls Try.prog 9 #[.agg #[.int .i64 s0, .int .i64 s1, .int .i64 s2, .int .i64 s3, .int .i64 s4, .int .i64 s5, .slice A cy.length c, .int .i64 s7, .int .i64 s8], .agg #[.bool p0, .bool p1, .int .i64 p2, .int .i64 p3, .int .i64 p4, .bool p5, .bool p6, .int .i64 p7, .int .i64 p8], .int .i64 x, .int .i64 y] w fun e w' => e = .returned (.bool true) ∧ Below w.heap.size w w' := by
  have h1 := putsp_no ha A c
  have hr := putpp_yes (pp_again hb_).1
  have hT2 := pp_tail hb_
  obtain ⟨TP, hTP⟩ : ∃ T, T = putPpS ⟨p0, p1, p2, p3, p4, p5, p6, p7, p8⟩ := ⟨_, rfl⟩
  rw [← hTP] at hr hT2
  have HT2 := Lib.hid hT2
  clear hT2
  simp only [spV, ppV] at h1 hr
  have Xh1 := Lib.hid h1
  have Xhr := Lib.hid hr
  have HS := Lib.hid hs
  clear hs ha hb_  hTP h1 hr
  have HB := Lib.hid (Below.refl w.heap.size w)
  replace HS := Lib.hid (SpAt.past HS.out (.cells #[.int .i64 s0, .int .i64 s1, .int .i64 s2, .int .i64 s3, .int .i64 s4, .int .i64 s5, .slice A cy.length c, .int .i64 s7, .int .i64 s8] 24))
  replace HB := Lib.hid (HB.out.alloc HB.out.size (.cells #[.int .i64 s0, .int .i64 s1, .int .i64 s2, .int .i64 s3, .int .i64 s4, .int .i64 s5, .slice A cy.length c, .int .i64 s7, .int .i64 s8] 24))
  have Ks := Lib.hid (Bk.new w 24 #[.int .i64 s0, .int .i64 s1, .int .i64 s2, .int .i64 s3, .int .i64 s4, .int .i64 s5, .slice A cy.length c, .int .i64 s7, .int .i64 s8])
  replace Ks := Lib.hid (Ks.out.alloc (.cells #[.bool p0, .bool p1, .int .i64 p2, .int .i64 p3, .int .i64 p4, .bool p5, .bool p6, .int .i64 p7, .int .i64 p8] 43))
  replace HS := Lib.hid (SpAt.past HS.out (.cells #[.bool p0, .bool p1, .int .i64 p2, .int .i64 p3, .int .i64 p4, .bool p5, .bool p6, .int .i64 p7, .int .i64 p8] 43))
  replace HB := Lib.hid (HB.out.alloc HB.out.size (.cells #[.bool p0, .bool p1, .int .i64 p2, .int .i64 p3, .int .i64 p4, .bool p5, .bool p6, .int .i64 p7, .int .i64 p8] 43))
  have Kp := Lib.hid (Bk.new (w.alloc (.cells #[.int .i64 s0, .int .i64 s1, .int .i64 s2, .int .i64 s3, .int .i64 s4, .int .i64 s5, .slice A cy.length c, .int .i64 s7, .int .i64 s8] 24)) 43 #[.bool p0, .bool p1, .int .i64 p2, .int .i64 p3, .int .i64 p4, .bool p5, .bool p6, .int .i64 p7, .int .i64 p8])
  go_enter Try.func9, Try.ntmps9
  go_wp2_with fail
  refine (awake_any _).mono ?_
  rintro e w1 ⟨rfl, hb⟩
  replace Ks := Lib.hid (Ks.out.go hb)
  replace Kp := Lib.hid (Kp.out.go hb)
  replace HS := Lib.hid (SpAt.go HS.out hb)
  replace HB := Lib.hid (HB.out.trans (hb.mono HB.out.size))
  clear hb
  have cs_0 := Ks.out.cell 0
  have cs_1 := Ks.out.cell 1
  have cs_2 := Ks.out.cell 2
  have cs_3 := Ks.out.cell 3
  have cs_4 := Ks.out.cell 4
  have cs_5 := Ks.out.cell 5
  have cs_6 := Ks.out.cell 6
  have cs_7 := Ks.out.cell 7
  have cs_8 := Ks.out.cell 8
  simp at cs_0 cs_1 cs_2 cs_3 cs_4 cs_5 cs_6 cs_7 cs_8
  go_wp2_with fail
  clear cs_0 cs_1 cs_2 cs_3 cs_4 cs_5 cs_6 cs_7 cs_8
  refine (Xh1.out _ HS.out (by simpa using hn)).mono ?_
  rintro e w2 ⟨rfl, hb⟩
  replace Ks := Lib.hid (Ks.out.go hb)
  replace Kp := Lib.hid (Kp.out.go hb)
  replace HS := Lib.hid (SpAt.go HS.out hb)
  replace HB := Lib.hid (HB.out.trans (hb.mono HB.out.size))
  clear hb
  clear HS Ks
  have cp_0 := Kp.out.cell 0
  have cp_1 := Kp.out.cell 1
  have cp_2 := Kp.out.cell 2
  have cp_3 := Kp.out.cell 3
  have cp_4 := Kp.out.cell 4
  have cp_5 := Kp.out.cell 5
  have cp_6 := Kp.out.cell 6
  have cp_7 := Kp.out.cell 7
  have cp_8 := Kp.out.cell 8
  simp at cp_0 cp_1 cp_2 cp_3 cp_4 cp_5 cp_6 cp_7 cp_8
  go_wp2_with (go_at_call 17; refine (num_any _ _).mono ?_; rintro e w' ⟨rfl, rfl⟩)
  clear cp_0 cp_1 cp_2 cp_3 cp_4 cp_5 cp_6 cp_7 cp_8
  refine (Xhr.out _).mono ?_
  rintro e w3 ⟨rfl, hb⟩
  replace Kp := Lib.hid (Kp.out.go hb)
  replace HB := Lib.hid (HB.out.trans (hb.mono HB.out.size))
  clear hb
  clear Kp
  obtain ⟨hN1, hN2, hcut, happ⟩ := HT2.out
  have hNw : IntKind.u64.wrap (TP.size : Int) = TP.size := by rw [u64_wrap]; omega
  obtain ⟨k, hk, hkN⟩ : ∃ k : Nat, (IntKind.u64.wrap x).tmod (TP.size : Int) = k ∧ k < TP.size := by
    have hu := u64_tmod_bd x TP.size (by omega)
    exact ⟨((IntKind.u64.wrap x).tmod (TP.size : Int)).toNat, by omega, by omega⟩
  have hmx : ¬ (TP.size : Int) < 1 := by omega
  have HC := Lib.hid hcut
  have HA := Lib.hid happ
  clear hcut happ HT2
  go_wp2_with (go_at_call 17; refine (num_any _ _).mono ?_; rintro e w' ⟨rfl, rfl⟩)
  have hcs := size_cut TP k (by omega)
  obtain ⟨Z1, E1, hd1⟩ : ∃ Z E, getPp (sbit (TP.extract 0 k)) (8 * (TP.extract 0 k).size) = (Z, E) := ⟨_, _, rfl⟩
  have hE1 : ¬ E1 = 0 := by
    have := HC.out (TP.extract 0 k) (by omega) (fun a ha => sbit_cut TP k a (by omega) (by omega))
    rw [hd1] at this
    exact this
  have hE1' : (E1 == 0) = false := by simp; exact hE1
  have hG := getpp_is (by omega) hd1
  obtain ⟨z0, z1, z2, z3, z4, z5, z6, z7, z8⟩ := Z1
  simp only [ppV] at hG
  have XG := Lib.hid hG
  clear hG hd1 hE1 HC hk hNw hmx
  refine (XG.out _).mono ?_
  rintro e wx ⟨rfl, hb⟩
  replace HB := Lib.hid (HB.out.trans (hb.mono HB.out.size))
  clear hb
  clear XG hcs
  replace HB := Lib.hid (HB.out.alloc HB.out.size (.cells #[.bool z0, .bool z1, .int .i64 z2, .int .i64 z3, .int .i64 z4, .bool z5, .bool z6, .int .i64 z7, .int .i64 z8] 43))
  have Ko := Lib.hid (Bk.new wx 43 #[.bool z0, .bool z1, .int .i64 z2, .int .i64 z3, .int .i64 z4, .bool z5, .bool z6, .int .i64 z7, .int .i64 z8])
  clear Ko
  obtain ⟨Y, hY⟩ : ∃ Y, IntKind.u8.wrap y = Y := ⟨_, rfl⟩
  have hcv := run_one Y
  have hM1 := oneS_size Y
  generalize oneS Y = M at hcv hM1
  have hM2 : (M.size : Int) ≤ 8388608 := by omega
  have hT2 : (TP.size : Int) ≤ 8388608 := by omega
  go_wp2_with (go_at_call 17; refine (num_any _ _).mono ?_; rintro e w' ⟨rfl, rfl⟩)
  have has : (TP ++ M).size = TP.size + 1 := by rw [ByteArray.size_append]; omega
  obtain ⟨Z2, E2, hd2⟩ : ∃ Z E, getPp (sbit (TP ++ M)) (8 * (TP ++ M).size) = (Z, E) := ⟨_, _, rfl⟩
  have hE2 : ¬ E2 = 0 := by
    have := HA.out (TP ++ M) has (fun a ha => sbit_app TP M a ha)
    rw [hd2] at this
    exact this
  have hE2' : (E2 == 0) = false := by simp; exact hE2
  have hG := getpp_is (by omega) hd2
  obtain ⟨d0, d1, d2, d3, d4, d5, d6, d7, d8⟩ := Z2
  simp only [ppV] at hG
  have XG := Lib.hid hG
  clear hG hd2 hE2 HA hcv hY hM1 hM2 hT2 has
  replace HB := Lib.hid (HB.out.alloc HB.out.size (.cells #[.int .u8 Y] 5))
  have Kq := Lib.hid (Bk.new (wx.alloc (.cells #[.bool z0, .bool z1, .int .i64 z2, .int .i64 z3, .int .i64 z4, .bool z5, .bool z6, .int .i64 z7, .int .i64 z8] 43)) 5 #[.int .u8 Y])
  clear Kq
  refine (XG.out _).mono ?_
  rintro e wy ⟨rfl, hb⟩
  replace HB := Lib.hid (HB.out.trans (hb.mono HB.out.size))
  clear hb
  clear XG
  replace HB := Lib.hid (HB.out.alloc HB.out.size (.cells #[.bool d0, .bool d1, .int .i64 d2, .int .i64 d3, .int .i64 d4, .bool d5, .bool d6, .int .i64 d7, .int .i64 d8] 43))
  have Ko := Lib.hid (Bk.new wy 43 #[.bool d0, .bool d1, .int .i64 d2, .int .i64 d3, .int .i64 d4, .bool d5, .bool d6, .int .i64 d7, .int .i64 d8])
  clear Ko
  go_wp2_with (go_at_call 17; refine (num_any _ _).mono ?_; rintro e w' ⟨rfl, rfl⟩)
  go_ret
  exact ⟨rfl, HB.out⟩
set_option maxRecDepth 100000 in
set_option maxHeartbeats 6400000 in
theorem tails_10 (s0 s1 s2 s3 s4 s5 : Int) (cy : List Int) (A : Option Addr) (c : Nat) (s7 s8 : Int) (p0 p1 : Bool) (p2 p3 p4 : Int) (p5 p6 : Bool) (p7 p8 : Int) (x y : Int) (w : World) (hs : SpAt w w.heap.size ⟨s0, s1, s2, s3, s4, s5, cy, s7, s8⟩ A) (hn : cy.length ≤ 1152921504606846976)
    (ha : putSpE ⟨s0, s1, s2, s3, s4, s5, cy, s7, s8⟩ = 0) (hb_ : ¬ putPpE ⟨p0, p1, p2, p3, p4, p5, p6, p7, p8⟩ = 0) :
    Calls Try.prog 9 #[.agg #[.int .i64 s0, .int .i64 s1, .int .i64 s2, .int .i64 s3, .int .i64 s4, .int .i64 s5, .slice A cy.length c, .int .i64 s7, .int .i64 s8], .agg #[.bool p0, .bool p1, .int .i64 p2, .int .i64 p3, .int .i64 p4, .bool p5, .bool p6, .int .i64 p7, .int .i64 p8], .int .i64 x, .int .i64 y] w fun e w' => e = .returned (.bool true) ∧ Below w.heap.size w w' := by
  have h1 := putsp_yes ha A c
  have hT1 := sp_tail ha
  obtain ⟨TS, hTS⟩ : ∃ T, T = putSpS ⟨s0, s1, s2, s3, s4, s5, cy, s7, s8⟩ := ⟨_, rfl⟩
  rw [← hTS] at h1 hT1
  have HT1 := Lib.hid hT1
  clear hT1
  have hr := putpp_no (fun ok => hb_ (by unfold putPpE; rw [if_pos ((mayPp_iff _).2 ok)]))
  simp only [spV, ppV] at h1 hr
  have Xh1 := Lib.hid h1
  have Xhr := Lib.hid hr
  have HS := Lib.hid hs
  clear hs ha hb_ hTS  h1 hr
  have HB := Lib.hid (Below.refl w.heap.size w)
  replace HS := Lib.hid (SpAt.past HS.out (.cells #[.int .i64 s0, .int .i64 s1, .int .i64 s2, .int .i64 s3, .int .i64 s4, .int .i64 s5, .slice A cy.length c, .int .i64 s7, .int .i64 s8] 24))
  replace HB := Lib.hid (HB.out.alloc HB.out.size (.cells #[.int .i64 s0, .int .i64 s1, .int .i64 s2, .int .i64 s3, .int .i64 s4, .int .i64 s5, .slice A cy.length c, .int .i64 s7, .int .i64 s8] 24))
  have Ks := Lib.hid (Bk.new w 24 #[.int .i64 s0, .int .i64 s1, .int .i64 s2, .int .i64 s3, .int .i64 s4, .int .i64 s5, .slice A cy.length c, .int .i64 s7, .int .i64 s8])
  replace Ks := Lib.hid (Ks.out.alloc (.cells #[.bool p0, .bool p1, .int .i64 p2, .int .i64 p3, .int .i64 p4, .bool p5, .bool p6, .int .i64 p7, .int .i64 p8] 43))
  replace HS := Lib.hid (SpAt.past HS.out (.cells #[.bool p0, .bool p1, .int .i64 p2, .int .i64 p3, .int .i64 p4, .bool p5, .bool p6, .int .i64 p7, .int .i64 p8] 43))
  replace HB := Lib.hid (HB.out.alloc HB.out.size (.cells #[.bool p0, .bool p1, .int .i64 p2, .int .i64 p3, .int .i64 p4, .bool p5, .bool p6, .int .i64 p7, .int .i64 p8] 43))
  have Kp := Lib.hid (Bk.new (w.alloc (.cells #[.int .i64 s0, .int .i64 s1, .int .i64 s2, .int .i64 s3, .int .i64 s4, .int .i64 s5, .slice A cy.length c, .int .i64 s7, .int .i64 s8] 24)) 43 #[.bool p0, .bool p1, .int .i64 p2, .int .i64 p3, .int .i64 p4, .bool p5, .bool p6, .int .i64 p7, .int .i64 p8])
  go_enter Try.func9, Try.ntmps9
  go_wp2_with fail
  refine (awake_any _).mono ?_
  rintro e w1 ⟨rfl, hb⟩
  replace Ks := Lib.hid (Ks.out.go hb)
  replace Kp := Lib.hid (Kp.out.go hb)
  replace HS := Lib.hid (SpAt.go HS.out hb)
  replace HB := Lib.hid (HB.out.trans (hb.mono HB.out.size))
  clear hb
  have cs_0 := Ks.out.cell 0
  have cs_1 := Ks.out.cell 1
  have cs_2 := Ks.out.cell 2
  have cs_3 := Ks.out.cell 3
  have cs_4 := Ks.out.cell 4
  have cs_5 := Ks.out.cell 5
  have cs_6 := Ks.out.cell 6
  have cs_7 := Ks.out.cell 7
  have cs_8 := Ks.out.cell 8
  simp at cs_0 cs_1 cs_2 cs_3 cs_4 cs_5 cs_6 cs_7 cs_8
  go_wp2_with fail
  clear cs_0 cs_1 cs_2 cs_3 cs_4 cs_5 cs_6 cs_7 cs_8
  refine (Xh1.out _ HS.out (by simpa using hn)).mono ?_
  rintro e w2 ⟨rfl, hb⟩
  replace Ks := Lib.hid (Ks.out.go hb)
  replace Kp := Lib.hid (Kp.out.go hb)
  replace HS := Lib.hid (SpAt.go HS.out hb)
  replace HB := Lib.hid (HB.out.trans (hb.mono HB.out.size))
  clear hb
  clear HS Ks
  obtain ⟨hN1, hN2, hcut, happ⟩ := HT1.out
  have hNw : IntKind.u64.wrap (TS.size : Int) = TS.size := by rw [u64_wrap]; omega
  obtain ⟨k, hk, hkN⟩ : ∃ k : Nat, (IntKind.u64.wrap x).tmod (TS.size : Int) = k ∧ k < TS.size := by
    have hu := u64_tmod_bd x TS.size (by omega)
    exact ⟨((IntKind.u64.wrap x).tmod (TS.size : Int)).toNat, by omega, by omega⟩
  have hmx : ¬ (TS.size : Int) < 1 := by omega
  have HC := Lib.hid hcut
  have HA := Lib.hid happ
  clear hcut happ HT1
  go_wp2_with (go_at_call 17; refine (num_any _ _).mono ?_; rintro e w' ⟨rfl, rfl⟩)
  have hcs := size_cut TS k (by omega)
  obtain ⟨Z1, E1, hd1⟩ : ∃ Z E, getSp (sbit (TS.extract 0 k)) (8 * (TS.extract 0 k).size) = (Z, E) := ⟨_, _, rfl⟩
  have hE1 : ¬ E1 = 0 := by
    have := HC.out (TS.extract 0 k) (by omega) (fun a ha => sbit_cut TS k a (by omega) (by omega))
    rw [hd1] at this
    exact this
  have hE1' : (E1 == 0) = false := by simp; exact hE1
  have hG := getsp_is (by omega) hd1
  obtain ⟨z0, z1, z2, z3, z4, z5, cz, z7, z8⟩ := Z1
  simp only [spV] at hG
  have XG := Lib.hid hG
  clear hG hd1 hE1 HC hk hNw hmx
  refine (XG.out _).mono ?_
  rintro e wx ⟨A1, c1, rfl, _, _, hb⟩
  replace Kp := Lib.hid (Kp.out.go hb)
  replace HB := Lib.hid (HB.out.trans (hb.mono HB.out.size))
  clear hb
  clear XG hcs
  replace Kp := Lib.hid (Kp.out.alloc (.cells #[.int .i64 z0, .int .i64 z1, .int .i64 z2, .int .i64 z3, .int .i64 z4, .int .i64 z5, .slice A1 cz.length c1, .int .i64 z7, .int .i64 z8] 24))
  replace HB := Lib.hid (HB.out.alloc HB.out.size (.cells #[.int .i64 z0, .int .i64 z1, .int .i64 z2, .int .i64 z3, .int .i64 z4, .int .i64 z5, .slice A1 cz.length c1, .int .i64 z7, .int .i64 z8] 24))
  have Ko := Lib.hid (Bk.new wx 24 #[.int .i64 z0, .int .i64 z1, .int .i64 z2, .int .i64 z3, .int .i64 z4, .int .i64 z5, .slice A1 cz.length c1, .int .i64 z7, .int .i64 z8])
  clear Ko
  obtain ⟨Y, hY⟩ : ∃ Y, IntKind.u8.wrap y = Y := ⟨_, rfl⟩
  have hcv := run_one Y
  have hM1 := oneS_size Y
  generalize oneS Y = M at hcv hM1
  have hM2 : (M.size : Int) ≤ 8388608 := by omega
  have hT2 : (TS.size : Int) ≤ 8388608 := by omega
  go_wp2_with (go_at_call 17; refine (num_any _ _).mono ?_; rintro e w' ⟨rfl, rfl⟩)
  have has : (TS ++ M).size = TS.size + 1 := by rw [ByteArray.size_append]; omega
  obtain ⟨Z2, E2, hd2⟩ : ∃ Z E, getSp (sbit (TS ++ M)) (8 * (TS ++ M).size) = (Z, E) := ⟨_, _, rfl⟩
  have hE2 : ¬ E2 = 0 := by
    have := HA.out (TS ++ M) has (fun a ha => sbit_app TS M a ha)
    rw [hd2] at this
    exact this
  have hE2' : (E2 == 0) = false := by simp; exact hE2
  have hG := getsp_is (by omega) hd2
  obtain ⟨d0, d1, d2, d3, d4, d5, cd, d7, d8⟩ := Z2
  simp only [spV] at hG
  have XG := Lib.hid hG
  clear hG hd2 hE2 HA hcv hY hM1 hM2 hT2 has
  replace Kp := Lib.hid (Kp.out.alloc (.cells #[.int .u8 Y] 5))
  replace HB := Lib.hid (HB.out.alloc HB.out.size (.cells #[.int .u8 Y] 5))
  have Kq := Lib.hid (Bk.new (wx.alloc (.cells #[.int .i64 z0, .int .i64 z1, .int .i64 z2, .int .i64 z3, .int .i64 z4, .int .i64 z5, .slice A1 cz.length c1, .int .i64 z7, .int .i64 z8] 24)) 5 #[.int .u8 Y])
  clear Kq
  refine (XG.out _).mono ?_
  rintro e wy ⟨A2, c2, rfl, _, _, hb⟩
  replace Kp := Lib.hid (Kp.out.go hb)
  replace HB := Lib.hid (HB.out.trans (hb.mono HB.out.size))
  clear hb
  clear XG
  replace Kp := Lib.hid (Kp.out.alloc (.cells #[.int .i64 d0, .int .i64 d1, .int .i64 d2, .int .i64 d3, .int .i64 d4, .int .i64 d5, .slice A2 cd.length c2, .int .i64 d7, .int .i64 d8] 24))
  replace HB := Lib.hid (HB.out.alloc HB.out.size (.cells #[.int .i64 d0, .int .i64 d1, .int .i64 d2, .int .i64 d3, .int .i64 d4, .int .i64 d5, .slice A2 cd.length c2, .int .i64 d7, .int .i64 d8] 24))
  have Ko := Lib.hid (Bk.new wy 24 #[.int .i64 d0, .int .i64 d1, .int .i64 d2, .int .i64 d3, .int .i64 d4, .int .i64 d5, .slice A2 cd.length c2, .int .i64 d7, .int .i64 d8])
  clear Ko
  have cp_0 := Kp.out.cell 0
  have cp_1 := Kp.out.cell 1
  have cp_2 := Kp.out.cell 2
  have cp_3 := Kp.out.cell 3
  have cp_4 := Kp.out.cell 4
  have cp_5 := Kp.out.cell 5
  have cp_6 := Kp.out.cell 6
  have cp_7 := Kp.out.cell 7
  have cp_8 := Kp.out.cell 8
  simp at cp_0 cp_1 cp_2 cp_3 cp_4 cp_5 cp_6 cp_7 cp_8
  go_wp2_with (go_at_call 17; refine (num_any _ _).mono ?_; rintro e w' ⟨rfl, rfl⟩)
  clear cp_0 cp_1 cp_2 cp_3 cp_4 cp_5 cp_6 cp_7 cp_8
  refine (Xhr.out _).mono ?_
  rintro e w3 ⟨rfl, hb⟩
  replace Kp := Lib.hid (Kp.out.go hb)
  replace HB := Lib.hid (HB.out.trans (hb.mono HB.out.size))
  clear hb
  clear Kp
  go_wp2_with (go_at_call 17; refine (num_any _ _).mono ?_; rintro e w' ⟨rfl, rfl⟩)
  go_ret
  exact ⟨rfl, HB.out⟩
set_option maxRecDepth 100000 in
set_option maxHeartbeats 6400000 in
theorem tails_11 (s0 s1 s2 s3 s4 s5 : Int) (cy : List Int) (A : Option Addr) (c : Nat) (s7 s8 : Int) (p0 p1 : Bool) (p2 p3 p4 : Int) (p5 p6 : Bool) (p7 p8 : Int) (x y : Int) (w : World) (hs : SpAt w w.heap.size ⟨s0, s1, s2, s3, s4, s5, cy, s7, s8⟩ A) (hn : cy.length ≤ 1152921504606846976)
    (ha : putSpE ⟨s0, s1, s2, s3, s4, s5, cy, s7, s8⟩ = 0) (hb_ : putPpE ⟨p0, p1, p2, p3, p4, p5, p6, p7, p8⟩ = 0) :
    Calls Try.prog 9 #[.agg #[.int .i64 s0, .int .i64 s1, .int .i64 s2, .int .i64 s3, .int .i64 s4, .int .i64 s5, .slice A cy.length c, .int .i64 s7, .int .i64 s8], .agg #[.bool p0, .bool p1, .int .i64 p2, .int .i64 p3, .int .i64 p4, .bool p5, .bool p6, .int .i64 p7, .int .i64 p8], .int .i64 x, .int .i64 y] w fun e w' => e = .returned (.bool true) ∧ Below w.heap.size w w' := by
  have h1 := putsp_yes ha A c
  have hT1 := sp_tail ha
  obtain ⟨TS, hTS⟩ : ∃ T, T = putSpS ⟨s0, s1, s2, s3, s4, s5, cy, s7, s8⟩ := ⟨_, rfl⟩
  rw [← hTS] at h1 hT1
  have HT1 := Lib.hid hT1
  clear hT1
  have hr := putpp_yes (pp_again hb_).1
  have hT2 := pp_tail hb_
  obtain ⟨TP, hTP⟩ : ∃ T, T = putPpS ⟨p0, p1, p2, p3, p4, p5, p6, p7, p8⟩ := ⟨_, rfl⟩
  rw [← hTP] at hr hT2
  have HT2 := Lib.hid hT2
  clear hT2
  simp only [spV, ppV] at h1 hr
  have Xh1 := Lib.hid h1
  have Xhr := Lib.hid hr
  have HS := Lib.hid hs
  clear hs ha hb_ hTS hTP h1 hr
  have HB := Lib.hid (Below.refl w.heap.size w)
  replace HS := Lib.hid (SpAt.past HS.out (.cells #[.int .i64 s0, .int .i64 s1, .int .i64 s2, .int .i64 s3, .int .i64 s4, .int .i64 s5, .slice A cy.length c, .int .i64 s7, .int .i64 s8] 24))
  replace HB := Lib.hid (HB.out.alloc HB.out.size (.cells #[.int .i64 s0, .int .i64 s1, .int .i64 s2, .int .i64 s3, .int .i64 s4, .int .i64 s5, .slice A cy.length c, .int .i64 s7, .int .i64 s8] 24))
  have Ks := Lib.hid (Bk.new w 24 #[.int .i64 s0, .int .i64 s1, .int .i64 s2, .int .i64 s3, .int .i64 s4, .int .i64 s5, .slice A cy.length c, .int .i64 s7, .int .i64 s8])
  replace Ks := Lib.hid (Ks.out.alloc (.cells #[.bool p0, .bool p1, .int .i64 p2, .int .i64 p3, .int .i64 p4, .bool p5, .bool p6, .int .i64 p7, .int .i64 p8] 43))
  replace HS := Lib.hid (SpAt.past HS.out (.cells #[.bool p0, .bool p1, .int .i64 p2, .int .i64 p3, .int .i64 p4, .bool p5, .bool p6, .int .i64 p7, .int .i64 p8] 43))
  replace HB := Lib.hid (HB.out.alloc HB.out.size (.cells #[.bool p0, .bool p1, .int .i64 p2, .int .i64 p3, .int .i64 p4, .bool p5, .bool p6, .int .i64 p7, .int .i64 p8] 43))
  have Kp := Lib.hid (Bk.new (w.alloc (.cells #[.int .i64 s0, .int .i64 s1, .int .i64 s2, .int .i64 s3, .int .i64 s4, .int .i64 s5, .slice A cy.length c, .int .i64 s7, .int .i64 s8] 24)) 43 #[.bool p0, .bool p1, .int .i64 p2, .int .i64 p3, .int .i64 p4, .bool p5, .bool p6, .int .i64 p7, .int .i64 p8])
  go_enter Try.func9, Try.ntmps9
  go_wp2_with fail
  refine (awake_any _).mono ?_
  rintro e w1 ⟨rfl, hb⟩
  replace Ks := Lib.hid (Ks.out.go hb)
  replace Kp := Lib.hid (Kp.out.go hb)
  replace HS := Lib.hid (SpAt.go HS.out hb)
  replace HB := Lib.hid (HB.out.trans (hb.mono HB.out.size))
  clear hb
  have cs_0 := Ks.out.cell 0
  have cs_1 := Ks.out.cell 1
  have cs_2 := Ks.out.cell 2
  have cs_3 := Ks.out.cell 3
  have cs_4 := Ks.out.cell 4
  have cs_5 := Ks.out.cell 5
  have cs_6 := Ks.out.cell 6
  have cs_7 := Ks.out.cell 7
  have cs_8 := Ks.out.cell 8
  simp at cs_0 cs_1 cs_2 cs_3 cs_4 cs_5 cs_6 cs_7 cs_8
  go_wp2_with fail
  clear cs_0 cs_1 cs_2 cs_3 cs_4 cs_5 cs_6 cs_7 cs_8
  refine (Xh1.out _ HS.out (by simpa using hn)).mono ?_
  rintro e w2 ⟨rfl, hb⟩
  replace Ks := Lib.hid (Ks.out.go hb)
  replace Kp := Lib.hid (Kp.out.go hb)
  replace HS := Lib.hid (SpAt.go HS.out hb)
  replace HB := Lib.hid (HB.out.trans (hb.mono HB.out.size))
  clear hb
  clear HS Ks
  obtain ⟨hN1, hN2, hcut, happ⟩ := HT1.out
  have hNw : IntKind.u64.wrap (TS.size : Int) = TS.size := by rw [u64_wrap]; omega
  obtain ⟨k, hk, hkN⟩ : ∃ k : Nat, (IntKind.u64.wrap x).tmod (TS.size : Int) = k ∧ k < TS.size := by
    have hu := u64_tmod_bd x TS.size (by omega)
    exact ⟨((IntKind.u64.wrap x).tmod (TS.size : Int)).toNat, by omega, by omega⟩
  have hmx : ¬ (TS.size : Int) < 1 := by omega
  have HC := Lib.hid hcut
  have HA := Lib.hid happ
  clear hcut happ HT1
  go_wp2_with (go_at_call 17; refine (num_any _ _).mono ?_; rintro e w' ⟨rfl, rfl⟩)
  have hcs := size_cut TS k (by omega)
  obtain ⟨Z1, E1, hd1⟩ : ∃ Z E, getSp (sbit (TS.extract 0 k)) (8 * (TS.extract 0 k).size) = (Z, E) := ⟨_, _, rfl⟩
  have hE1 : ¬ E1 = 0 := by
    have := HC.out (TS.extract 0 k) (by omega) (fun a ha => sbit_cut TS k a (by omega) (by omega))
    rw [hd1] at this
    exact this
  have hE1' : (E1 == 0) = false := by simp; exact hE1
  have hG := getsp_is (by omega) hd1
  obtain ⟨z0, z1, z2, z3, z4, z5, cz, z7, z8⟩ := Z1
  simp only [spV] at hG
  have XG := Lib.hid hG
  clear hG hd1 hE1 HC hk hNw hmx
  refine (XG.out _).mono ?_
  rintro e wx ⟨A1, c1, rfl, _, _, hb⟩
  replace Kp := Lib.hid (Kp.out.go hb)
  replace HB := Lib.hid (HB.out.trans (hb.mono HB.out.size))
  clear hb
  clear XG hcs
  replace Kp := Lib.hid (Kp.out.alloc (.cells #[.int .i64 z0, .int .i64 z1, .int .i64 z2, .int .i64 z3, .int .i64 z4, .int .i64 z5, .slice A1 cz.length c1, .int .i64 z7, .int .i64 z8] 24))
  replace HB := Lib.hid (HB.out.alloc HB.out.size (.cells #[.int .i64 z0, .int .i64 z1, .int .i64 z2, .int .i64 z3, .int .i64 z4, .int .i64 z5, .slice A1 cz.length c1, .int .i64 z7, .int .i64 z8] 24))
  have Ko := Lib.hid (Bk.new wx 24 #[.int .i64 z0, .int .i64 z1, .int .i64 z2, .int .i64 z3, .int .i64 z4, .int .i64 z5, .slice A1 cz.length c1, .int .i64 z7, .int .i64 z8])
  clear Ko
  obtain ⟨Y, hY⟩ : ∃ Y, IntKind.u8.wrap y = Y := ⟨_, rfl⟩
  have hcv := run_one Y
  have hM1 := oneS_size Y
  generalize oneS Y = M at hcv hM1
  have hM2 : (M.size : Int) ≤ 8388608 := by omega
  have hT2 : (TS.size : Int) ≤ 8388608 := by omega
  go_wp2_with (go_at_call 17; refine (num_any _ _).mono ?_; rintro e w' ⟨rfl, rfl⟩)
  have has : (TS ++ M).size = TS.size + 1 := by rw [ByteArray.size_append]; omega
  obtain ⟨Z2, E2, hd2⟩ : ∃ Z E, getSp (sbit (TS ++ M)) (8 * (TS ++ M).size) = (Z, E) := ⟨_, _, rfl⟩
  have hE2 : ¬ E2 = 0 := by
    have := HA.out (TS ++ M) has (fun a ha => sbit_app TS M a ha)
    rw [hd2] at this
    exact this
  have hE2' : (E2 == 0) = false := by simp; exact hE2
  have hG := getsp_is (by omega) hd2
  obtain ⟨d0, d1, d2, d3, d4, d5, cd, d7, d8⟩ := Z2
  simp only [spV] at hG
  have XG := Lib.hid hG
  clear hG hd2 hE2 HA hcv hY hM1 hM2 hT2 has
  replace Kp := Lib.hid (Kp.out.alloc (.cells #[.int .u8 Y] 5))
  replace HB := Lib.hid (HB.out.alloc HB.out.size (.cells #[.int .u8 Y] 5))
  have Kq := Lib.hid (Bk.new (wx.alloc (.cells #[.int .i64 z0, .int .i64 z1, .int .i64 z2, .int .i64 z3, .int .i64 z4, .int .i64 z5, .slice A1 cz.length c1, .int .i64 z7, .int .i64 z8] 24)) 5 #[.int .u8 Y])
  clear Kq
  refine (XG.out _).mono ?_
  rintro e wy ⟨A2, c2, rfl, _, _, hb⟩
  replace Kp := Lib.hid (Kp.out.go hb)
  replace HB := Lib.hid (HB.out.trans (hb.mono HB.out.size))
  clear hb
  clear XG
  replace Kp := Lib.hid (Kp.out.alloc (.cells #[.int .i64 d0, .int .i64 d1, .int .i64 d2, .int .i64 d3, .int .i64 d4, .int .i64 d5, .slice A2 cd.length c2, .int .i64 d7, .int .i64 d8] 24))
  replace HB := Lib.hid (HB.out.alloc HB.out.size (.cells #[.int .i64 d0, .int .i64 d1, .int .i64 d2, .int .i64 d3, .int .i64 d4, .int .i64 d5, .slice A2 cd.length c2, .int .i64 d7, .int .i64 d8] 24))
  have Ko := Lib.hid (Bk.new wy 24 #[.int .i64 d0, .int .i64 d1, .int .i64 d2, .int .i64 d3, .int .i64 d4, .int .i64 d5, .slice A2 cd.length c2, .int .i64 d7, .int .i64 d8])
  clear Ko
  have cp_0 := Kp.out.cell 0
  have cp_1 := Kp.out.cell 1
  have cp_2 := Kp.out.cell 2
  have cp_3 := Kp.out.cell 3
  have cp_4 := Kp.out.cell 4
  have cp_5 := Kp.out.cell 5
  have cp_6 := Kp.out.cell 6
  have cp_7 := Kp.out.cell 7
  have cp_8 := Kp.out.cell 8
  simp at cp_0 cp_1 cp_2 cp_3 cp_4 cp_5 cp_6 cp_7 cp_8
  go_wp2_with (go_at_call 17; refine (num_any _ _).mono ?_; rintro e w' ⟨rfl, rfl⟩)
  clear cp_0 cp_1 cp_2 cp_3 cp_4 cp_5 cp_6 cp_7 cp_8
  refine (Xhr.out _).mono ?_
  rintro e w3 ⟨rfl, hb⟩
  replace Kp := Lib.hid (Kp.out.go hb)
  replace HB := Lib.hid (HB.out.trans (hb.mono HB.out.size))
  clear hb
  clear Kp
  obtain ⟨hN1, hN2, hcut, happ⟩ := HT2.out
  have hNw : IntKind.u64.wrap (TP.size : Int) = TP.size := by rw [u64_wrap]; omega
  obtain ⟨k, hk, hkN⟩ : ∃ k : Nat, (IntKind.u64.wrap x).tmod (TP.size : Int) = k ∧ k < TP.size := by
    have hu := u64_tmod_bd x TP.size (by omega)
    exact ⟨((IntKind.u64.wrap x).tmod (TP.size : Int)).toNat, by omega, by omega⟩
  have hmx : ¬ (TP.size : Int) < 1 := by omega
  have HC := Lib.hid hcut
  have HA := Lib.hid happ
  clear hcut happ HT2
  go_wp2_with (go_at_call 17; refine (num_any _ _).mono ?_; rintro e w' ⟨rfl, rfl⟩)
  have hcs := size_cut TP k (by omega)
  obtain ⟨Z1, E1, hd1⟩ : ∃ Z E, getPp (sbit (TP.extract 0 k)) (8 * (TP.extract 0 k).size) = (Z, E) := ⟨_, _, rfl⟩
  have hE1 : ¬ E1 = 0 := by
    have := HC.out (TP.extract 0 k) (by omega) (fun a ha => sbit_cut TP k a (by omega) (by omega))
    rw [hd1] at this
    exact this
  have hE1' : (E1 == 0) = false := by simp; exact hE1
  have hG := getpp_is (by omega) hd1
  obtain ⟨z0, z1, z2, z3, z4, z5, z6, z7, z8⟩ := Z1
  simp only [ppV] at hG
  have XG := Lib.hid hG
  clear hG hd1 hE1 HC hk hNw hmx
  refine (XG.out _).mono ?_
  rintro e wx ⟨rfl, hb⟩
  replace HB := Lib.hid (HB.out.trans (hb.mono HB.out.size))
  clear hb
  clear XG hcs
  replace HB := Lib.hid (HB.out.alloc HB.out.size (.cells #[.bool z0, .bool z1, .int .i64 z2, .int .i64 z3, .int .i64 z4, .bool z5, .bool z6, .int .i64 z7, .int .i64 z8] 43))
  have Ko := Lib.hid (Bk.new wx 43 #[.bool z0, .bool z1, .int .i64 z2, .int .i64 z3, .int .i64 z4, .bool z5, .bool z6, .int .i64 z7, .int .i64 z8])
  clear Ko
  obtain ⟨Y, hY⟩ : ∃ Y, IntKind.u8.wrap y = Y := ⟨_, rfl⟩
  have hcv := run_one Y
  have hM1 := oneS_size Y
  generalize oneS Y = M at hcv hM1
  have hM2 : (M.size : Int) ≤ 8388608 := by omega
  have hT2 : (TP.size : Int) ≤ 8388608 := by omega
  go_wp2_with (go_at_call 17; refine (num_any _ _).mono ?_; rintro e w' ⟨rfl, rfl⟩)
  have has : (TP ++ M).size = TP.size + 1 := by rw [ByteArray.size_append]; omega
  obtain ⟨Z2, E2, hd2⟩ : ∃ Z E, getPp (sbit (TP ++ M)) (8 * (TP ++ M).size) = (Z, E) := ⟨_, _, rfl⟩
  have hE2 : ¬ E2 = 0 := by
    have := HA.out (TP ++ M) has (fun a ha => sbit_app TP M a ha)
    rw [hd2] at this
    exact this
  have hE2' : (E2 == 0) = false := by simp; exact hE2
  have hG := getpp_is (by omega) hd2
  obtain ⟨d0, d1, d2, d3, d4, d5, d6, d7, d8⟩ := Z2
  simp only [ppV] at hG
  have XG := Lib.hid hG
  clear hG hd2 hE2 HA hcv hY hM1 hM2 hT2 has
  replace HB := Lib.hid (HB.out.alloc HB.out.size (.cells #[.int .u8 Y] 5))
  have Kq := Lib.hid (Bk.new (wx.alloc (.cells #[.bool z0, .bool z1, .int .i64 z2, .int .i64 z3, .int .i64 z4, .bool z5, .bool z6, .int .i64 z7, .int .i64 z8] 43)) 5 #[.int .u8 Y])
  clear Kq
  refine (XG.out _).mono ?_
  rintro e wy ⟨rfl, hb⟩
  replace HB := Lib.hid (HB.out.trans (hb.mono HB.out.size))
  clear hb
  clear XG
  replace HB := Lib.hid (HB.out.alloc HB.out.size (.cells #[.bool d0, .bool d1, .int .i64 d2, .int .i64 d3, .int .i64 d4, .bool d5, .bool d6, .int .i64 d7, .int .i64 d8] 43))
  have Ko := Lib.hid (Bk.new wy 43 #[.bool d0, .bool d1, .int .i64 d2, .int .i64 d3, .int .i64 d4, .bool d5, .bool d6, .int .i64 d7, .int .i64 d8])
  clear Ko
  go_wp2_with (go_at_call 17; refine (num_any _ _).mono ?_; rintro e w' ⟨rfl, rfl⟩)
  go_ret
  exact ⟨rfl, HB.out⟩
theorem walk_ParamsTails (a0_Wide : Int) (a0_High : Int) (a0_FrameBits : Int) (a0_PocType : Int) (a0_PocBits : Int) (a0_NonRef : Int) (a0_Cycle : Option Addr) (len_a0_Cycle cap_a0_Cycle : Nat) (z_a0_Cycle : Nat → Int) (a0_Refs : Int) (a0_Delay : Int) (a1_Cabac : Bool) (a1_Weighted : Bool) (a1_BiPred : Int) (a1_Qp : Int) (a1_ChromaQp : Int) (a1_Constrained : Bool) (a1_Deblock : Bool) (a1_Active0 : Int) (a1_Active1 : Int) (a2 : Int) (a3 : Int) (w : World) (w_a0_Wide : (Lit.int .i64 a0_Wide).wf = true) (w_a0_High : (Lit.int .i64 a0_High).wf = true) (w_a0_FrameBits : (Lit.int .i64 a0_FrameBits).wf = true) (w_a0_PocType : (Lit.int .i64 a0_PocType).wf = true) (w_a0_PocBits : (Lit.int .i64 a0_PocBits).wf = true) (w_a0_NonRef : (Lit.int .i64 a0_NonRef).wf = true) (w_a0_Cycle : IntsArg w a0_Cycle len_a0_Cycle cap_a0_Cycle z_a0_Cycle) (w_a0_Refs : (Lit.int .i64 a0_Refs).wf = true) (w_a0_Delay : (Lit.int .i64 a0_Delay).wf = true) (w_a1_BiPred : (Lit.int .i64 a1_BiPred).wf = true) (w_a1_Qp : (Lit.int .i64 a1_Qp).wf = true) (w_a1_ChromaQp : (Lit.int .i64 a1_ChromaQp).wf = true) (w_a1_Active0 : (Lit.int .i64 a1_Active0).wf = true) (w_a1_Active1 : (Lit.int .i64 a1_Active1).wf = true) (w_a2 : (Lit.int .i64 a2).wf = true) (w_a3 : (Lit.int .i64 a3).wf = true) :
    Calls Try.prog 9 #[.agg #[.int .i64 a0_Wide, .int .i64 a0_High, .int .i64 a0_FrameBits, .int .i64 a0_PocType, .int .i64 a0_PocBits, .int .i64 a0_NonRef, .slice a0_Cycle len_a0_Cycle cap_a0_Cycle, .int .i64 a0_Refs, .int .i64 a0_Delay], .agg #[.bool a1_Cabac, .bool a1_Weighted, .int .i64 a1_BiPred, .int .i64 a1_Qp, .int .i64 a1_ChromaQp, .bool a1_Constrained, .bool a1_Deblock, .int .i64 a1_Active0, .int .i64 a1_Active1], .int .i64 a2, .int .i64 a3] w fun e w' => e = .returned (.bool true) ∧ Below w.heap.size w w' := by
  obtain ⟨hri, _, hnc, hc8, _⟩ := w_a0_Cycle
  obtain ⟨cy, hcy⟩ : ∃ l, l = (List.range len_a0_Cycle).map z_a0_Cycle := ⟨_, rfl⟩
  have hs : SpAt w w.heap.size ⟨a0_Wide, a0_High, a0_FrameBits, a0_PocType, a0_PocBits, a0_NonRef, cy, a0_Refs, a0_Delay⟩ a0_Cycle := SpAt.arg hri hcy
  obtain rfl : cy.length = len_a0_Cycle := by rw [hcy]; simp
  have hn : cy.length ≤ 1152921504606846976 := by omega
  clear hcy hri
  by_cases h1 : putSpE ⟨a0_Wide, a0_High, a0_FrameBits, a0_PocType, a0_PocBits, a0_NonRef, cy, a0_Refs, a0_Delay⟩ = 0 <;>
    by_cases h2 : putPpE ⟨a1_Cabac, a1_Weighted, a1_BiPred, a1_Qp, a1_ChromaQp, a1_Constrained, a1_Deblock, a1_Active0, a1_Active1⟩ = 0
  · exact tails_11 _ _ _ _ _ _ cy _ _ _ _ _ _ _ _ _ _ _ _ _ a2 a3 w hs hn h1 h2
  · exact tails_10 _ _ _ _ _ _ cy _ _ _ _ _ _ _ _ _ _ _ _ _ a2 a3 w hs hn h1 h2
  · exact tails_01 _ _ _ _ _ _ cy _ _ _ _ _ _ _ _ _ _ _ _ _ a2 a3 w hs hn h1 h2
  · exact tails_00 _ _ _ _ _ _ cy _ _ _ _ _ _ _ _ _ _ _ _ _ a2 a3 w hs hn h1 h2
end Go.Proofs.Ytegfglpaabddlaa
