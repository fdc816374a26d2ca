/- The statement NalBack: the walk. -/
import Derived.Test.YtndlmhpbnaohpaaNalM
import Derived.Test.YtndlmhpbnaohpaaLawC
import Derived.Test.YtndlmhpbnaohpaaLawG
import Derived.Test.YtndlmhpbnaohpaaStructs
import Derived.Deep.DeepCutAuto
namespace Go.Proofs.Ytndlmhpbnaohpaa
open Go.RowKit
set_option linter.unusedVariables false
set_option linter.unusedSimpArgs false

theorem splitUp (s : ByteArray) {w : World} (h : Up w) (hs : s.size ≤ 16777216) :
    Calls Try.prog 22 #[.string s] w fun e w' => ∃ v, e = .returned (.tuple #[v, .int .i64 (spE s)]) ∧ w'.ownsRow w.heap.size 9 1 v (spL s).length (sV (spL s)) ∧ Below w.heap.size w w' := by
  have h0 := h.pos
  obtain ⟨m, hm⟩ := h
  exact split0 s m w hs hm h0

set_option maxRecDepth 100000 in
set_option maxHeartbeats 6400000 in
theorem walk_NalBack (a0 : Option Addr) (n0 c0 : Nat) (V : Nat → Nat → Value) (zR zT : Nat → Int) (zS : Nat → ByteArray) (w : World) (w_a0 : RowsOf w a0 n0 c0 3 V) (e_R : ∀ k, k < n0 → V k 0 = .int .i64 (zR k)) (e_T : ∀ k, k < n0 → V k 1 = .int .i64 (zT k)) (e_S : ∀ k, k < n0 → V k 2 = .string (zS k)) (f_R : ∀ k, (Lit.int .i64 (zR k)).wf = true) (f_T : ∀ k, (Lit.int .i64 (zT k)).wf = true) (f_S : ∀ k, (zS k).size ≤ maxLen) (s_a0 : c0 ≤ 1048576) (t_S : ((List.range n0).map fun k => (zS k).size).sum ≤ 1048576) (w_sh : w.ShapedOpen Try.prog) :
    Calls Try.prog 6 #[.slice a0 n0 c0] w fun e w' => e = .returned (.bool true) ∧ Below w.heap.size w w' := by
  have HP := Lib.hid (Up.of_shaped w_sh)
  obtain ⟨hrow, hnil, hnc⟩ := w_a0
  have hn : n0 ≤ 1048576 := by omega
  obtain ⟨S, hSd⟩ : ∃ S : Nat → ByteArray, S = fun k => if k < n0 then zS k else ByteArray.empty := ⟨_, rfl⟩
  have hSe : ∀ k, k < n0 → S k = zS k := fun k hk => by rw [hSd]; simp only; rw [if_pos hk]
  have hS1 : ∀ k, (S k).size ≤ 1048576 := fun k => by
    rw [hSd]
    simp only
    split
    · rename_i hk
      have : (zS k).size ≤ _ := le_sum (fun k => (zS k).size) n0 k hk
      omega
    · exact Nat.zero_le _
  have hsum : ((List.range n0).map fun k => (S k).size).sum ≤ 1048576 := by
    have e : ((List.range n0).map fun k => (S k).size) = (List.range n0).map fun k => (zS k).size := List.map_congr_left fun k hk => by rw [hSe k (List.mem_range.1 hk)]
    rw [e]
    exact t_S
  have hU : Us w w.heap.size a0 n0 zR zT S := fun h => by
    obtain ⟨ad, e, hb, hc⟩ := hrow h
    refine ⟨ad, e, hb, fun k hk => ⟨?_, ?_, ?_⟩⟩
    · have := hc k hk 0 (by omega); rw [e_R k hk, Nat.add_zero] at this; exact this
    · rw [← add_off _ _ _ (by omega)]; have := hc k hk 1 (by omega); rw [e_T k hk] at this; exact this
    · rw [← add_off _ _ _ (by omega)]; have := hc k hk 2 (by omega); rw [e_S k hk, ← hSe k hk] at this; exact this
  have hX : (jnS zR zT S n0).size ≤ 16777216 := by
    have := join_size zR zT S n0
    unfold jnS
    split
    · rw [txt_size]; omega
    · exact Nat.zero_le _
  have HU := Lib.hid hU
  have HS := Lib.hid hS1
  clear w_sh hrow hnil hnc e_R e_T e_S f_R f_T f_S t_S hSd hSe hsum hU hS1 s_a0
  go_enter Try.func6, Try.ntmps6
  go_wp2_with fail
  refine (awake_up HP.out).mono ?_
  rintro e w1 ⟨rfl, hb1⟩
  have HP := Lib.hid (HP.out.go hb1)
  have HB := Lib.hid hb1
  have hz1 := hb1.size
  clear hb1
  go_wp2_with fail
  refine (join_any a0 n0 c0 zR zT S w1 (fun h => by
    obtain ⟨ad, e, hb, hc⟩ := (HU.out.below HB.out (Nat.le_refl _)) h
    exact ⟨ad, e, by omega, hc⟩) hn HS.out).mono ?_
  rintro e w2 ⟨rfl, hb2⟩
  have HP := Lib.hid (HP.out.go hb2)
  have HB := Lib.hid (HB.out.trans (hb2.mono hz1))
  have hz2 := HB.out.size
  clear hb2
  by_cases hok : jnOk zR zT n0 = true
  · have hE : jnE zR zT n0 = 0 := if_pos hok
    have hcut := join_cut zR zT S n0 hok
    have hfit := (jnOk_iff zR zT n0).1 hok
    rw [hE]
    obtain ⟨X, hXe⟩ : ∃ X, X = jnS zR zT S n0 := ⟨_, rfl⟩
    rw [← hXe] at hX hcut ⊢
    have HC1 := Lib.hid hcut.1
    have HC2 := Lib.hid hcut.2
    have HF := Lib.hid hfit
    clear hE hcut hfit hok hXe
    go_wp2_with fail
    refine (num_any _ _).mono ?_
    rintro e w' ⟨rfl, rfl⟩
    go_wp2_with fail
    refine (splitUp X HP.out hX).mono ?_
    rintro e w3 ⟨v, rfl, ho, hb3⟩
    rw [HC2.out]
    rw [HC1.out] at ho
    have hll : ((List.range n0).map (fun k => packU (zR k) (zT k) (S k))).length = n0 := by simp
    rw [hll] at ho
    obtain ⟨A, c, rfl, _, _, hrd⟩ := Rd.of_own ho
    have HR := Lib.hid hrd
    have HP := Lib.hid (HP.out.go hb3)
    have HB := Lib.hid (HB.out.trans (hb3.mono hz2))
    have hz3 := HB.out.size
    have hnn : ((n0 : Int) != (n0 : Int)) = false := by simp
    clear ho hb3 hrd HC1 HC2 hX hll
    go_wp2_with fail
    refine (num_any _ _).mono ?_
    rintro e w' ⟨rfl, rfl⟩
    go_wp2_with fail
    go_loopw [7] (fun t wr => ∃ i : Nat, i ≤ n0 ∧ t = .int .i64 i ∧ Below w3.heap.size w3 wr) (fun t _ => n0 - (intOf t).toNat)
    case atStart => exact ⟨0, Nat.zero_le _, rfl, Below.refl _ _⟩
    case round =>
      obtain ⟨i, hi, rfl, hbl⟩ := hrel
      by_cases hlt : i < n0
      · obtain ⟨ad, rfl, hadb, hc⟩ := HU.out (by omega)
        obtain ⟨ad2, rfl, hb2, hc2⟩ := HR.out.at_ hlt
        have hfit := HF.out i hlt
        have hs := HS.out i
        have hval : (sV ((List.range n0).map (fun k => packU (zR k) (zT k) (S k)))).getD i undef = .string (txt (packL (zR i) (zT i) (bl (S i)))) := by
          unfold sV
          rw [List.getD_eq_getElem?_getD, List.getElem?_map, List.getElem?_map, List.getElem?_range hlt]
          show Value.string _ = _
          rw [packU_txt]
        rw [hval] at hc2
        have hps : (txt (packL (zR i) (zT i) (bl (S i)))).size ≤ 4194304 := by rw [txt_size]; have := pack_len (zR i) (zT i) (S i); omega
        have hup := fun w' => up0 (txt (packL (zR i) (zT i) (bl (S i)))) w' hps
        rw [(up_pack hfit).1, (up_pack hfit).2] at hup
        have hbw := HB.out.trans (hbl.mono hz3)
        have hcs := hc i hlt
        have hcp : wr.cell? (ad2.add i) = some (.string (txt (packL (zR i) (zT i) (bl (S i))))) := (hbl.cell (by rw [block_add]; exact hb2)).trans hc2
        generalize txt (packL (zR i) (zT i) (bl (S i))) = P at hup hcp
        generalize zR i = r at *
        generalize zT i = t at *
        generalize S i = s at *
        have HUP := Lib.hid hup
        have HCS := Lib.hid hcs
        have HBL := Lib.hid hbl
        have HBW := Lib.hid hbw
        have hi0 : (0 : Int) ≤ (i : Int) := Int.natCast_nonneg _
        have hi1 : (i : Int) < (n0 : Int) := by omega
        clear hfit hval hps hup hc2 hc hbl hbw hcs
        go_wp2_with fail
        refine (HUP.out _).mono ?_
        rintro e w4 ⟨rfl, hb4⟩
        have hbw4 := HBW.out.trans (hb4.mono HBW.out.size)
        have hl4 : ad.block < w4.heap.size := by have := hbw4.size; omega
        obtain ⟨q0, q1, q2⟩ := HCS.out
        have k0 := (hbw4.cell (p := ad.add (i * 3)) (by rw [block_add]; omega)).trans q0
        have k1 := (hbw4.cell (p := ⟨(ad.add (i * 3)).block, (ad.add (i * 3)).off + 1, none⟩) (by show (ad.add (i * 3)).block < _; rw [block_add]; omega)).trans q1
        have k2 := (hbw4.cell (p := ⟨(ad.add (i * 3)).block, (ad.add (i * 3)).off + 2, none⟩) (by show (ad.add (i * 3)).block < _; rw [block_add]; omega)).trans q2
        have HBW4 := Lib.hid hbw4
        have HBL4 := Lib.hid (HBL.out.trans (hb4.mono HBL.out.size))
        clear q0 q1 q2 hbw4 hb4 hcp
        go_upto_region 13 with fail
        obtain ⟨wa, hwa⟩ : ∃ wa, wa = w4.alloc (.cells #[.int .i64 r, .int .i64 t, .string s] 32) := ⟨_, rfl⟩
        have hbk : Bk wa w4.heap.size 32 #[.int .i64 r, .int .i64 t, .string s] := by rw [hwa]; exact Bk.new _ _ _
        have hba : Below w4.heap.size w4 wa := by rw [hwa]; exact (Below.refl _ _).alloc (Nat.le_refl _) _
        rw [← hwa]
        have k0 := (hba.cell (p := ad.add (i * 3)) (by rw [block_add]; exact hl4)).trans k0
        have k1 := (hba.cell (p := ⟨(ad.add (i * 3)).block, (ad.add (i * 3)).off + 1, none⟩) (by show (ad.add (i * 3)).block < _; rw [block_add]; exact hl4)).trans k1
        have k2 := (hba.cell (p := ⟨(ad.add (i * 3)).block, (ad.add (i * 3)).off + 2, none⟩) (by show (ad.add (i * 3)).block < _; rw [block_add]; exact hl4)).trans k2
        have HBK := Lib.hid hbk
        have HBWA := Lib.hid (HBW4.out.trans (hba.mono HBW4.out.size))
        have HBLA := Lib.hid (HBL4.out.trans (hba.mono HBL4.out.size))
        have hl5 : ad.block < wa.heap.size := Nat.lt_of_lt_of_le hl4 hba.size
        have HKK := Lib.hid (And.intro k0 (And.intro k1 k2))
        clear hwa hbk hba k0 k1 HBW4 HBL4
        go_wp2_with fail
        refine (esc_any s wa (by omega)).mono ?_
        rintro e w5 ⟨rfl, hb5⟩
        have hk5 := HBK.out.go hb5
        have c0 := hk5.cell 0
        have c1 := hk5.cell 1
        have c2 := hk5.cell 2
        obtain ⟨q0, q1, q2⟩ := HKK.out
        have k0 := (hb5.cell (p := ad.add (i * 3)) (by rw [block_add]; exact hl5)).trans q0
        have k1 := (hb5.cell (p := ⟨(ad.add (i * 3)).block, (ad.add (i * 3)).off + 1, none⟩) (by show (ad.add (i * 3)).block < _; rw [block_add]; exact hl5)).trans q1
        have k2 := (hb5.cell (p := ⟨(ad.add (i * 3)).block, (ad.add (i * 3)).off + 2, none⟩) (by show (ad.add (i * 3)).block < _; rw [block_add]; exact hl5)).trans q2
        simp at c0 c1 c2
        have HC := Lib.hid (And.intro c0 (And.intro c1 c2))
        have HK := Lib.hid (And.intro k0 (And.intro k1 k2))
        have HBW5 := Lib.hid (HBWA.out.trans (hb5.mono HBWA.out.size))
        have HBL5 := Lib.hid (HBLA.out.trans (hb5.mono HBLA.out.size))
        clear c0 c1 c2 k0 k1 k2 q0 q1 q2 hk5 hb5 HKK HBK HBWA HBLA
        obtain ⟨E, hEe⟩ : ∃ E, E = txt (esc (bl s)) := ⟨_, rfl⟩
        have HE := Lib.hid hEe
        rw [← hEe]
        clear hEe
        have hEs : E.size ≤ 4194304 := by
          rw [HE.out, txt_size]
          have := esc_len (bl s)
          rw [bl_len] at this
          omega
        go_wp2_with fail
        go_loopw [11] (fun t wr => ∃ k : Nat, k ≤ E.size ∧ t = .int .i64 k ∧ wr = w5) (fun t _ => E.size - (intOf t).toNat)
        case atStart => exact ⟨0, Nat.zero_le _, rfl, rfl⟩
        case round =>
          obtain ⟨k, hk, rfl, rfl⟩ := hrel
          by_cases h3 : k + 3 ≤ E.size
          · have j0 : (0 : Int) ≤ (k : Int) := Int.natCast_nonneg _
            have j1 : (k : Int) < (E.size : Int) := by omega
            have j2 : (k : Int) + 1 < (E.size : Int) := by omega
            have j3 : (k : Int) + 2 < (E.size : Int) := by omega
            have j4 : (k : Int) + 3 ≤ (E.size : Int) := by omega
            have hno : ∀ (h : k + 2 < E.size), (E[k]'(by omega)).toNat = 0 → (E[k + 1]'(by omega)).toNat = 0 → 3 ≤ (E[k + 2]'h).toNat := by
              intro h g0 g1
              have hb : bl E = esc (bl s) := by rw [HE.out, bl_txt _ (esc_bytes _ (bl_lt s))]
              have hlen : (esc (bl s)).length = E.size := by rw [← hb, bl_len]
              have ha : ∀ j (hj : j < E.size), (esc (bl s)).getD j 0 = (E[j]'hj).toNat := fun j hj => by
                rw [← hb, List.getD_eq_getElem?_getD, List.getElem?_eq_getElem (by rw [bl_len]; exact hj)]
                exact bl_at E j hj
              have := esc_at s k (by omega) (by rw [ha k (by omega)]; exact g0) (by rw [ha (k + 1) (by omega)]; exact g1)
              rw [ha (k + 2) h] at this
              exact this
            have HNO := Lib.hid hno
            clear hno
            go_wp2_with fail
            all_goals first
              | exact ⟨⟨k + 1, by omega, rfl, trivial⟩, by simp [intOf]; omega⟩
              | (exfalso; have h9 := HNO.out (by omega) (by assumption) (by assumption); omega)
          · have j4 : ¬ (k : Int) + 3 ≤ (E.size : Int) := by omega
            obtain ⟨c0, c1, c2⟩ := HC.out
            obtain ⟨k0, k1, k2⟩ := HK.out
            have hrr : (r == r) = true := by simp
            have htt : (t == t) = true := by simp
            go_wp2_with fail
            go_quiet ((go_at_call 15; exact Calls.quiet_of_same ((num_any _ _).mono fun _ _ q => ⟨q.1, q.2.symm⟩)))
            go_wp2_with fail
            go_roundw
            case rel =>
              have hq := HBL5.out
              exact ⟨i + 1, by omega, by go_num, ⟨hq.os, hq.tape, hq.output, hq.size, hq.block⟩⟩
            case measure => simp [intOf]; omega
      · obtain rfl : i = n0 := by omega
        go_wp2_with fail
        go_ret
        exact ⟨rfl, HB.out.trans (hbl.mono hz3)⟩
  · have hE : jnE zR zT n0 = 200 := if_neg hok
    have hXe : jnS zR zT S n0 = ByteArray.empty := if_neg hok
    rw [hE, hXe]
    clear hE hXe hX hok
    go_wp2_with fail
    refine (num_any _ _).mono ?_
    rintro e w' ⟨rfl, rfl⟩
    go_wp2_with fail
    go_ret
    exact ⟨rfl, HB.out⟩
end Go.Proofs.Ytndlmhpbnaohpaa
