/- The statement NalStreams: the walk. -/
import Derived.Test.YtndlmhpbnaohpaaNalN
import Derived.Test.YtndlmhpbnaohpaaLawG
import Derived.Test.YtndlmhpbnaohpaaLawH
import Derived.Deep.RegionHeld3
namespace Go.Proofs.Ytndlmhpbnaohpaa
open Go.RowKit
set_option linter.unusedVariables false
set_option linter.unusedSimpArgs false

/-- the texts of the first i units are all there are -/
def pre (R T : Nat → Int) (n : Nat) : Nat := ((List.range n).takeWhile fun k => fitB (R k) (T k)).length
theorem jnOk_succ (R T : Nat → Int) (n : Nat) : jnOk R T (n + 1) = (jnOk R T n && fitB (R n) (T n)) := by
  unfold jnOk
  rw [List.range_succ, List.all_append]
  simp
theorem jnOk_less {R T : Nat → Int} {n i : Nat} (h : jnOk R T i = false) (hi : i ≤ n) : jnOk R T n = false := by
  rw [Bool.eq_false_iff] at h ⊢
  intro q
  exact h ((jnOk_iff R T i).2 fun k hk => (jnOk_iff R T n).1 q k (by omega))
theorem txt_snoc3 (l m : List Nat) : txt l ++ (⟨#[0, 0, 1]⟩ : ByteArray) ++ txt m = txt (l ++ ([0, 0, 1] ++ m)) := by
  rw [show (⟨#[0, 0, 1]⟩ : ByteArray) = txt [0, 0, 1] from rfl, txt_append, txt_append, List.append_assoc]

set_option maxRecDepth 100000 in
set_option maxHeartbeats 6400000 in
theorem walk_NalStreams (a0 : Option Addr) (n0 c0 : Nat) (V : Nat → Nat → Value) (zR zT : Nat → Int) (zS : Nat → ByteArray) (a1 : ByteArray) (w : World) (w_a0 : RowsOf w a0 n0 c0 3 V) (e_R : ∀ k, k < n0 → V k 0 = .int .i64 (zR k)) (e_T : ∀ k, k < n0 → V k 1 = .int .i64 (zT k)) (e_S : ∀ k, k < n0 → V k 2 = .string (zS k)) (f_R : ∀ k, (Lit.int .i64 (zR k)).wf = true) (f_T : ∀ k, (Lit.int .i64 (zT k)).wf = true) (f_S : ∀ k, (zS k).size ≤ maxLen) (s_a0 : c0 ≤ 1048576) (t_S : ((List.range n0).map fun k => (zS k).size).sum ≤ 1048576) (w_a1 : a1.size ≤ 1048576) (w_sh : w.ShapedOpen Try.prog) :
    Calls Try.prog 5 #[.slice a0 n0 c0, .string a1] w fun e w' => e = .returned (.bool true) ∧ Below w.heap.size w w' := by
  have HP := Lib.hid (Up.of_shaped w_sh)
  obtain ⟨hrow, hnil, hnc⟩ := w_a0
  have hn : n0 ≤ 1048576 := by omega
  obtain ⟨S, hSd⟩ : ∃ S : Nat → ByteArray, S = fun k => if k < n0 then zS k else ByteArray.empty := ⟨_, rfl⟩
  have hSe : ∀ k, k < n0 → S k = zS k := fun k hk => by rw [hSd]; simp only; rw [if_pos hk]
  have hS1 : ∀ k, (S k).size ≤ 1048576 := fun k => by
    rw [hSd]
    simp only
    split
    · rename_i hk
      have : (zS k).size ≤ _ := le_sum (fun k => (zS k).size) n0 k hk
      omega
    · exact Nat.zero_le _
  have hsum : ((List.range n0).map fun k => (S k).size).sum ≤ 1048576 := by
    have e : ((List.range n0).map fun k => (S k).size) = (List.range n0).map fun k => (zS k).size := List.map_congr_left fun k hk => by rw [hSe k (List.mem_range.1 hk)]
    rw [e]
    exact t_S
  have hU : Us w w.heap.size a0 n0 zR zT S := fun h => by
    obtain ⟨ad, e, hb, hc⟩ := hrow h
    refine ⟨ad, e, hb, fun k hk => ⟨?_, ?_, ?_⟩⟩
    · have := hc k hk 0 (by omega); rw [e_R k hk, Nat.add_zero] at this; exact this
    · rw [← add_off _ _ _ (by omega)]; have := hc k hk 1 (by omega); rw [e_T k hk] at this; exact this
    · rw [← add_off _ _ _ (by omega)]; have := hc k hk 2 (by omega); rw [e_S k hk, ← hSe k hk] at this; exact this
  have hX : ∀ i, i ≤ n0 → (joinL zR zT S i).length ≤ 8388608 := fun i hi => by
    have := join_size zR zT S i
    have h2 : ((List.range i).map fun k => (S k).size).sum ≤ ((List.range n0).map fun k => (S k).size).sum := by
      obtain ⟨d, rfl⟩ : ∃ d, n0 = i + d := ⟨n0 - i, by omega⟩
      rw [List.range_add, List.map_append, List.sum_append]
      omega
    omega
  have HU := Lib.hid hU
  have HS := Lib.hid hS1
  have HX := Lib.hid hX
  have HNI := Lib.hid hnil
  clear w_sh hrow hnil e_R e_T e_S f_R f_T f_S t_S hSd hSe hsum hU hS1 hX
  obtain ⟨i0, hi, hz0, hz1, hz2⟩ := info_parts unit_info
  have hl := World.ownsRow_lit (base := w.heap.size) (e := 32) (size := 3) w #[] 0 (Nat.le_refl _) (Nat.zero_le _) rfl
  have hUa : Us (w.alloc (.cells #[] 32)) w.heap.size a0 n0 zR zT S := HU.out.below ((Below.refl _ _).alloc (Nat.le_refl _) _) (Nat.le_refl _)
  have HUA := Lib.hid hUa
  clear hUa
  go_enter Try.func5, Try.ntmps5
  go_wp2_with (at_builtin; refine wpList_append_rows _ rfl _ _ 40 rfl w.heap.size 32 i0 _ 3 32 Try.underlying40 hi hz0 hz1 hz2 rfl (by decide) _ 0 _ rfl hl a0 n0 c0 (uV zR zT S n0) rfl (uV_len _ _ _ _) (fun q => HUA.out.cells q) HNI.out (uV_one _ _ _ _) (by unfold maxLen; omega) (by omega) (by simp) ?_; intro v' w1 hown1 hg1)
  have hb1 : Below w.heap.size w w1 := ((Below.refl _ _).alloc (Nat.le_refl _) _).grown hg1 (by simp) (fun k hk => (hl.lt k hk).1)
  rw [Nat.zero_add, List.nil_append] at hown1
  obtain ⟨A, cx, rfl, hcx, hUx⟩ := Us.of_own hown1
  have HX1 := Lib.hid hUx
  have HB := Lib.hid hb1
  have HP := Lib.hid (HP.out.go hb1)
  have hz1' := hb1.size
  clear hown1 hg1 hb1 hUx hl HUA hi hz0 hz1 hz2
  go_wp2_with fail
  refine (join_any A n0 cx zR zT S w1 HX1.out hn HS.out).mono ?_
  rintro e w2 ⟨rfl, hb2⟩
  have HX1 := Lib.hid (HX1.out.below hb2 (Nat.le_refl _))
  have HP := Lib.hid (HP.out.go hb2)
  have HB := Lib.hid (HB.out.trans (hb2.mono hz1'))
  have HZ12 := Lib.hid hb2.size
  have hz2' := HB.out.size
  clear hb2 hz1'
  obtain ⟨J, hJ⟩ : ∃ J, J = jnS zR zT S n0 := ⟨_, rfl⟩
  obtain ⟨E, hE⟩ : ∃ E, E = jnE zR zT n0 := ⟨_, rfl⟩
  rw [← hJ, ← hE]
  have HJ := Lib.hid hJ
  have HE := Lib.hid hE
  clear hJ hE
  go_wp2_with fail
  go_loopw [8, 9, 10] (fun s c i wr => ∃ (k : Nat), k ≤ n0 ∧ i = .int .i64 k ∧ Below w2.heap.size w2 wr ∧ ((jnOk zR zT k = true ∧ c = .int .i64 0 ∧ s = .string (txt (joinL zR zT S k))) ∨ (jnOk zR zT k = false ∧ c = .int .i64 200 ∧ ∃ x : ByteArray, x.size ≤ 16777216 ∧ s = .string x))) (fun s c i _ => n0 - (intOf i).toNat)
  case atStart => exact ⟨0, Nat.zero_le _, rfl, Below.refl _ _, .inl ⟨rfl, rfl, rfl⟩⟩
  case round =>
    obtain ⟨k, hk, rfl, hbl, hst⟩ := hrel
    by_cases hgo : k < n0 ∧ jnOk zR zT k = true
    · obtain ⟨hlt, hok⟩ := hgo
      obtain ⟨rfl, rfl⟩ : _ ∧ _ := by
        rcases hst with ⟨_, h1, h2⟩ | ⟨h0, _⟩
        · exact ⟨h1, h2⟩
        · rw [hok] at h0; cases h0
      obtain ⟨ad, rfl, hadb, hc⟩ := HU.out (by omega)
      have hbw := HB.out.trans (hbl.mono hz2')
      obtain ⟨q0, q1, q2⟩ := hc k hlt
      have k0 := (hbw.cell (p := ad.add (k * 3)) (by rw [block_add]; omega)).trans q0
      have k1 := (hbw.cell (p := ⟨(ad.add (k * 3)).block, (ad.add (k * 3)).off + 1, none⟩) (by show (ad.add (k * 3)).block < _; rw [block_add]; omega)).trans q1
      have k2 := (hbw.cell (p := ⟨(ad.add (k * 3)).block, (ad.add (k * 3)).off + 2, none⟩) (by show (ad.add (k * 3)).block < _; rw [block_add]; omega)).trans q2
      have hsz := HS.out k
      have hxs : (txt (joinL zR zT S k)).size ≤ 8388608 := by rw [txt_size]; exact HX.out k hk
      have hps : 2 * (packL (zR k) (zT k) (bl (S k))).length ≤ 3 * (S k).size + 2 := pack_len (zR k) (zT k) (S k)
      have hpz : (txt (packL (zR k) (zT k) (bl (S k)))).size ≤ 2097152 := by rw [txt_size]; omega
      have hi0 : (0 : Int) ≤ (k : Int) := Int.natCast_nonneg _
      have hi1 : (k : Int) < (n0 : Int) := by omega
      have HBL := Lib.hid hbl
      have HOK := Lib.hid hok
      clear hst hc hbw q0 q1 q2 hbl hok hps
      by_cases hf : fitB (zR k) (zT k) = true
      · have HF := Lib.hid hf
        have hnext : jnOk zR zT (k + 1) = true := by rw [jnOk_succ, HOK.out, hf]; rfl
        have htx : txt (joinL zR zT S k) ++ (⟨#[0, 0, 1]⟩ : ByteArray) ++ txt (packL (zR k) (zT k) (bl (S k))) = txt (joinL zR zT S (k + 1)) := by rw [txt_snoc3]; rfl
        have HN := Lib.hid hnext
        have HTX := Lib.hid htx
        clear hf hnext htx
        generalize txt (joinL zR zT S k) = X at hxs HTX ⊢
        go_wp2_with fail
        refine (pack1_yes (zR k) (zT k) (S k) _ HF.out (by omega)).mono ?_
        rintro e w3 ⟨rfl, hb3⟩
        generalize txt (packL (zR k) (zT k) (bl (S k))) = Y at hpz HTX ⊢
        have HBL := Lib.hid (HBL.out.trans (hb3.mono HBL.out.size))
        have hx1 : (X.size : Int) ≤ 8388608 := by omega
        have hx2 : (Y.size : Int) ≤ 8388608 := by omega
        clear hb3
        go_wp2_with fail
        go_roundw
        case rel => exact ⟨k + 1, by omega, by go_num, HBL.out, .inl ⟨HN.out, rfl, by rw [← HTX.out]⟩⟩
        case measure => simp [intOf]; omega
      · have hf' : fitB (zR k) (zT k) = false := by simpa using hf
        have HF := Lib.hid hf'
        have hnext : jnOk zR zT (k + 1) = false := by rw [jnOk_succ, hf', Bool.and_false]
        have HN := Lib.hid hnext
        clear hf hf' hnext
        generalize txt (joinL zR zT S k) = X at hxs ⊢
        go_wp2_with fail
        refine (pack1_no (zR k) (zT k) (S k) _ HF.out).mono ?_
        rintro e w3 ⟨rfl, hb3⟩
        have HBL := Lib.hid (HBL.out.trans (hb3.mono HBL.out.size))
        have hx1 : (X.size : Int) ≤ 8388608 := by omega
        clear hb3
        go_wp2_with fail
        go_roundw
        case rel =>
          refine ⟨k + 1, by omega, by go_num, HBL.out, .inr ⟨HN.out, rfl, _, ?_, rfl⟩⟩
          have e1 : (⟨#[0, 0, 1]⟩ : ByteArray).size = 3 := rfl
          have e2 : (⟨#[]⟩ : ByteArray).size = 0 := rfl
          first | omega | (rw [ByteArray.size_append]; omega)
        case measure => simp [intOf]; omega
    · have hend : (jnOk zR zT n0 = true ∧ k = n0) ∨ (jnOk zR zT n0 = false ∧ jnOk zR zT k = false) := by
        by_cases hok : jnOk zR zT k = true
        · left
          have : k = n0 := by
            rcases Nat.lt_or_ge k n0 with h | h
            · exact absurd ⟨h, hok⟩ hgo
            · omega
          subst this
          exact ⟨hok, rfl⟩
        · right
          have hok' : jnOk zR zT k = false := by simpa using hok
          exact ⟨jnOk_less hok' hk, hok'⟩
      have hcase : (∃ x : ByteArray, u8 = .string x ∧ u9 = .int .i64 0 ∧ J = x ∧ E = 0 ∧ n0 = k) ∨ (u9 = .int .i64 200 ∧ J = ⟨#[]⟩ ∧ E = 200) := by
        rcases hend with ⟨hok, rfl⟩ | ⟨hok, hok'⟩
        · left
          rcases hst with ⟨_, h1, h2⟩ | ⟨h0, _⟩
          · exact ⟨_, h2, h1, HJ.out.trans (if_pos hok), HE.out.trans (if_pos hok), rfl⟩
          · rw [hok] at h0; cases h0
        · right
          have hn0 : ¬ jnOk zR zT n0 = true := by rw [hok]; simp
          rcases hst with ⟨h0, _⟩ | ⟨_, h1, _⟩
          · rw [hok'] at h0; cases h0
          · exact ⟨h1, HJ.out.trans (if_neg hn0), HE.out.trans (if_neg hn0)⟩
      have hi0 : (0 : Int) ≤ (k : Int) := Int.natCast_nonneg _
      have HBW := Lib.hid (HB.out.trans (hbl.mono hz2'))
      have HX2 := Lib.hid (HX1.out.below hbl HZ12.out)
      have HP2 := Lib.hid (HP.out.go hbl)
      have hzr := HBW.out.size
      have hzr1 : w1.heap.size ≤ wr.heap.size := Nat.le_trans HZ12.out hbl.size
      obtain ⟨wk, rfl⟩ : ∃ wk : World, wk = wr := ⟨_, rfl⟩
      have HZR1 := Lib.hid hzr1
      clear hst hend HJ HE hgo hbl HB HX1 HP hzr1
      have hks : (k < n0 ∨ ¬ k < n0) := by omega
      have hgo : (∃ x : ByteArray, u8 = .string x ∧ u9 = .int .i64 0 ∧ J = x ∧ E = 0 ∧ n0 = k) ∨ (u9 = .int .i64 200 ∧ J = ⟨#[]⟩ ∧ E = 200 ∧ k < n0) ∨ (u9 = .int .i64 200 ∧ J = ⟨#[]⟩ ∧ E = 200 ∧ ¬ k < n0) := by
        rcases hcase with h | ⟨h1, h2, h3⟩
        · exact .inl h
        · rcases hks with h4 | h4
          · exact .inr (.inl ⟨h1, h2, h3, h4⟩)
          · exact .inr (.inr ⟨h1, h2, h3, h4⟩)
      clear hcase hks
      have key : ∀ (u : ByteArray) (W : World), True → True := fun _ _ _ => trivial
      rcases hgo with ⟨x, rfl, rfl, rfl, rfl, rfl⟩ | ⟨rfl, rfl, rfl, hkn⟩ | ⟨rfl, rfl, rfl, hkn⟩
      all_goals
        go_wp2_with fail
        refine (splitUp a1 HP2.out (by omega)).mono ?_
        rintro e w3 ⟨v1, rfl, ho1, hb3⟩
        obtain ⟨A1, c1, rfl, _, _, hr1⟩ := Rd.of_own ho1
        have HR1 := Lib.hid hr1
        have HBW := Lib.hid (HBW.out.trans (hb3.mono hzr))
        have HX2 := Lib.hid (HX2.out.below hb3 HZR1.out)
        have HP3 := Lib.hid (HP2.out.go hb3)
        have hz3 := HBW.out.size
        have HZR3 := Lib.hid (Nat.le_trans HZR1.out hb3.size)
        clear ho1 hb3 hr1
        go_wp2_with fail
        refine (split1 a1 _ (by omega)).mono ?_
        rintro e w4 ⟨v2, rfl, ho2, hb4⟩
        obtain ⟨A2, c2, rfl, hn2, hm2, hr2⟩ := Rd.of_own ho2
        have HSL : Hid ((spL a1).length ≤ 9223372036854775807) := Lib.hid (by unfold maxLen at hm2; omega)
        clear hn2 hm2
        have HR2 := Lib.hid hr2
        have HR1 := Lib.hid (HR1.out.below hb4 (Nat.le_refl _) |>.more hb4.size)
        have HBW := Lib.hid (HBW.out.trans (hb4.mono hz3))
        have HX2 := Lib.hid (HX2.out.below hb4 HZR3.out)
        have HP4 := Lib.hid (HP3.out.go hb4)
        have hz4 := HBW.out.size
        have HZR4 := Lib.hid (Nat.le_trans HZR3.out hb4.size)
        clear ho2 hb4 hr2 HP3 HP2 HZR3 HZR1
        generalize hspl : spL a1 = spl at HR1 HR2 HSL ⊢
        generalize spE a1 = spe
        clear hspl
        go_wp2_with fail
        go_loopw [17] (fun t wr => ∃ (j : Nat), j ≤ n0 ∧ t = .int .i64 j ∧ Below w4.heap.size w4 wr) (fun t _ => n0 - (intOf t).toNat)
        case atStart => exact ⟨0, Nat.zero_le _, rfl, Below.refl _ _⟩
        case round =>
          obtain ⟨j, hj, rfl, hbl⟩ := hrel
          have hj0 : (0 : Int) ≤ (j : Int) := Int.natCast_nonneg _
          by_cases hlt : j < n0
          · obtain ⟨ad, rfl, hadb, hc⟩ := HU.out (by omega)
            obtain ⟨ad2, rfl, hadb2, hc2⟩ := HX2.out (by omega)
            have hj1 : (j : Int) < (n0 : Int) := by omega
            have hbw := HBW.out.trans (hbl.mono hz4)
            have hl2 : ad2.block < w4.heap.size := Nat.lt_of_lt_of_le hadb2 HZR4.out
            obtain ⟨q0, q1, q2⟩ := hc j hlt
            obtain ⟨r0, r1, r2⟩ := hc2 j hlt
            have k0 := (hbw.cell (p := ad.add (j * 3)) (by rw [block_add]; omega)).trans q0
            have k1 := (hbw.cell (p := ⟨(ad.add (j * 3)).block, (ad.add (j * 3)).off + 1, none⟩) (by show (ad.add (j * 3)).block < _; rw [block_add]; omega)).trans q1
            have k2 := (hbw.cell (p := ⟨(ad.add (j * 3)).block, (ad.add (j * 3)).off + 2, none⟩) (by show (ad.add (j * 3)).block < _; rw [block_add]; omega)).trans q2
            have m0 := (hbl.cell (p := ad2.add (j * 3)) (by rw [block_add]; exact hl2)).trans r0
            have m1 := (hbl.cell (p := ⟨(ad2.add (j * 3)).block, (ad2.add (j * 3)).off + 1, none⟩) (by show (ad2.add (j * 3)).block < _; rw [block_add]; exact hl2)).trans r1
            have m2 := (hbl.cell (p := ⟨(ad2.add (j * 3)).block, (ad2.add (j * 3)).off + 2, none⟩) (by show (ad2.add (j * 3)).block < _; rw [block_add]; exact hl2)).trans r2
            have HBL := Lib.hid hbl
            clear hc hc2 q0 q1 q2 r0 r1 r2 hbw hbl
            generalize zR j = r at *
            generalize zT j = t at *
            generalize S j = s at *
            have hrr : (r == r) = true := by simp
            have htt : (t == t) = true := by simp
            go_wp2_with fail
            go_quiet (fail)
            go_wp2_with fail
            go_roundw
            case rel =>
              have hq := HBL.out
              exact ⟨j + 1, by omega, by go_num, ⟨hq.os, hq.tape, hq.output, hq.size, hq.block⟩⟩
            case measure => simp [intOf]; omega
          · have hj1 : ¬ (j : Int) < (n0 : Int) := by omega
            have HBE := Lib.hid (HBW.out.trans (hbl.mono hz4))
            have HR1 := Lib.hid (HR1.out.below hbl (Nat.le_refl _) |>.more hbl.size)
            have HR2 := Lib.hid (HR2.out.below hbl (Nat.le_refl _) |>.more hbl.size)
            have HP5 := Lib.hid (HP4.out.go hbl)
            clear hbl
            go_wp2_with fail
            refine (num_any _ _).mono ?_
            rintro e w' ⟨rfl, rfl⟩
            go_wp2_with fail
            refine (samet_yes A1 A2 _ c1 c2 _ _ (sV_rd HR1.out) (sV_rd HR2.out) HSL.out).mono ?_
            rintro e w5 ⟨rfl, hb5⟩
            have HBE := Lib.hid (HBE.out.trans (hb5.mono HBE.out.size))
            have HP6 := Lib.hid (HP5.out.go hb5)
            clear hb5
            go_wp2_with fail
            refine (num_any _ _).mono ?_
            rintro e w' ⟨rfl, rfl⟩
            go_wp2_with fail
            refine (awake_up HP6.out).mono ?_
            rintro e w6 ⟨rfl, hb6⟩
            have HBE := Lib.hid (HBE.out.trans (hb6.mono HBE.out.size))
            clear hb6
            go_wp2_with fail
            go_ret
            exact ⟨rfl, HBE.out⟩
end Go.Proofs.Ytndlmhpbnaohpaa
