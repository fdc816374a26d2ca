/- The console's line. -/
import Derived.Test.YtfignfohcalcfaaGreatDoorCmdB
import Derived.Test.YtfignfohcalcfaaGreatDoorCodA
import Derived.Test.YtfignfohcalcfaaGreatDoorFwdA
import Derived.Test.YtfignfohcalcfaaGreatDoorNumA
namespace Go.Proofs.YtfignfohcalcfaaGreatDoor
open Go.RowKit
set_option linter.unusedVariables false
set_option linter.unusedSimpArgs false

theorem g16_cell {w : World} {g : Nat} {l : List Int} (hc : ∀ j, j < l.length → w.cell? ⟨g, j, none⟩ = some (.int .i64 (g16 l j))) (j : Nat) (h : j < l.length) : w.cell? ⟨g, j, none⟩ = some (.int .i64 (g16 l j)) := hc j h
theorem g16_bd {l : List Int} (hb : ∀ x ∈ l, I64 x) (j : Nat) (h : j < l.length) : I64 (g16 l j) := by
  have : g16 l j = l[j] := by simp [g16, h]
  rw [this]
  exact hb _ (List.getElem_mem h)
theorem crun_any (c : Cmd) (l : List Int) (g cap : Nat) (w : World) (hl : l.length = c.many) (hc : ∀ j, j < l.length → w.cell? ⟨g, j, none⟩ = some (.int .i64 (g16 l j))) (hb : ∀ x ∈ l, I64 x) (T : Tabs w) :
    Calls Tryz.prog c.fid #[.slice (some ⟨g, 0, none⟩) c.many cap] w fun e w' => e = .returned (.string (c.run l)) ∧ Below w.heap.size w w' := by
  cases c <;> simp only [Cmd.many] at hl
  · exact cue_any _ g cap w (hc 0 (by omega)) T
  · exact cse_any _ g cap w (hc 0 (by omega)) T
  · exact cbin_any _ _ _ g cap w (hc 0 (by omega)) (hc 1 (by omega)) (hc 2 (by omega)) T
  · exact cfwd_any l hl g cap w (fun j hj => hc j (by omega)) T
  · exact cqp_any _ _ g cap w (hc 0 (by omega)) (hc 1 (by omega)) T
  · exact cpoc_any _ _ _ _ g cap w (hc 0 (by omega)) (hc 1 (by omega)) (hc 2 (by omega)) (hc 3 (by omega)) T
  · exact cmed_any _ _ _ g cap w (hc 0 (by omega)) (hc 1 (by omega)) (hc 2 (by omega)) (g16_bd hb 0 (by omega)) (g16_bd hb 1 (by omega)) (g16_bd hb 2 (by omega)) T
def escT : ByteArray := tx [101, 115, 99, 97, 112, 101]
theorem range_map_cons (S : Nat → ByteArray) (n : Nat) (h : 0 < n) : (List.range n).map S = S 0 :: (List.range (n - 1)).map (fun k => S (k + 1)) := by
  obtain ⟨m, rfl⟩ : ∃ m, n = m + 1 := ⟨n - 1, by omega⟩
  rw [List.range_succ_eq_map]
  simp
theorem lineF_esc (S : Nat → ByteArray) (h : S 0 = escT) : lineF ((List.range 2).map S) = if (unF (S 1)).2 = true then hexF (txt (esc (bl (unF (S 1)).1))) else badT := by
  have e : (List.range 2).map S = [S 0, S 1] := rfl
  rw [e]
  unfold lineF
  rw [if_pos ⟨h, rfl⟩]
  rfl
theorem lineF_cmd (S : Nat → ByteArray) (n : Nat) (hn : 0 < n) (h : ¬ (S 0 = escT ∧ n = 2)) : lineF ((List.range n).map S) = match cmdF (S 0), numsF ((List.range (n - 1)).map (fun k => S (k + 1))) with
    | some c, some l => if l.length = c.many then c.run l else badT
    | _, _ => badT := by
  unfold lineF
  rw [if_neg ?_]
  · rw [range_map_cons S n hn]
    rfl
  · rw [range_map_cons S n hn]
    simp only [List.headD_cons, List.length_cons, List.length_map, List.length_range]
    intro h2
    exact h ⟨h2.1, by omega⟩
theorem esc_size (s : ByteArray) : 2 * (txt (esc (bl s))).size ≤ 3 * s.size + 2 := by
  have := esc_len (bl s)
  rw [bl_len] at this
  rw [txt_size]
  omega
theorem unL_len : ∀ (l o : List UInt8), unL l = some o → 2 * o.length ≤ l.length
  | a :: b :: t, o, h => by
    rw [unL_two] at h
    cases ha : unD a with
    | none => rw [ha] at h; cases h
    | some x => cases hb : unD b with
      | none => rw [ha, hb] at h; cases h
      | some y =>
        rw [ha, hb] at h
        cases ht : unL t with
        | none => rw [ht] at h; cases h
        | some q =>
          rw [ht] at h
          simp at h
          subst h
          have := unL_len t q ht
          simp
          omega
  | [], o, h => by simp [unL] at h; subst h; simp
  | [a], o, h => by simp [unL] at h; subst h; simp
theorem unF_size (s : ByteArray) : (unF s).1.size ≤ s.size := by
  unfold unF
  split
  · exact Nat.zero_le _
  · split
    · exact Nat.zero_le _
    · rename_i l h
      have := unL_len _ _ h
      rw [← Lib.size_eq] at this
      simp only [tx_size]
      omega
theorem line_mid {w w2 : World} {b q : Nat} {cs : Array Value} (hM : Made w2 b) (hT : Touch (fun k => k = b) w w2) (hq : w2.heap.size = q) (hN : Bk (w2.alloc (.cells #[.int .i64 0, .nilFunc] 89)) q 89 #[.int .i64 0, .nilFunc]) :
    Made ((w2.alloc (.cells #[.int .i64 0, .nilFunc] 89)).setRow q cs) b ∧ Touch (fun k => k = b) w ((w2.alloc (.cells #[.int .i64 0, .nilFunc] 89)).setRow q cs) ∧ Bk ((w2.alloc (.cells #[.int .i64 0, .nilFunc] 89)).setRow q cs) q 89 cs := by
  have hb : Below w2.heap.size w2 ((w2.alloc (.cells #[.int .i64 0, .nilFunc] 89)).setRow q cs) := below_setRow ((Below.refl _ _).alloc (Nat.le_refl _) _) (by omega) _
  exact ⟨hM.go hb, hT.trans (Touch.of_new hb), bk_setRow hN⟩
theorem fid_enter : ∀ c : Cmd, ∀ (args : Array Value) (w : World), (callFunc c.fid args).run Tryz.prog w = .ok (.enter c.fid args) w
  | .ue => enters_of Tryz.func50 (by kernel_rfl) rfl
  | .se => enters_of Tryz.func53 (by kernel_rfl) rfl
  | .bins => enters_of Tryz.func55 (by kernel_rfl) rfl
  | .forward => enters_of Tryz.func56 (by kernel_rfl) rfl
  | .qp => enters_of Tryz.func58 (by kernel_rfl) rfl
  | .poc => enters_of Tryz.func60 (by kernel_rfl) rfl
  | .median => enters_of Tryz.func61 (by kernel_rfl) rfl
theorem rd_tail {w W : World} {b n : Nat} {ad : Addr} {S : Nat → ByteArray} (hT : Touch (fun k => k = b) w W) (had : ad.block < w.heap.size) (hab : ad.block ≠ b) (hcc : ∀ k, k < n → w.cell? (ad.add k) = some (.string (S k))) :
    Rd W W.heap.size (some ⟨ad.block, ad.off + 1, none⟩) (n - 1) (fun k => .string (S (k + 1))) := fun _ =>
  ⟨_, rfl, Nat.lt_of_lt_of_le had hT.size, fun k hk => by
    have e : (⟨ad.block, ad.off + 1, none⟩ : Addr).add k = ad.add (k + 1) := by
      unfold Addr.add
      by_cases h0 : k = 0
      · subst h0; simp
      · simp [h0]; omega
    rw [e]
    exact (hT.cell (p := ad.add (k + 1)) (by rw [block_add]; exact had) (by rw [block_add]; exact hab)).trans (hcc (k + 1) (by omega))⟩
set_option maxRecDepth 100000 in
set_option maxHeartbeats 3200000 in
theorem line_any (b : Nat) (S : Nat → ByteArray) (A : Option Addr) (n c : Nat) (w : World) (hA : Rd w w.heap.size A n (fun k => .string (S k))) (h0 : 0 < n) (hn : n ≤ 65536) (hnc : n ≤ c) (hS : ∀ k, (S k).size ≤ 65536) (hne : ∀ ad, A = some ad → ad.block ≠ b) (h : Cm w b) (w0 : World) (T0 : Tabs w0) (hB0 : Below w0.heap.size w0 w) (hb0 : w0.heap.size ≤ b) :
    Calls Tryz.prog 23 #[.pointer (some ⟨b, 0, none⟩), .slice A n c] w fun e w' => e = .returned (.string (lineF ((List.range n).map S))) ∧ Cm w' b ∧ Touch (fun k => k = b) w w' := by
  obtain ⟨ad, rfl, had, hcc⟩ := hA h0
  have hab := hne ad rfl
  clear hne
  have hcc : ∀ k, k < n → w.cell? (ad.add k) = some (.string (S k)) := hcc
  have hc0 := hcc 0 h0
  rw [show ad.add 0 = ad from by simp [Addr.add]] at hc0
  obtain ⟨s0, hs0⟩ : ∃ s, S 0 = s := ⟨_, rfl⟩
  have HCM := Lib.hid h
  have HT0 := Lib.hid (And.intro T0 (And.intro hB0 hb0))
  clear T0 hB0 hb0
  by_cases hx : S 0 = escT ∧ n = 2
  · obtain ⟨hx0, rfl⟩ := hx
    have hc1 := hcc 1 (by omega)
    rw [show ad.add 1 = ⟨ad.block, ad.off + 1, none⟩ from by simp [Addr.add]] at hc1
    have hF := lineF_esc S hx0
    have hsz := hS 1
    have e1 : (s0.toList == [101, 115, 99, 97, 112, 101]) = true := toL_yes (by rw [← hs0]; exact hx0)
    obtain ⟨s1, hs1⟩ : ∃ s, S 1 = s := ⟨_, rfl⟩
    rw [hs0] at hc0
    rw [hs1] at hc1 hF hsz
    have hu := Lib.hid (fun w => cunhex_any s1 w (by omega))
    have hus := unF_size s1
    obtain ⟨U, hU⟩ : ∃ U, unF s1 = U := ⟨_, rfl⟩
    rw [hU] at hu hF hus
    obtain ⟨u1, u2⟩ := U
    obtain ⟨F, hFF⟩ : ∃ F, lineF ((List.range 2).map S) = F := ⟨_, rfl⟩
    rw [hFF] at hF ⊢
    have HF := Lib.hid hF
    have hees := esc_size u1
    have HE := Lib.hid (fun w => esc_any u1 w (by simp only at hus; omega))
    obtain ⟨E, hE⟩ : ∃ E, txt (esc (bl u1)) = E := ⟨_, rfl⟩
    have HF : Hid (F = if u2 = true then hexF E else badT) := Lib.hid (by rw [hF, ← hE])
    rw [hE] at HE hees
    have HX := Lib.hid (fun w => chex_any E w (by simp only at hus; omega))
    clear hF hFF hU hs1 hE hA hcc h hx0 hs0
    have hn2 : ((2 : Nat) : Int) = 2 := rfl
    cases u2 with
    | true =>
      go_enter Tryz.func23, Tryz.ntmps23
      go_wp2_with fail
      refine (hu.out _).mono ?_
      rintro e w1 ⟨rfl, hb1⟩
      have HB1 := Lib.hid hb1
      clear hb1
      go_wp2_with fail
      refine (HE.out _).mono ?_
      rintro e w2 ⟨rfl, hb2⟩
      have HB2 := Lib.hid (HB1.out.trans (hb2.mono HB1.out.size))
      clear hb2
      go_wp2_with fail
      refine (HX.out _).mono ?_
      rintro e w3 ⟨rfl, hb3⟩
      have HB3 := Lib.hid (HB2.out.trans (hb3.mono HB2.out.size))
      clear hb3
      go_wp2_with fail
      go_ret
      exact ⟨by rw [HF.out]; rfl, HCM.out.go HB3.out, Touch.of_new HB3.out⟩
    | false =>
      go_enter Tryz.func23, Tryz.ntmps23
      go_wp2_with fail
      refine (hu.out _).mono ?_
      rintro e w1 ⟨rfl, hb1⟩
      have HB1 := Lib.hid hb1
      clear hb1
      go_wp2_with fail
      go_ret
      exact ⟨by rw [HF.out]; rfl, HCM.out.go HB1.out, Touch.of_new HB1.out⟩
  · have hF := lineF_cmd S n h0 hx
    have e1 : (s0.toList == [101, 115, 99, 97, 112, 101]) = false ∨ ((s0.toList == [101, 115, 99, 97, 112, 101]) = true ∧ ((n : Int) == 2) = false) := by
      by_cases h2 : S 0 = escT
      · exact .inr ⟨toL_yes (by rw [← hs0]; exact h2), by rw [beq_eq_false_iff_ne]; intro e; exact hx ⟨h2, by omega⟩⟩
      · exact .inl (toL_no (by rw [← hs0]; exact h2))
    have hsz0 := hS 0
    rw [hs0] at hc0 hF hsz0
    have HG := Lib.hid (fun w h => cget_any b s0 w h (by omega))
    obtain ⟨P, hP⟩ : ∃ P, numsF ((List.range (n - 1)).map (fun k => S (k + 1))) = P := ⟨_, rfl⟩
    obtain ⟨F, hFF⟩ : ∃ F, lineF ((List.range n).map S) = F := ⟨_, rfl⟩
    rw [hFF, hP] at hF
    rw [hFF]
    have HP := Lib.hid hP
    have HF := Lib.hid hF
    obtain ⟨gn, gf, hgv, hgf⟩ := getV_two s0
    have HGV := Lib.hid hgv
    have hone := one2 gn hgf
    have hn0 : (0 : Int) ≤ (n : Int) := by omega
    have hn1 : (1 : Int) ≤ (n : Int) := by omega
    have hnc2 : (n : Int) ≤ (c : Int) := by omega
    rw [hgv] at HG
    obtain ⟨gi, hgi⟩ : ∃ i, (cmdF s0).isSome = i := ⟨_, rfl⟩
    rw [hgi] at HG
    have HGI := Lib.hid hgi
    have HCC := Lib.hid hcc
    have HS := Lib.hid hS
    clear hgi hgv hF hFF hP hcc hA hx hs0 hS h
    have hadl := had
    have hways : (c = 1 ∧ n = 1) ∨ (¬ c = 1 ∧ ¬ ((c : Int) - 1 = 0)) := by omega
    rcases hways with ⟨rfl, rfl⟩ | ⟨hc1, hc2⟩
    all_goals
      rcases e1 with e1 | ⟨e1, e2⟩
      all_goals
        go_enter Tryz.func23, Tryz.ntmps23
        go_wp2_with fail
        refine (HG.out _ HCM.out).mono ?_
        rintro e w2 ⟨rfl, hM, hT⟩
        have HM2 := Lib.hid hM
        have HT2 := Lib.hid hT
        have hq2 : w.heap.size ≤ w2.heap.size := hT.size
        obtain ⟨q, hq⟩ : ∃ q, w2.heap.size = q := ⟨_, rfl⟩
        have n0 : Bk (w2.alloc (.cells #[.int .i64 0, .nilFunc] 89)) q 89 #[.int .i64 0, .nilFunc] := hq ▸ Bk.new w2 _ _
        have HN0 := Lib.hid n0
        clear hM hT n0
        go_wp2_with (refine wpList_store_row rfl _ _ _ rfl q #[.int .i64 gn, gf] rfl rfl _ _ HN0.out (by kernel_rfl) rfl hone ?_)
        have HL := Lib.hid (line_mid HM2.out HT2.out hq HN0.out (cs := #[.int .i64 gn, gf]))
        obtain ⟨W, hW⟩ : ∃ W, (w2.alloc (.cells #[.int .i64 0, .nilFunc] 89)).setRow q #[.int .i64 gn, gf] = W := ⟨_, rfl⟩
        rw [hW] at HL ⊢
        clear hW HN0 HM2 HT2
        refine (numbers_any (fun k => S (k + 1)) _ _ _ _ ?hA ?hn ?hS).mono ?_
        case hn => omega
        case hS => exact fun k => HS.out (k + 1)
        case hA => first | exact Rd.zero _ _ _ _ | exact rd_tail HL.out.2.1 had hab HCC.out
        rintro e w3 ⟨hE, hb3⟩
        try simp only [Nat.sub_self] at HP hE
        rw [HP.out] at hE
        have hqb := Bk.go HL.out.2.2 hb3
        have hq0 := hqb.cell 0
        have hq1 := hqb.cell 1
        simp at hq0 hq1
        have HCM3 := Lib.hid (Cm.go (.inr HL.out.1) hb3)
        have HT3 := Lib.hid (HL.out.2.1.trans (Touch.of_new (S := fun k => k = b) hb3))
        have HTB := Lib.hid (HT0.out.1.go (Below.touch HT0.out.2.1 HT3.out (fun i hi => by have := HT0.out.2.2; omega) (Nat.le_refl _)))
        clear HL hqb hb3
        cases P with
        | none =>
          simp only [numsE] at hE
          subst hE
          have HFB : Hid (F = badT) := Lib.hid (by rw [HF.out]; cases cmdF s0 <;> rfl)
          cases gi
          all_goals
            go_wp2_with fail
            go_ret
            exact ⟨by rw [HFB.out]; rfl, HCM3.out, HT3.out⟩
        | some l =>
          simp only [numsE] at hE
          obtain ⟨v, rfl, hown⟩ := hE
          have hbd := numsF_bd _ _ HP.out
          have HO := Lib.hid hown
          have HBD := Lib.hid hbd
          clear hown hbd
          obtain ⟨A2, c2, rfl, hle, hmx, hnone⟩ := own_slice HO.out
          cases hcf : cmdF s0 with
          | none =>
            have HFB : Hid (F = badT) := Lib.hid (by rw [HF.out, hcf])
            have hgi : gi = false := by rw [← HGI.out, hcf]; rfl
            subst hgi
            clear hcf
            go_wp2_with fail
            go_ret
            exact ⟨by rw [HFB.out]; rfl, HCM3.out, HT3.out⟩
          | some cc =>
            have hgi : gi = true := by rw [← HGI.out, hcf]; rfl
            subst hgi
            have hgv := HGV.out
            unfold getV cmdVal at hgv
            rw [hcf] at hgv
            simp only [Value.agg.injEq, Array.mk.injEq, List.cons.injEq, Value.int.injEq, true_and, and_true] at hgv
            obtain ⟨rfl, rfl⟩ := hgv
            by_cases hlm : l.length = cc.many
            · have HFB : Hid (F = cc.run l) := Lib.hid (by rw [HF.out, hcf]; exact if_pos hlm)
              have hpos : 0 < l.length := by rw [hlm]; cases cc <;> decide
              obtain ⟨g, cap, hv, h1, h2, h3, h4⟩ := own_form HO.out hpos
              injection hv with hv1 hv2 hv3
              subst hv1 hv3
              have HR := Lib.hid (crun_any cc l g c2 w3 hlm (fun j hj => by
                rw [HO.out.cellAt j (by omega)]
                simp [iV, g16, hj]) HBD.out HTB.out)
              have heg := fid_enter cc
              obtain ⟨f0, hf0⟩ : ∃ f, cc.fid = f := ⟨_, rfl⟩
              obtain ⟨m0, hm0⟩ : ∃ m, cc.many = m := ⟨_, rfl⟩
              rw [hf0] at hq1 heg HR
              rw [hm0] at hq0 hlm HR
              rw [hf0, hm0]
              have hlm2 : ((l.length : Int) != (m0 : Int)) = false := by rw [hlm]; simp
              clear hcf hnone hf0 hm0 HGV hone hgf
              go_wp2_with fail
              refine HR.out.mono ?_
              rintro e w4 ⟨rfl, hb4⟩
              have HB4 := Lib.hid hb4
              clear hb4
              go_wp2_with fail
              go_ret
              exact ⟨by rw [HFB.out]; rfl, HCM3.out.go HB4.out, HT3.out.trans (Touch.of_new HB4.out)⟩
            · have HFB : Hid (F = badT) := Lib.hid (by rw [HF.out, hcf]; exact if_neg hlm)
              have hlm2 : ((l.length : Int) != (cc.many : Int)) = true := by simp; omega
              clear hcf hnone
              go_wp2_with fail
              go_ret
              exact ⟨by rw [HFB.out]; rfl, HCM3.out, HT3.out⟩
end Go.Proofs.YtfignfohcalcfaaGreatDoor
