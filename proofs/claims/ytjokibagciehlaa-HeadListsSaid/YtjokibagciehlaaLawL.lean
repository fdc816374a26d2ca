/- HeadLists: how many lists each type has, how many weights. Printed by gen-lawl.py. -/
import Derived.Test.YtjokibagciehlaaHeaZ
import Derived.Deep.DeepCutAuto
import Derived.Test.YtjokibagciehlaaMask
import Derived.Test.YtjokibagciehlaaAppendRows
namespace Go.Proofs.Ytjokibagciehlaa
open Go.RowKit
set_option linter.unusedVariables false
set_option linter.unusedSimpArgs false

attribute [local go_sem] and_3
def lH (t a b : Int) (l : List Wt) : Hd := { tH with type := t, a0 := a, a1 := b, w0 := l }
def lP (x : Bool) : Pp := { tP with weighted := x }
def fineL (t a b : Int) : Bool := decide (t < 3) && (decide (0 < a) == decide (t < 2)) && (decide (0 < b) == decide (t = 1))
def needL (x : Bool) (t : Int) : Bool := x && decide (t = 0)
theorem hnil0 (w : World) (h : Hd) (e : h.ls = ⟨[], [], [], [], []⟩) (q : Ha) : HdAt w w.heap.size h q := by
  obtain ⟨c1, c2, c3, c4, c5, c6, c7, c8, c9, m0, m1, c12, c13, w0, w1, c16, ops, c18, c19, c20, c21⟩ := h
  injection e with e1 e2 e3 e4 e5
  simp only at e1 e2 e3 e4 e5
  subst e1 e2 e3 e4 e5
  exact ⟨RwAt.nil _ _ _ _ _, RwAt.nil _ _ _ _ _, RwAt.nil _ _ _ _ _, RwAt.nil _ _ _ _ _, RwAt.nil _ _ _ _ _⟩
theorem hlen0 (h : Hd) (e : h.ls = ⟨[], [], [], [], []⟩) : HdLen h := by
  obtain ⟨c1, c2, c3, c4, c5, c6, c7, c8, c9, m0, m1, c12, c13, w0, w1, c16, ops, c18, c19, c20, c21⟩ := h
  injection e with e1 e2 e3 e4 e5
  simp only at e1 e2 e3 e4 e5
  subst e1 e2 e3 e4 e5
  exact ⟨by simp, by simp, by simp, by simp, by simp⟩
theorem wt_info : (Try.prog.info? 43).map (fun i => (i.zero, i.size, i.bytes)) = some (some (.agg #[.int .i64 0, .int .i64 0, .int .i64 0, .int .i64 0, .int .i64 0, .int .i64 0]), 6, 48) := by kernel_rfl
theorem wts_own {w : World} {base : Nat} {e : TypeId} {v : Value} {j : Nat} (h : w.ownsRow base e 6 v j (List.replicate (6 * j) (.int .i64 0))) :
    ∃ A c, v = .slice A j c ∧ RwAt w w.heap.size A 6 wtF (List.replicate j Wt.zero) := by
  rcases h.2 with ⟨rfl, h0⟩ | ⟨g, cap, cur, rfl, hbg, hh, hnc, hcm, _, _⟩
  · exact ⟨none, 0, by rw [h0], fun q => by simp at q; omega⟩
  · refine ⟨_, _, rfl, fun hn => ⟨⟨g, 0, none⟩, rfl, (Array.getElem?_eq_some_iff.1 hh).1, fun k hk => ?_⟩⟩
    have hk' : k < j := by simpa using hk
    have hc : ∀ i, i < 6 → w.cell? ⟨g, k * 6 + i, none⟩ = some (.int .i64 0) := fun i hi => by
      rw [h.cellAt _ (by omega), List.getElem?_replicate, if_pos (by omega)]
    refine ⟨?_, fun i _ hi => ?_⟩
    · rw [add_new, List.getElem_replicate]; exact hc 0 (by decide)
    · rw [add_new, List.getElem_replicate]
      refine (hc i hi).trans ?_
      have h6 : i = 0 ∨ i = 1 ∨ i = 2 ∨ i = 3 ∨ i = 4 ∨ i = 5 := by omega
      rcases h6 with rfl | rfl | rfl | rfl | rfl | rfl <;> rfl
theorem tn_grow {w wr wx : World} {n base j : Nat} {s : Sp} {p : Pp} {h : Hd} {q : Ha} {e : TypeId} {v : Value} {xs : List Value} {o : Obj} (H : Tn w wr n s p h q) (own : wr.ownsRow base e 6 v j xs) (hs : base ≤ wr.heap.size) (hb : n + 1 + 1 < base) (hw : w.heap.size ≤ base) (hg : (wr.alloc o).grownBy wx v.ownBlock) : Tn w wx n s p h q ∧ base ≤ wx.heap.size := by
  have hB : Below base wr wx := ((Below.refl base wr).alloc hs o).grown hg (by simp; omega) (fun k hk => (own.lt k hk).1)
  exact ⟨⟨H.k1.below hB (by omega), H.k2.below hB (by omega), H.k3.below hB hb, H.below.trans (hB.mono hw), H.ge⟩, Nat.le_trans hs hB.size⟩
theorem four {t : Int} (h : 0 ≤ t ∧ t < 4) : t = 0 ∨ t = 1 ∨ t = 2 ∨ t = 3 := by omega
theorem list_law (x : Bool) {t a b : Int} (ht : 0 ≤ t ∧ t < 4) (ha : 0 ≤ a ∧ a < 4) (hb : 0 ≤ b ∧ b < 4) : mayHd (lH t a b []) tS (lP x) 1 false = (fineL t a b && !needL x t) := by
  rcases four ht with rfl | rfl | rfl | rfl <;> rcases four ha with rfl | rfl | rfl | rfl <;> rcases four hb with rfl | rfl | rfl | rfl <;> cases x <;> decide
theorem list_with (x : Bool) {t a b : Int} (ht : 0 ≤ t ∧ t < 4) (ha : 0 ≤ a ∧ a < 4) (hb : 0 ≤ b ∧ b < 4) : mayHd (lH t a b (if needL x t = true then List.replicate a.toNat Wt.zero else [])) tS (lP x) 1 false = fineL t a b := by
  rcases four ht with rfl | rfl | rfl | rfl <;> rcases four ha with rfl | rfl | rfl | rfl <;> rcases four hb with rfl | rfl | rfl | rfl <;> cases x <;> decide
set_option maxRecDepth 100000 in
set_option maxHeartbeats 12800000 in
theorem walk_HeadLists (a0 : Int) (a1 : Int) (a2 : Int) (a3 : Bool) (w : World) (w_a0 : (Lit.int .i64 a0).wf = true) (w_a1 : (Lit.int .i64 a1).wf = true) (w_a2 : (Lit.int .i64 a2).wf = true) :
    Calls Try.prog 4 #[.int .i64 a0, .int .i64 a1, .int .i64 a2, .bool a3] w fun e w' => e = .returned (.bool true) ∧ Below w.heap.size w w' := by
  clear w_a0 w_a1 w_a2
  go_enter Try.func4, Try.ntmps4
  go_wp2_with fail
  refine (awake_any w).mono ?_
  rintro e wa ⟨rfl, hba⟩
  have HBA := Lib.hid hba
  clear hba
  go_upto_region 3 with fail
  refine wp_region_lit ?_
  refine tiny_run (N := 101) 22 21 23 24 25 9 10 11 rfl rfl rfl rfl rfl rfl rfl rfl rfl rfl rfl rfl rfl rfl rfl rfl rfl rfl rfl rfl rfl rfl rfl rfl rfl rfl rfl rfl rfl rfl rfl rfl rfl rfl (by decide) (by decide) ?_
  intro w1 hb1
  have HN := Lib.hid (Tn.new (HBA.out.trans (hb1.mono HBA.out.size)))
  obtain ⟨n, hn⟩ : ∃ n, w1.heap.size = n := ⟨_, rfl⟩
  obtain ⟨w4, hw4⟩ : ∃ w4, tnW w1 = w4 := ⟨_, rfl⟩
  rw [hw4, hn] at HN ⊢
  clear hw4 hb1 hn HBA
  have c2 := HN.out.k3.cell 2
  have f2 := HN.out.k3.frozen 2
  have c7 := HN.out.k3.cell 7
  have f7 := HN.out.k3.frozen 7
  have c8 := HN.out.k3.cell 8
  have f8 := HN.out.k3.frozen 8
  have c1 := HN.out.k2.cell 1
  have f1 := HN.out.k2.frozen 1
  simp [hdV, tH, Hd.zero] at c2 c7 c8
  simp [ppV, tP] at c1
  have hnn : ¬ n + 1 + 1 = n + 1 := by omega
  have hnm : ¬ n + 1 = n + 1 + 1 := by omega
  go_upto_region 8 with fail
  obtain ⟨T, hT⟩ : ∃ T, a0 % 4 = T := ⟨_, rfl⟩
  obtain ⟨A, hA⟩ : ∃ T, a1 % 4 = T := ⟨_, rfl⟩
  obtain ⟨B, hB⟩ : ∃ T, a2 % 4 = T := ⟨_, rfl⟩
  have HT := Lib.hid (show 0 ≤ T ∧ T < 4 by omega)
  have HA := Lib.hid (show 0 ≤ A ∧ A < 4 by omega)
  have HB := Lib.hid (show 0 ≤ B ∧ B < 4 by omega)
  rw [hT, hA, hB]
  obtain ⟨w8, hw8⟩ : ∃ w8, (((w4.setCell ⟨n + 1 + 1, 2, none⟩ (.int .i64 T)).setCell ⟨n + 1 + 1, 7, none⟩ (.int .i64 A)).setCell ⟨n + 1 + 1, 8, none⟩ (.int .i64 B)).setCell ⟨n + 1, 1, none⟩ (.bool a3) = w8 := ⟨_, rfl⟩
  have hN8 : Tn w w8 n tS (lP a3) (lH T A B []) Ha.zero := hw8 ▸ (((HN.out.hset (h' := { tH with type := T }) (q' := Ha.zero) 2 (.int .i64 T) rfl).hset (h' := { tH with type := T, a0 := A }) (q' := Ha.zero) 7 (.int .i64 A) rfl).hset (h' := lH T A B []) (q' := Ha.zero) 8 (.int .i64 B) rfl).pset (p' := lP a3) 1 (.bool a3) rfl
  rw [hw8]
  have HN8 := Lib.hid hN8
  clear c1 f1 c2 c7 c8 f2 f7 f8 hT hA hB hw8 hN8 HN hnn hnm
  have c2 := HN8.out.k3.cell 2
  have c7 := HN8.out.k3.cell 7
  have c8 := HN8.out.k3.cell 8
  simp [hdV, lH] at c2 c7 c8
  obtain ⟨R, hR⟩ : ∃ R, fineL T A B = R := ⟨_, rfl⟩
  obtain ⟨N, hN⟩ : ∃ R, needL a3 T = R := ⟨_, rfl⟩
  have HRR := Lib.hid hR
  have HNN := Lib.hid hN
  have HM := Lib.hid ((hN ▸ hR ▸ list_law a3 HT.out HA.out HB.out) : mayHd (lH T A B []) tS (lP a3) 1 false = (R && !N))
  have HM2 := Lib.hid ((hN ▸ hR ▸ list_with a3 HT.out HA.out HB.out) : mayHd (lH T A B (if N = true then List.replicate A.toNat Wt.zero else [])) tS (lP a3) 1 false = R)
  clear hR hN
  go_quiet (fail)
  obtain ⟨wc, hq⟩ : ∃ v, w8.drewN nq = v := ⟨_, rfl⟩
  have hbq : Below w8.heap.size w8 wc := ((hq ▸ (Touch.refl (fun _ => False) w8).drewN nq) : Touch (fun _ => False) w8 wc).below (fun _ h => h.elim) (Nat.le_refl _)
  rw [hq]
  replace HN8 := Lib.hid (HN8.out.go hbq)
  clear hq hbq c2 c7 c8
  have c2 := HN8.out.k3.cell 2
  have c7 := HN8.out.k3.cell 7
  have c8 := HN8.out.k3.cell 8
  simp [hdV, lH] at c2 c7 c8
  go_upto_region 9 with fail
  go_cut [14] (fun s14 wx => s14 = .bool R ∧ wc = wx)
  case first =>
    have ht := HT.out
    rcases four ht with rfl | rfl | rfl | rfl <;> by_cases p1 : 0 < A <;> by_cases p2 : 0 < B <;> (
      have hr := HRR.out
      simp [fineL, p1, p2] at hr
      subst hr
      go_wp2_with fail
      go_meet
      exact ⟨rfl, rfl⟩)
  case rest =>
   obtain ⟨rfl, rfl⟩ := hcut
   clear HRR
   go_upto_region 10 with fail
   go_cut [15] (fun s15 wx => s15 = .bool N ∧ wc = wx)
   case first =>
    have ht := HT.out
    rcases four ht with rfl | rfl | rfl | rfl <;> cases a3 <;> (
      have hn := HNN.out
      simp [needL] at hn
      subst hn
      go_wp2_with fail
      go_meet
      exact ⟨rfl, rfl⟩)
   case rest =>
    obtain ⟨rfl, rfl⟩ := hcut
    clear HNN c2 c7 c8
    go_upto_region 11 with fail
    refine wp_region_lit ?_
    refine wpl_val rfl (run_load_row rfl rfl (load_head HN8.out.k3)) ?_
    refine wpl_val rfl (run_load_row rfl rfl (load_sps HN8.out.k1)) ?_
    refine wpl_val rfl (run_load_row rfl rfl (load_pps HN8.out.k2)) ?_
    refine wpl_call rfl (f := 10) (args := #[.agg (hdV (lH T A B []) Ha.zero), .agg (spV tS none 0), .agg (ppV (lP a3)), .int .i64 1, .bool false]) (by kernel_rfl) ?_
    refine (HM.out ▸ mayhd_any (lH T A B []) Ha.zero tS none 0 (lP a3) 1 false wc (hnil0 _ (lH T A B []) rfl _) (hlen0 (lH T A B []) rfl) (Rd.zero wc wc.heap.size none _ : Rd wc wc.heap.size none 0 _) (by decide)).mono ?_
    rintro e w9 ⟨rfl, hb⟩
    refine ⟨_, rfl, ?_⟩
    have HN9 := Lib.hid (HN8.out.go hb)
    clear hb HN8 HM
    go_upto_region 13 with fail
    obtain ⟨i0, hi, hz0, hz1, hz2⟩ := info_parts wt_info
    have hgt : n + 1 + 1 < w9.heap.size := HN9.out.k3.lt
    have HZ := Lib.hid hgt
    go_loopw [17] (fun t wr => ∃ (j : Nat) (P : Option Addr) (c : Nat), (j : Int) ≤ A ∧ (j = 0 ∨ N = true) ∧ t = .int .i64 j ∧ Tn w wr n tS (lP a3) (lH T A B (List.replicate j Wt.zero)) { Ha.zero with w0 := P, cw0 := c } ∧ w9.heap.size ≤ wr.heap.size ∧ wr.ownsRow w9.heap.size 43 6 (.slice P j c) j (List.replicate (6 * j) (.int .i64 0))) (fun t _ => 4 - (intOf t).toNat)
    case atStart => exact ⟨0, none, 0, HA.out.1, .inl rfl, rfl, HN9.out, Nat.le_refl _, World.ownsRow_nil _ _ _ _⟩
    case round =>
      obtain ⟨j, P, c, hj, hjn, rfl, hN, hsz, hO⟩ := hrel
      have h3 := hN.k3.lt
      have c7 := hN.k3.cell 7
      have c13 := hN.k3.cell 13
      have f13 := hN.k3.frozen 13
      simp [hdV, lH, tH, Ha.zero, Hd.zero] at c7 c13
      have HO := Lib.hid hO
      have HN := Lib.hid hN
      have HJ := Lib.hid hj
      clear hO hN
      have HA := HA.out
      have hj4 : j ≤ 4 := by omega
      cases N
      · have hj0 : j = 0 := by
          rcases hjn with h | h
          · exact h
          · exact Bool.noConfusion h
        have hM : mayHd (lH T A B (List.replicate j Wt.zero)) tS (lP a3) 1 false = R := by
          have h := HM2.out
          rw [if_neg (by decide)] at h
          rw [hj0]
          exact h
        have hz : ((j : Nat) : Int) = 0 := by omega
        have HJZ := Lib.hid hj0
        clear hj0 hz hjn
        by_cases hlt : (j : Int) < A
        · (
            go_upto_region 16 with fail
            obtain ⟨P', c', ev, hw0⟩ := wts_own HO.out
            injection ev with e1 e2 e3
            subst e1 e3
            refine wp_region_lit ?_
            refine wpl_val rfl (run_load_row rfl rfl (load_head HN.out.k3)) ?_
            refine wpl_val rfl (run_load_row rfl rfl (load_sps HN.out.k1)) ?_
            refine wpl_val rfl (run_load_row rfl rfl (load_pps HN.out.k2)) ?_
            refine wpl_call rfl (f := 10) (args := #[.agg (hdV (lH T A B (List.replicate j Wt.zero)) { Ha.zero with w0 := P, cw0 := c }), .agg (spV tS none 0), .agg (ppV (lP a3)), .int .i64 1, .bool false]) (by kernel_rfl) ?_
            refine (hM ▸ mayhd_any (lH T A B (List.replicate j Wt.zero)) { Ha.zero with w0 := P, cw0 := c } tS none 0 (lP a3) 1 false wr ⟨RwAt.nil _ _ _ _ _, RwAt.nil _ _ _ _ _, hw0, RwAt.nil _ _ _ _ _, RwAt.nil _ _ _ _ _⟩ ⟨Nat.zero_le _, Nat.zero_le _, by simp [lH]; omega, Nat.zero_le _, Nat.zero_le _⟩ (Rd.zero wr wr.heap.size none _ : Rd wr wr.heap.size none 0 _) (by decide)).mono ?_
            rintro e w12 ⟨rfl, hb⟩
            refine ⟨_, rfl, ?_⟩
            have HN12 := Lib.hid (HN.out.go hb)
            clear hb hw0 hM
            cases R <;> (
              go_wp2_with fail
              go_ret
              exact ⟨rfl, HN12.out.below⟩))
        · (
            go_upto_region 16 with fail
            obtain ⟨P', c', ev, hw0⟩ := wts_own HO.out
            injection ev with e1 e2 e3
            subst e1 e3
            refine wp_region_lit ?_
            refine wpl_val rfl (run_load_row rfl rfl (load_head HN.out.k3)) ?_
            refine wpl_val rfl (run_load_row rfl rfl (load_sps HN.out.k1)) ?_
            refine wpl_val rfl (run_load_row rfl rfl (load_pps HN.out.k2)) ?_
            refine wpl_call rfl (f := 10) (args := #[.agg (hdV (lH T A B (List.replicate j Wt.zero)) { Ha.zero with w0 := P, cw0 := c }), .agg (spV tS none 0), .agg (ppV (lP a3)), .int .i64 1, .bool false]) (by kernel_rfl) ?_
            refine (hM ▸ mayhd_any (lH T A B (List.replicate j Wt.zero)) { Ha.zero with w0 := P, cw0 := c } tS none 0 (lP a3) 1 false wr ⟨RwAt.nil _ _ _ _ _, RwAt.nil _ _ _ _ _, hw0, RwAt.nil _ _ _ _ _, RwAt.nil _ _ _ _ _⟩ ⟨Nat.zero_le _, Nat.zero_le _, by simp [lH]; omega, Nat.zero_le _, Nat.zero_le _⟩ (Rd.zero wr wr.heap.size none _ : Rd wr wr.heap.size none 0 _) (by decide)).mono ?_
            rintro e w12 ⟨rfl, hb⟩
            refine ⟨_, rfl, ?_⟩
            have HN12 := Lib.hid (HN.out.go hb)
            clear hb hw0 hM
            cases R <;> (
              go_wp2_with fail
              go_ret
              exact ⟨rfl, HN12.out.below⟩))
      · by_cases hlt : (j : Int) < A
        · go_upto_region 15 with fail
          have HW1 : Hid (∀ (k : Nat) (u : Value), ([.int .i64 0, .int .i64 0, .int .i64 0, .int .i64 0, .int .i64 0, .int .i64 0] : List Value)[k]? = some u → (wr.alloc (.cells #[.int .i64 0, .int .i64 0, .int .i64 0, .int .i64 0, .int .i64 0, .int .i64 0] 43)).cell? ((⟨wr.heap.size, 0, none⟩ : Addr).add k) = some u) := Lib.hid fun k u hk => by
            rw [add_new, (Bk.new wr 43 #[.int .i64 0, .int .i64 0, .int .i64 0, .int .i64 0, .int .i64 0, .int .i64 0]).cell k]
            simpa using hk
          have HSZ := Lib.hid hsz
          have HWB := Lib.hid HN9.out.below.size
          go_wp2_with (at_builtin; refine wpList_append_rows _ rfl _ _ 29 rfl w9.heap.size 43 i0 _ 6 48 Try.underlying29 hi hz0 hz1 hz2 rfl (by decide) _ j _ rfl (HO.out.alloc _) _ 1 1 [.int .i64 0, .int .i64 0, .int .i64 0, .int .i64 0, .int .i64 0, .int .i64 0] rfl rfl (fun _ => ⟨_, rfl, HW1.out⟩) (fun q => nomatch q) (by decide) (by unfold maxLen; omega) (by omega) (by simp; omega) ?_; intro v1 wx hown1 hg1; have hown2 : wx.ownsRow w9.heap.size 43 6 v1 (j + 1) (List.replicate (6 * (j + 1)) (.int .i64 0)) := (by rw [show 6 * (j + 1) = 6 * j + 6 by omega, ← List.replicate_append_replicate]; exact hown1); obtain ⟨P', c', rfl, hw0⟩ := wts_own hown2; obtain ⟨hnx, hsx⟩ := tn_grow HN.out HO.out HSZ.out HZ.out HWB.out hg1; have cx := hnx.k3.cell 13; have fx := hnx.k3.frozen 13; simp [hdV, lH, tH, Ha.zero, Hd.zero] at cx; have HX := Lib.hid hnx; have HOX := Lib.hid hown2; have HSX := Lib.hid hsx; clear hown1 hown2 hw0 hnx hg1 hsx c13 f13 c7)
          go_roundw
          case rel => exact ⟨j + 1, by omega, by go_num, P', c', HX.out.hset (h' := lH T A B (List.replicate (j + 1) Wt.zero)) (q' := { Ha.zero with w0 := P', cw0 := c' }) 13 (.slice P' (j + 1) c') (by simp [hdV, lH]), HSX.out, own_setFar HOX.out (fun e => by have h1 : w9.heap.size ≤ n + 1 + 1 := (HOX.out.lt _ e).1; have h2 := HZ.out; omega) _⟩
          first | (simp only [intOf]; omega) | (simp [intOf]; omega)
        · have hjA : (j : Int) = A := by omega
          have hM : mayHd (lH T A B (List.replicate j Wt.zero)) tS (lP a3) 1 false = R := by
            have h := HM2.out
            have e : A.toNat = j := by omega
            rw [if_pos rfl, e] at h
            exact h
          clear hjA hjn
          go_upto_region 16 with fail
          obtain ⟨P', c', ev, hw0⟩ := wts_own HO.out
          injection ev with e1 e2 e3
          subst e1 e3
          refine wp_region_lit ?_
          refine wpl_val rfl (run_load_row rfl rfl (load_head HN.out.k3)) ?_
          refine wpl_val rfl (run_load_row rfl rfl (load_sps HN.out.k1)) ?_
          refine wpl_val rfl (run_load_row rfl rfl (load_pps HN.out.k2)) ?_
          refine wpl_call rfl (f := 10) (args := #[.agg (hdV (lH T A B (List.replicate j Wt.zero)) { Ha.zero with w0 := P, cw0 := c }), .agg (spV tS none 0), .agg (ppV (lP a3)), .int .i64 1, .bool false]) (by kernel_rfl) ?_
          refine (hM ▸ mayhd_any (lH T A B (List.replicate j Wt.zero)) { Ha.zero with w0 := P, cw0 := c } tS none 0 (lP a3) 1 false wr ⟨RwAt.nil _ _ _ _ _, RwAt.nil _ _ _ _ _, hw0, RwAt.nil _ _ _ _ _, RwAt.nil _ _ _ _ _⟩ ⟨Nat.zero_le _, Nat.zero_le _, by simp [lH]; omega, Nat.zero_le _, Nat.zero_le _⟩ (Rd.zero wr wr.heap.size none _ : Rd wr wr.heap.size none 0 _) (by decide)).mono ?_
          rintro e w12 ⟨rfl, hb⟩
          refine ⟨_, rfl, ?_⟩
          have HN12 := Lib.hid (HN.out.go hb)
          clear hb hw0 hM
          cases R <;> (
            go_wp2_with fail
            go_ret
            exact ⟨rfl, HN12.out.below⟩)
end Go.Proofs.Ytjokibagciehlaa
