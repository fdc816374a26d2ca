/- Blocks of coefficients: the document's Get. -/
import Derived.Test.YtocooplmfkeepaaLevT
import Derived.Test.YtocooplmfkeepaaLevH
namespace Go.Proofs.Ytocooplmfkeepaa
open Go.RowKit
set_option linter.unusedVariables false
set_option linter.unusedSimpArgs false
attribute [local go_sem] ite_max ite_min

theorem onw_assoc {α β γ : Type} (r : Except Int (α × Nat)) (k : α → Nat → Except Int (β × Nat)) (m : β → Nat → Except Int γ) : onw (onw r k) m = onw r fun x b => onw (k x b) m := by
  rcases r with c | ⟨x, b⟩ <;> rfl
theorem getB1_val (f : Nat → Bool) (N size t a : Nat) (ht : 1 ≤ t) : getB1 f N size t a = onw (valR f N t a) fun cs b => getB4 f N size t cs b := by
  unfold getB1 valR
  rw [if_neg (by omega), onw_assoc]
  congr 1
  funext o b
  unfold getB2 getB3
  rw [onw_assoc]
theorem RRPost.le {w w' : World} {g gB N b : Nat} {f : Nat → Bool} (h : RRPost w g gB N f b w') : w.heap.size ≤ w'.heap.size := h.2.size
structure DI (w1 wr : World) (g gB N : Nat) (f : Nat → Bool) (O size : Nat) (a : Nat) (z : Nat → Int) : Prop where
  rr : RR wr g gB N f a
  ha : a ≤ N
  ar : Ar wr O size fun k => .int .i64 (z k)
  ht : Touch (fun k => k = g ∨ k = O) w1 wr
theorem DI.read {w1 wr w2 : World} {g gB N O size a b : Nat} {f : Nat → Bool} {z : Nat → Int} (h : DI w1 wr g gB N f O size a z) (k : RRPost wr g gB N f b w2) (hb : b ≤ N) (hO : O ≠ g) : DI w1 w2 g gB N f O size b z :=
  ⟨k.1, hb, h.ar.touch k.2 hO, h.ht.trans (k.2.mono fun i _ q => .inl q)⟩
theorem DI.set_ {w1 wr : World} {g gB N O size a : Nat} {f : Nat → Bool} {z : Nat → Int} (h : DI w1 wr g gB N f O size a z) {p : Nat} (hp : p < size) (c : Int) (hO : O ≠ g) (hB : gB ≠ O) : DI w1 (wr.setCell ⟨O, p, none⟩ (.int .i64 c)) g gB N f O size a (upd z p c) := by
  obtain ⟨⟨cp, hk⟩, h1, h2, h3⟩ := h.rr
  refine ⟨⟨⟨cp, hk.far (fun q => hO q.symm) _⟩, h1, by simpa [World.setCell] using h2, fun k hk' => (World.cell?_of_block (Below.heap_setCell _ _ _ _ hB)).trans (h3 k hk')⟩, h.ha, (h.ar.set_ hp _).congr fun k _ => ?_, h.ht.setCell (fun _ => .inr rfl) _⟩
  unfold upd
  split <;> rfl
def TD (w : World) (g gB N : Nat) (f : Nat → Bool) (size : Nat) (r : Except Int ((Nat → Int) × Nat)) (e : Ending) (w' : World) : Prop :=
  match r with
  | .ok (z, b) => ∃ O, e = .returned (.tuple #[.slice (some ⟨O, 0, none⟩) size size, .int .i64 0]) ∧ w.heap.size ≤ O ∧ Ar w' O size (fun k => .int .i64 (z k)) ∧ b ≤ N ∧ RRPost w g gB N f b w'
  | .error c => e = .returned (.tuple #[.slice none 0 0, .int .i64 c]) ∧ c ≠ 0 ∧ ∃ b, RRPost w g gB N f b w'
theorem getT_ne {f : Nat → Bool} {N m a : Nat} {c : Int} (h : getT f N m a = .error c) : c ≠ 0 := by
  unfold getT at h
  split at h
  · cases h
  · split at h
    · cases h
    · injection h with h
      rw [← h]
      unfold lcode; split <;> decide
theorem getO_ne {f : Nat → Bool} {N : Nat} {c : Int} : ∀ {o : Nat} {acc : List Int} {a : Nat}, getO f N o acc a = .error c → c ≠ 0
  | 0, _, _, h => by cases h
  | o + 1, acc, a, h => by
    rw [getO_succ] at h
    split at h
    · exact getO_ne h
    · injection h with h
      rw [← h]
      unfold lcode; split <;> decide
theorem getV_ne {f : Nat → Bool} {N a : Nat} {nr : Bool} {c : Int} (h : getV f N nr a = .error c) : c ≠ 0 := by
  unfold getV at h
  split at h
  · split at h
    · injection h with h; rw [← h]; decide
    · split at h
      · injection h with h; rw [← h]; decide
      · cases h
  · injection h with h
    rw [← h]
    unfold lcode; split <;> decide
theorem getLs_ne {f : Nat → Bool} {N : Nat} {c : Int} : ∀ {n : Nat} {nr : Bool} {acc : List Int} {a : Nat}, getLs f N n nr acc a = .error c → c ≠ 0
  | 0, _, _, _, h => by cases h
  | n + 1, nr, acc, a, h => by
    rw [getLs_succ] at h
    rcases hv : getV f N nr a with d | ⟨x, b⟩
    · rw [hv] at h
      have h2 : (.error d : Except Int (List Int × Nat)) = .error c := h
      injection h2 with h2
      rw [← h2]
      exact getV_ne hv
    · rw [hv] at h
      exact getLs_ne (show getLs f N n false (acc ++ [x]) b = .error c from h)
theorem valR_ne {f : Nat → Bool} {N t a : Nat} {c : Int} (h : valR f N t a = .error c) : c ≠ 0 := by
  unfold valR at h
  rcases h1 : getT f N (min 3 t) a with d | ⟨o, b⟩
  · rw [h1] at h
    have h2 : (.error d : Except Int (List Int × Nat)) = .error c := h
    injection h2 with h2
    rw [← h2]
    exact getT_ne h1
  · rw [h1] at h
    have h' : onw (getO f N o [] b) (fun cs b => getLs f N (t - o) (decide (o < 3)) cs b) = .error c := h
    rcases h3 : getO f N o [] b with d | ⟨cs, b2⟩
    · rw [h3] at h'
      have h2 : (.error d : Except Int (List Int × Nat)) = .error c := h'
      injection h2 with h2
      rw [← h2]
      exact getO_ne h3
    · rw [h3] at h'
      exact getLs_ne (show getLs f N (t - o) (decide (o < 3)) cs b2 = .error c from h')
theorem lcode_ne {x : Nat} : lcode x ≠ 0 := by unfold lcode; split <;> decide

set_option maxRecDepth 100000 in
set_option maxHeartbeats 12800000 in
theorem dget_in (g gB N : Nat) (f : Nat → Bool) (a size : Nat) (w : World) (h : RR w g gB N f a) (hN : N ≤ 1125899906842624) (ha : a ≤ N) (h4 : 4 ≤ size) (h16 : size ≤ 16) :
    Calls Try.prog 45 #[.pointer (some ⟨g, 0, none⟩), .int .i64 size] w (TD w g gB N f size (getB f N size a)) := by
  obtain ⟨i0, hi, hz0, hz1, hz2⟩ := info_parts int_info
  have hgl : g < w.heap.size := by obtain ⟨⟨cp, hk⟩, _⟩ := h; exact hk.lt
  have hBl : gB < w.heap.size := h.2.2.1
  have H := Lib.hid h
  have HMK : Hid (∀ w : World, (Instr.makeSlice 22 (.int .i64 (size : Int)) (.int .i64 (size : Int))).run Try.prog w = .ok (.slice (some ⟨w.heap.size, 0, none⟩) size size) (w.alloc (.cells (Array.replicate size (.int .i64 0)) 3))) := Lib.hid fun w => run_make_one (P := Try.prog) 22 3 i0 (.int .i64 0) Try.underlying22 hi hz0 hz1 rfl size (by rw [hz2]; omega) (by omega) w
  clear h
  obtain ⟨R, hR⟩ : ∃ R, R = getB f N size a := ⟨_, rfl⟩
  rw [← hR]
  unfold getB at hR
  rcases hT : getT f N size a with c | ⟨t, b⟩
  · rw [hT] at hR
    have hre : R = .error c := hR
    have HRE := Lib.hid hre
    have HT := Lib.hid hT
    clear hR hre hT
    go_enter Try.func45, Try.ntmps45
    go_wp2_with fail
    refine (dTe_er HT.out H.out hN ha (by omega)).mono ?_
    rintro e w1 ⟨x, ec, b, h1, h2, rfl, h3⟩
    have H3 := Lib.hid h3
    have H2 := Lib.hid h2
    have H1 := Lib.hid h1
    have hne : ((ec : Int) != 0) = true := by rw [bne_iff_ne]; omega
    clear h1 h2 h3
    go_wp2_with fail
    refine (code_any ec _ H1.out).mono ?_
    rintro e w' ⟨rfl, rfl⟩
    rw [← H2.out]
    go_wp2_with fail
    go_ret2
    rw [HRE.out]
    exact ⟨rfl, by rw [H2.out]; exact lcode_ne, b, H3.out⟩
  · rw [hT] at hR
    have hTk := getT_ok hT ha
    obtain ⟨hts, _, hb⟩ := hTk
    have hr1 : R = getB1 f N size t b := hR
    have HT := Lib.hid hT
    clear hR hT
    have hfin : ∀ w1 : World, RRPost w g gB N f b w1 → ∃ W1, (Instr.makeSlice 22 (.int .i64 (size : Int)) (.int .i64 (size : Int))).run Try.prog w1 = .ok (.slice (some ⟨w1.heap.size, 0, none⟩) size size) W1 ∧ DI W1 W1 g gB N f w1.heap.size size b (fun _ => 0) ∧ W1.heap.size = w1.heap.size + 1 ∧
        (∀ (wr w2 : World) (a b : Nat) (z : Nat → Int), DI W1 wr g gB N f w1.heap.size size a z → RRPost wr g gB N f b w2 → RRPost w g gB N f b w2) := by
      intro w1 hq
      refine ⟨_, HMK.out w1, ⟨hq.1.go ((Below.refl _ _).alloc (Nat.le_refl _) _), hb, Ar.made w1 3 size _, Touch.refl _ _⟩, by simp, fun wr w2 a b z hd k => ⟨k.1, ?_⟩⟩
      have h1 : Touch (RS g) w wr := (hq.2.alloc _).old hd.ht fun i hi q => by
        rcases q with q | q
        · exact q
        · have := hq.2.size; omega
      exact h1.trans k.2
    have HFIN := Lib.hid hfin
    clear hfin
    rcases Nat.eq_zero_or_pos t with ht0 | ht0
    · subst ht0
      have hre : R = .ok (fun _ => 0, b) := by rw [hr1]; unfold getB1; rw [if_pos rfl]
      have HRE := Lib.hid hre
      clear hr1 hre
      go_enter Try.func45, Try.ntmps45
      go_wp2_with fail
      refine (dTe_ok HT.out H.out hN ha (by omega)).mono ?_
      rintro e w1 ⟨rfl, hq⟩
      obtain ⟨W1, hmk, hdi, hW1, hpo⟩ := HFIN.out w1 hq
      have HDI := Lib.hid hdi
      have HPO := Lib.hid (hpo _ _ _ _ _ hdi ⟨hdi.rr, Touch.refl _ _⟩)
      have hsz := hq.2.size
      clear hq hdi hpo
      go_wp2_with fail
      go_ret2
      rw [HRE.out]
      exact ⟨_, rfl, hsz, HDI.out.ar, hb, HPO.out⟩
    · have ht1 : ((t : Int) == 0) = false := by rw [beq_eq_false_iff_ne]; omega
      rw [getB1_val f N size t b ht0] at hr1
      go_enter Try.func45, Try.ntmps45
      have HR1 := Lib.hid hr1
      clear hr1
      go_wp2_with fail
      refine (dTe_ok HT.out H.out hN ha (by omega)).mono ?_
      rintro e w1 ⟨rfl, hq⟩
      obtain ⟨W1, hmk, hdi, hW1, hpo⟩ := HFIN.out w1 hq
      have hsz := hq.2.size
      have hOg : w1.heap.size ≠ g := by omega
      have hOB : gB ≠ w1.heap.size := by omega
      have hOW : w1.heap.size < W1.heap.size := by omega
      have hgW : g < W1.heap.size := by omega
      have HSZ : Hid (w.heap.size ≤ w1.heap.size) := Lib.hid hsz
      generalize w1.heap.size = O at hmk hdi hpo hOg hOB hOW hsz HSZ
      have HDI := Lib.hid hdi
      have HPO := Lib.hid hpo
      have HO := Lib.hid (And.intro hOg (And.intro hOB (And.intro hOW hgW)))
      clear hq hdi hpo hW1 hOg hOB hOW hgW HFIN hsz
      go_wp2_with fail
      have hval := values_any g gB N f b t W1 HDI.out.rr hN hb ht0 (by omega)
      rcases hV : valR f N t b with c | ⟨cs, b2⟩
      · rw [hV] at hval
        have hre : R = .error c := HR1.out.trans (onw_er hV)
        have hcz := valR_ne hV
        have HRE := Lib.hid hre
        have hcz' : (c != 0) = true := by rw [bne_iff_ne]; exact hcz
        have HCZ := Lib.hid hcz
        clear hre hV hcz
        refine hval.mono ?_
        rintro e w2 ⟨rfl, b3, hq⟩
        have HQ := Lib.hid (HPO.out _ _ _ _ _ HDI.out hq)
        clear hq hval
        go_wp2_with fail
        go_ret2
        rw [HRE.out]
        exact ⟨rfl, HCZ.out, b3, HQ.out⟩
      · rw [hV] at hval
        have hr4 : R = getB4 f N size t cs b2 := HR1.out.trans (onw_ok hV)
        unfold getB4 at hr4
        refine hval.mono ?_
        rintro e w2 ⟨vs, rfl, hcl, hown, hb2, hq⟩
        obtain ⟨g', cap, rfl, hnc, hcm, hgb, hgl2⟩ := own_form hown (by omega)
        have har : Ar w2 g' t (fun k => .int .i64 (cs.getD k 0)) := ⟨fun k hk => by
          rw [hown.cellAt k (by omega)]
          unfold intV
          rw [List.getElem?_map, List.getElem?_eq_getElem (by omega)]
          show some (Value.int .i64 (cs[k]'(by omega))) = some (Value.int .i64 (cs.getD k 0))
          rw [List.getD_eq_getElem?_getD, List.getElem?_eq_getElem (by omega)]
          rfl, fun o => hown.frozenAt o, hgl2⟩
        have HAR := Lib.hid har
        have hdi2 := HDI.out.read hq hb2 HO.out.1
        have HD2 := Lib.hid hdi2
        have HG := Lib.hid (And.intro (show g' ≠ g by have := HO.out.2.2.2; omega) (show g' ≠ O by have := HO.out.2.2.1; omega))
        have HAC := Lib.hid hcl
        have hkt : (size : Int) - t = ((size - t : Nat) : Int) := by omega
        obtain ⟨m2, hm2⟩ : ∃ m2, m2 = size - t := ⟨_, rfl⟩
        rw [← hm2] at hr4 hkt
        have HM2 := Lib.hid hm2
        have htc : t < size ∨ t = size := by omega
        clear hval hV hown har hdi2 hq hcl hnc hcm hgb hgl2 hm2 HDI HR1 HT
        rcases hT3 : getT f N m2 b2 with c | ⟨x, b3⟩
        · rw [hT3] at hr4
          have hre : R = .error c := hr4
          have HRE := Lib.hid hre
          have HT3 := Lib.hid hT3
          have htlt : (t : Int) < (size : Int) := by
            rcases htc with h | h
            · omega
            · exfalso
              unfold getT at hT3
              rw [if_pos (by have := HM2.out; omega)] at hT3
              cases hT3
          clear hr4 hre hT3 htc
          go_wp2_with fail
          refine (dte_er HT3.out HD2.out.rr hN HD2.out.ha).mono ?_
          rintro e w4 ⟨xx, ec, b5, k1, k2, rfl, hq⟩
          have HQ := Lib.hid (HPO.out _ _ _ _ _ HD2.out hq)
          have K1 := Lib.hid k1
          have K2 := Lib.hid k2
          have hne : ((ec : Int) != 0) = true := by rw [bne_iff_ne]; omega
          clear hq k1 k2
          go_wp2_with fail
          refine (code_any ec _ K1.out).mono ?_
          rintro e w' ⟨rfl, rfl⟩
          rw [← K2.out]
          go_wp2_with fail
          go_ret2
          rw [HRE.out]
          exact ⟨rfl, by rw [K2.out]; exact lcode_ne, b5, HQ.out⟩
        · rw [hT3] at hr4
          have hTk := getT_ok hT3 HD2.out.ha
          obtain ⟨hxm, _, hb3⟩ := hTk
          have hr5 : getRs f N cs x (fun _ => 0) b3 = R := hr4.symm
          have HR5 := Lib.hid hr5
          have HT3 := Lib.hid hT3
          have hxs : x + t ≤ size := by have := HM2.out; omega
          clear hr4 hr5 hT3 hxm
          rcases htc with htc | htc
          all_goals
            first
            | (have htlt : (t : Int) < (size : Int) := Int.ofNat_lt.2 htc
               clear htc
               go_wp2_with fail
               refine (dte_ok HT3.out HD2.out.rr hN HD2.out.ha).mono ?_
               rintro e w4 ⟨rfl, hq⟩
               have HB4 := Lib.hid (HD2.out.read hq hb3 HO.out.1)
               have HAR4 := Lib.hid (HAR.out.touch hq.2 HG.out.1)
               clear hq HAR HD2 hkt
               go_wp2_with fail)
            | (have htlt : ¬ (t : Int) < (size : Int) := by omega
               have ht3 := HT3.out
               unfold getT at ht3
               rw [if_pos (by have := HM2.out; omega)] at ht3
               injection ht3 with ht3
               injection ht3 with hx0 hbb
               subst hx0
               subst hbb
               have HB4 := HD2
               have HAR4 := HAR
               clear htc HAR HD2 hkt
               go_wp2_with fail)
          all_goals
            go_loopw [11, 13, 14] (fun s11 s13 s14 wr => ∃ (q x : Nat) (out : Nat → Int) (b' : Nat), q ≤ t ∧ s14 = .int .i64 q ∧ s11 = .int .i64 x ∧ s13 = .int .i64 ((x : Int) + t - 1 - q) ∧ x + t ≤ size ∧ DI W1 wr g gB N f O size b' out ∧ Ar wr g' t (fun k => .int .i64 (cs.getD k 0)) ∧ getRs f N (cs.drop q) x out b' = R) (fun _ _ s _ => t - (intOf s).toNat)
            case atStart => first | exact ⟨0, x, _, b3, Nat.zero_le _, rfl, rfl, by go_num, hxs, HB4.out, HAR4.out, HR5.out⟩ | exact ⟨0, 0, _, b2, Nat.zero_le _, rfl, rfl, by simp, hxs, HB4.out, HAR4.out, HR5.out⟩
            case round =>
              clear HB4 HAR4
              obtain ⟨q, x, out, b', hqj, rfl, rfl, rfl, hxs, hbi, har, hgr⟩ := hrel
              have HBI := Lib.hid hbi
              have HAR := Lib.hid har
              have hq0 : (0 : Int) ≤ (q : Int) := Int.natCast_nonneg _
              have hx0 : (0 : Int) ≤ (x : Int) := Int.natCast_nonneg _
              by_cases hlt : q < t
              · have hlt' : (q : Int) < (t : Int) := by omega
                have hql : q < cs.length := by have := HAC.out; omega
                rw [List.drop_eq_getElem_cons hql, getRs_cons] at hgr
                have hcv : cs[q]'hql = cs.getD q 0 := by rw [List.getD_eq_getElem?_getD, List.getElem?_eq_getElem hql]; rfl
                rw [hcv] at hgr
                have hdl : (cs.drop (q + 1)).length = t - (q + 1) := by rw [List.length_drop]; have := HAC.out; omega
                rw [hdl] at hgr
                have hc1 := har.1 q hlt
                simp only at hc1
                obtain ⟨c, hc⟩ : ∃ c, c = cs.getD q 0 := ⟨_, rfl⟩
                rw [← hc] at hgr hc1
                obtain ⟨p, hp⟩ : ∃ p : Nat, p = x + (t - (q + 1)) := ⟨_, rfl⟩
                have hpi : (x : Int) + t - 1 - q = (p : Int) := by omega
                have hps : p < size := by omega
                have hps' : (p : Int) < (size : Int) := by omega
                have hp0 : (0 : Int) ≤ (p : Int) := Int.natCast_nonneg _
                have hcO := hbi.ar.1 p hps
                have hfO := hbi.ar.2.1 p
                simp only at hcO
                rw [← hp] at hgr
                rw [hpi]
                have hbs := hbi.set_ hps c HO.out.1 HO.out.2.1
                have hars := har.far (p := ⟨O, p, none⟩) HG.out.2 (.int .i64 c)
                have HBS := Lib.hid hbs
                have HARS := Lib.hid hars
                have HP := Lib.hid hp
                have hways : (q + 1 = t) ∨ (q + 1 < t ∧ x = 0) ∨ (q + 1 < t ∧ 0 < x) := by omega
                clear hc hcv hdl hbi har hbs hars hlt hpi hp
                rcases hways with h1 | ⟨h1, h2⟩ | ⟨h1, h2⟩
                · have h1' : ¬ (q : Int) + 1 < (t : Int) := by omega
                  rw [if_pos (List.drop_eq_nil_of_le (by have := HAC.out; omega))] at hgr
                  have hpx : p = x := by have := HP.out; omega
                  have hre : getRs f N (cs.drop (q + 1)) x (upd out p c) b' = R := by
                    rw [List.drop_eq_nil_of_le (by have := HAC.out; omega), hpx]
                    exact hgr
                  have HRE := Lib.hid hre
                  have HPX := Lib.hid hpx
                  clear hgr hre hpx h1
                  go_wp2_with fail
                  go_roundw
                  case rel => exact ⟨q + 1, x, upd out p c, b', by omega, by go_num, rfl, by have := HPX.out; congr 1; omega, hxs, HBS.out, HARS.out, HRE.out⟩
                  case measure => simp [intOf]; omega
                · have h1' : (q : Int) + 1 < (t : Int) := by omega
                  have h2' : ¬ (0 : Int) < (x : Int) := by omega
                  rw [if_neg (fun q => by have h := congrArg List.length q; rw [List.length_drop] at h; have := HAC.out; simp at h; omega), show getT f N x b' = .ok (0, b') by unfold getT; rw [if_pos h2]] at hgr
                  have hre : getRs f N (cs.drop (q + 1)) x (upd out p c) b' = R := hgr
                  have HRE := Lib.hid hre
                  clear hgr hre h1 h2
                  go_wp2_with fail
                  go_roundw
                  case rel => exact ⟨q + 1, x, upd out p c, b', by omega, by go_num, rfl, by have := HP.out; congr 1; omega, hxs, HBS.out, HARS.out, HRE.out⟩
                  case measure => simp [intOf]; omega
                · try (exfalso; omega)
                  all_goals
                    have h1' : (q : Int) + 1 < (t : Int) := by omega
                    have h2' : (0 : Int) < (x : Int) := by omega
                    rw [if_neg (fun q => by have h := congrArg List.length q; rw [List.length_drop] at h; have := HAC.out; simp at h; omega)] at hgr
                    rcases hT4 : getT f N x b' with c4 | ⟨r, b4⟩
                    · rw [hT4] at hgr
                      have hre : R = .error c4 := hgr.symm
                      have HRE := Lib.hid hre
                      have HT4 := Lib.hid hT4
                      clear hT4 hgr hre h1 h2
                      go_wp2_with fail
                      refine (dte_er HT4.out HBS.out.rr hN HBS.out.ha).mono ?_
                      rintro e w6 ⟨xx, ec, b5, k1, k2, rfl, hq⟩
                      have HQ := Lib.hid (HPO.out _ _ _ _ _ HBS.out hq)
                      have K1 := Lib.hid k1
                      have K2 := Lib.hid k2
                      have hne : ((ec : Int) != 0) = true := by rw [bne_iff_ne]; omega
                      clear hq k1 k2
                      go_wp2_with fail
                      refine (code_any ec _ K1.out).mono ?_
                      rintro e w' ⟨rfl, rfl⟩
                      rw [← K2.out]
                      go_wp2_with fail
                      go_ret2
                      rw [HRE.out]
                      exact ⟨rfl, by rw [K2.out]; exact lcode_ne, b5, HQ.out⟩
                    · rw [hT4] at hgr
                      have hTk := getT_ok hT4 HBS.out.ha
                      obtain ⟨hrx, _, hb4⟩ := hTk
                      have hre : getRs f N (cs.drop (q + 1)) (x - r) (upd out p c) b4 = R := hgr
                      have HRE := Lib.hid hre
                      have HT4 := Lib.hid hT4
                      have hxr : (x : Int) - r = ((x - r : Nat) : Int) := by omega
                      have hrx' : (r : Int) ≤ (x : Int) := by omega
                      have hr0 : (0 : Int) ≤ (r : Int) := Int.natCast_nonneg _
                      clear hT4 hgr hre h1 h2
                      go_wp2_with fail
                      refine (dte_ok HT4.out HBS.out.rr hN HBS.out.ha).mono ?_
                      rintro e w6 ⟨rfl, hq⟩
                      have HB6 := Lib.hid (HBS.out.read hq hb4 HO.out.1)
                      have HAR6 := Lib.hid (HARS.out.touch hq.2 HG.out.1)
                      clear hq
                      go_wp2_with fail
                      go_roundw
                      case rel => exact ⟨q + 1, x - r, upd out p c, b4, by omega, by go_num, rfl, by have := HP.out; congr 1; omega, by omega, HB6.out, HAR6.out, HRE.out⟩
                      case measure => simp [intOf]; omega
              · obtain rfl : q = t := by omega
                have hre : R = .ok (out, b') := by
                  rw [← hgr, List.drop_eq_nil_of_le (by have := HAC.out; omega)]
                  rfl
                have HRE := Lib.hid hre
                have HQ := Lib.hid (HPO.out _ _ _ _ _ hbi ⟨hbi.rr, Touch.refl _ _⟩)
                clear hgr hre hlt hbi har
                go_wp2_with fail
                go_ret2
                rw [HRE.out]
                exact ⟨O, rfl, HSZ.out, HBI.out.ar, HBI.out.ha, HQ.out⟩
end Go.Proofs.Ytocooplmfkeepaa
