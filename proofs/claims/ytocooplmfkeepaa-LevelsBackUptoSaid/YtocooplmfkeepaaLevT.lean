/- Blocks of coefficients: the document's reader: code, te, values. -/
import Derived.Test.YtocooplmfkeepaaLevE
import Derived.Test.YtocooplmfkeepaaBitJ
namespace Go.Proofs.Ytocooplmfkeepaa
open Go.RowKit
set_option linter.unusedVariables false
set_option linter.unusedSimpArgs false
attribute [local go_sem] ite_max ite_min

theorem code_any (x : Nat) (w : World) (h : x = 100 ∨ x = 101) : Calls Try.prog 54 #[.int .i64 (x : Int)] w fun e w' => e = .returned (.int .i64 (lcode x)) ∧ w = w' := by
  rcases h with rfl | rfl
  all_goals
    go_enter Try.func54, Try.ntmps54
    go_wp2_with fail
    go_ret
    exact ⟨rfl, rfl⟩
/-- a number that is read: it, or an error's number -/
def T2 (w : World) (g gB N : Nat) (f : Nat → Bool) (r : Except Int (Int × Nat)) (e : Ending) (w' : World) : Prop :=
  match r with
  | .ok (x, b) => e = .returned (.tuple #[.int .i64 x, .int .i64 0]) ∧ RRPost w g gB N f b w'
  | .error c => ∃ (x : Int) (ec b : Nat), (ec = 100 ∨ ec = 101) ∧ c = lcode ec ∧ e = .returned (.tuple #[.int .i64 x, .int .i64 (ec : Int)]) ∧ RRPost w g gB N f b w'
theorem dTe_any (g gB N : Nat) (f : Nat → Bool) (a most : Nat) (w : World) (h : RR w g gB N f a) (hN : N ≤ 1125899906842624) (ha : a ≤ N) (hm : 1 ≤ most) :
    Calls Try.prog 53 #[.pointer (some ⟨g, 0, none⟩), .int .i64 most] w (T2 w g gB N f ((getT f N most a).map fun r => ((r.1 : Int), r.2))) := by
  have hp := ter_any g gB N f a most w h hN ha
  have hbd := teR_bd f N a most ha hm
  unfold getT
  rw [if_neg (by omega)]
  refine hp.mono fun e w' q => ?_
  obtain ⟨q1, q2⟩ := q
  generalize teR f N a most = r at *
  obtain ⟨x, ec, b⟩ := r
  simp only at q1 q2 hbd ⊢
  obtain ⟨_, _, hx, he⟩ := hbd
  rcases he with rfl | rfl | rfl
  · rw [if_pos rfl]
    have := hx rfl
    refine ⟨?_, q2⟩
    show e = .returned (.tuple #[.int .i64 ((x.toNat : Nat) : Int), .int .i64 0])
    rw [show ((x.toNat : Nat) : Int) = x by omega]
    exact q1
  · rw [if_neg (by decide)]
    exact ⟨x, 100, b, .inl rfl, rfl, q1, q2⟩
  · rw [if_neg (by decide)]
    exact ⟨x, 101, b, .inr rfl, rfl, q1, q2⟩
theorem dte_any (g gB N : Nat) (f : Nat → Bool) (a most : Nat) (w : World) (h : RR w g gB N f a) (hN : N ≤ 1125899906842624) (ha : a ≤ N) :
    Calls Try.prog 56 #[.pointer (some ⟨g, 0, none⟩), .int .i64 most] w (T2 w g gB N f ((getT f N most a).map fun r => ((r.1 : Int), r.2))) := by
  by_cases h0 : most = 0
  · subst h0
    have hq : RRPost w g gB N f a w := ⟨h, Touch.refl _ _⟩
    have HQ := Lib.hid hq
    unfold getT
    rw [if_pos rfl]
    clear h hq
    go_enter Try.func56, Try.ntmps56
    go_wp2_with fail
    go_ret2
    exact ⟨rfl, HQ.out⟩
  · have HP := Lib.hid (dTe_any g gB N f a most w h hN ha (by omega))
    have hm0 : ((most : Int) == 0) = false := by rw [beq_eq_false_iff_ne]; omega
    generalize (getT f N most a).map (fun r => ((r.1 : Int), r.2)) = R at *
    clear h h0
    go_enter Try.func56, Try.ntmps56
    go_wp2_with fail
    refine HP.out.mono ?_
    rintro e w1 hq
    rcases R with c | ⟨x, b⟩
    · obtain ⟨x, ec, b, h1, h2, rfl, h3⟩ := hq
      have H2 := Lib.hid (And.intro h1 (And.intro h2 h3))
      clear h1 h2 h3 HP
      go_wp2_with fail
      go_ret2
      exact ⟨x, ec, b, H2.out.1, H2.out.2.1, rfl, H2.out.2.2⟩
    · obtain ⟨rfl, h3⟩ := hq
      have H3 := Lib.hid h3
      clear h3 HP
      go_wp2_with fail
      go_ret2
      exact ⟨rfl, H3.out⟩
theorem dte_ok {g gB N : Nat} {f : Nat → Bool} {a most x b : Nat} {w : World} (hT : getT f N most a = .ok (x, b)) (h : RR w g gB N f a) (hN : N ≤ 1125899906842624) (ha : a ≤ N) :
    Calls Try.prog 56 #[.pointer (some ⟨g, 0, none⟩), .int .i64 most] w fun e w' => e = .returned (.tuple #[.int .i64 x, .int .i64 0]) ∧ RRPost w g gB N f b w' := by
  have hp := dte_any g gB N f a most w h hN ha
  rw [hT] at hp
  exact hp
theorem dte_er {g gB N : Nat} {f : Nat → Bool} {a most : Nat} {c : Int} {w : World} (hT : getT f N most a = .error c) (h : RR w g gB N f a) (hN : N ≤ 1125899906842624) (ha : a ≤ N) :
    Calls Try.prog 56 #[.pointer (some ⟨g, 0, none⟩), .int .i64 most] w fun e w' => ∃ (x : Int) (ec b : Nat), (ec = 100 ∨ ec = 101) ∧ c = lcode ec ∧ e = .returned (.tuple #[.int .i64 x, .int .i64 (ec : Int)]) ∧ RRPost w g gB N f b w' := by
  have hp := dte_any g gB N f a most w h hN ha
  rw [hT] at hp
  exact hp
theorem dTe_ok {g gB N : Nat} {f : Nat → Bool} {a most x b : Nat} {w : World} (hT : getT f N most a = .ok (x, b)) (h : RR w g gB N f a) (hN : N ≤ 1125899906842624) (ha : a ≤ N) (hm : 1 ≤ most) :
    Calls Try.prog 53 #[.pointer (some ⟨g, 0, none⟩), .int .i64 most] w fun e w' => e = .returned (.tuple #[.int .i64 x, .int .i64 0]) ∧ RRPost w g gB N f b w' := by
  have hp := dTe_any g gB N f a most w h hN ha hm
  rw [hT] at hp
  exact hp
theorem dTe_er {g gB N : Nat} {f : Nat → Bool} {a most : Nat} {c : Int} {w : World} (hT : getT f N most a = .error c) (h : RR w g gB N f a) (hN : N ≤ 1125899906842624) (ha : a ≤ N) (hm : 1 ≤ most) :
    Calls Try.prog 53 #[.pointer (some ⟨g, 0, none⟩), .int .i64 most] w fun e w' => ∃ (x : Int) (ec b : Nat), (ec = 100 ∨ ec = 101) ∧ c = lcode ec ∧ e = .returned (.tuple #[.int .i64 x, .int .i64 (ec : Int)]) ∧ RRPost w g gB N f b w' := by
  have hp := dTe_any g gB N f a most w h hN ha hm
  rw [hT] at hp
  exact hp

def valR (f : Nat → Bool) (N t a : Nat) : Except Int (List Int × Nat) := onw (getT f N (min 3 t) a) fun o b => onw (getO f N o [] b) fun cs b => getLs f N (t - o) (decide (o < 3)) cs b
def TV (w : World) (g gB N : Nat) (f : Nat → Bool) (t : Nat) (r : Except Int (List Int × Nat)) (e : Ending) (w' : World) : Prop :=
  match r with
  | .ok (cs, b) => ∃ v, e = .returned (.tuple #[v, .int .i64 0]) ∧ cs.length = t ∧ w'.ownsRow w.heap.size 3 1 v t (intV cs) ∧ b ≤ N ∧ RRPost w g gB N f b w'
  | .error c => e = .returned (.tuple #[.slice none 0 0, .int .i64 c]) ∧ ∃ b, RRPost w g gB N f b w'
/-- where a row of levels stands -/
def valE (f : Nat → Bool) (N t o i : Nat) (acc : List Int) (b : Nat) : Except Int (List Int × Nat) :=
  if i < o then onw (getO f N (o - i) acc b) fun cs b => getLs f N (t - o) (decide (o < 3)) cs b else getLs f N (t - i) (decide (i = o ∧ o < 3)) acc b
theorem RRPost.grown {w w4 w5 : World} {g gB N b : Nat} {f : Nat → Bool} (h : RRPost w g gB N f b w4) (hg : g < w.heap.size) (hB : gB < w.heap.size) (hb : Below w.heap.size w4 w5) : RRPost w g gB N f b w5 := by
  obtain ⟨⟨⟨cp, hk⟩, h1, h2, h3⟩, ht⟩ := h
  exact ⟨⟨⟨cp, hk.below hb hg⟩, h1, Nat.lt_of_lt_of_le h2 hb.size, fun k hk' => (hb.cell (p := ⟨gB, k, none⟩) hB).trans (h3 k hk')⟩,
    ⟨hb.os.trans ht.os, hb.tape.trans ht.tape, hb.output.trans ht.output, Nat.le_trans ht.size hb.size, fun i hi hs => (hb.block i hi).trans (ht.block i hi hs)⟩⟩
theorem RRPost.ha {w w' : World} {g gB N b : Nat} {f : Nat → Bool} (h : RRPost w g gB N f b w') : Touch (RS g) w w' := h.2

set_option maxRecDepth 100000 in
set_option maxHeartbeats 12800000 in
theorem values_any (g gB N : Nat) (f : Nat → Bool) (a t : Nat) (w : World) (h : RR w g gB N f a) (hN : N ≤ 1125899906842624) (ha : a ≤ N) (ht1 : 1 ≤ t) (ht16 : t ≤ 16) :
    Calls Try.prog 55 #[.pointer (some ⟨g, 0, none⟩), .int .i64 t] w (TV w g gB N f t (valR f N t a)) := by
  obtain ⟨i0, hi, hz0, hz1, hz2⟩ := info_parts int_info
  have hmin : min (3 : Int) (t : Int) = ((min 3 t : Nat) : Int) := by omega
  have hgl : g < w.heap.size := by obtain ⟨⟨cp, hk⟩, _⟩ := h; exact hk.lt
  have hBl : gB < w.heap.size := h.2.2.1
  have H := Lib.hid h
  clear h
  obtain ⟨R, hR⟩ : ∃ R, R = valR f N t a := ⟨_, rfl⟩
  rw [← hR]
  unfold valR at hR
  obtain ⟨mm, hmm⟩ : ∃ mm, mm = min 3 t := ⟨_, rfl⟩
  rw [← hmm] at hmin hR
  have hmmt : mm ≤ t := by omega
  have hmm3 : mm ≤ 3 := by omega
  clear hmm
  rcases hT : getT f N mm a with c | ⟨o, b⟩
  · rw [hT] at hR
    have hre : R = .error c := hR
    have HRE := Lib.hid hre
    have HT := Lib.hid hT
    clear hR hre hT
    go_enter Try.func55, Try.ntmps55
    go_wp2_with fail
    refine (dte_er HT.out H.out hN ha).mono ?_
    rintro e w1 ⟨x, ec, b, h1, h2, rfl, h3⟩
    have H3 := Lib.hid h3
    have H2 := Lib.hid h2
    have H1 := Lib.hid h1
    have hne : ((ec : Int) != 0) = true := by rw [bne_iff_ne]; omega
    clear h1 h2 h3
    go_wp2_with fail
    refine (code_any ec _ H1.out).mono ?_
    rintro e w' ⟨rfl, rfl⟩
    rw [← H2.out]
    go_wp2_with fail
    go_ret2
    rw [HRE.out]
    exact ⟨rfl, b, H3.out⟩
  · rw [hT] at hR
    have hTk := getT_ok hT ha
    obtain ⟨hom, _, hb⟩ := hTk
    have hr2 : valE f N t o 0 [] b = R := by
      rw [hR]
      unfold valE
      by_cases h : 0 < o
      · rw [if_pos h]; rfl
      · rw [if_neg h, show o = 0 by omega]
        rfl
    have HR2 := Lib.hid hr2
    have HT := Lib.hid hT
    clear hR hr2 hT
    go_enter Try.func55, Try.ntmps55
    go_wp2_with fail
    refine (dte_ok HT.out H.out hN ha).mono ?_
    rintro e w1 ⟨rfl, h3⟩
    have H3 := Lib.hid h3
    clear h3
    go_wp2_with fail
    go_loopw [8, 9] (fun s8 s9 wr => ∃ (i : Nat) (acc : List Int) (b' : Nat), i ≤ t ∧ s9 = .int .i64 i ∧ acc.length = i ∧ wr.ownsRow w.heap.size 3 1 s8 acc.length (intV acc) ∧ RRPost w g gB N f b' wr ∧ b' ≤ N ∧ valE f N t o i acc b' = R) (fun _ s _ => t - (intOf s).toNat)
    case atStart => exact ⟨0, [], b, Nat.zero_le _, rfl, rfl, World.ownsRow_nil _ _ _ _, H3.out, hb, HR2.out⟩
    case round =>
      clear H3 HR2
      obtain ⟨i, acc, b', hit, rfl, hal, hown, hrr, hb', hve⟩ := hrel
      have HAL := Lib.hid hal
      have HOWN := Lib.hid hown
      have HRR := Lib.hid hrr
      have hwz := hrr.2.size
      have hi0 : (0 : Int) ≤ (i : Int) := Int.natCast_nonneg _
      clear hal hown
      by_cases hlt : i < t
      · have hlt' : (i : Int) < (t : Int) := by omega
        by_cases hio : i < o
        · have hio' : (i : Int) < (o : Int) := by omega
          obtain ⟨m, hm⟩ : ∃ m, o - i = m + 1 := ⟨o - i - 1, by omega⟩
          unfold valE at hve
          rw [if_pos hio, hm, getO_succ] at hve
          have hbits := bits2_any g gB N f b' 1 _ hrr.1 hN hb'
          have hbd := bits1_bd f N b' hb'
          generalize bitsR f N b' 1 = r at *
          obtain ⟨x, e1, a1⟩ := r
          simp only at hbd hve
          unfold Answers2 at hbits
          simp only at hbits
          obtain ⟨_, hb1, hx0, hx1, hbd⟩ := hbd
          have HBITS := Lib.hid hbits
          clear hbits hrr
          rcases hbd with rfl | rfl | rfl
          · rw [if_pos rfl] at hve
            have hnx : valE f N t o (i + 1) (acc ++ [1 - 2 * x]) a1 = R := by
              rw [← hve]
              unfold valE
              by_cases h : i + 1 < o
              · rw [if_pos h, show o - (i + 1) = m by omega]
              · rw [if_neg h, show m = 0 by omega, show i + 1 = o by omega, show decide (o = o ∧ o < 3) = decide (o < 3) by simp]
                rfl
            have HNX := Lib.hid hnx
            have hyw : -1 ≤ 1 - 2 * x ∧ 1 - 2 * x ≤ 1 := by omega
            have e0 : ((0 : Nat) : Int) = 0 := rfl
            rw [e0] at HBITS
            clear hve hnx e0 hm
            go_wp2_with fail
            refine HBITS.out.mono ?_
            rintro e w4 ⟨rfl, hq⟩
            have hown4 := own_touch HOWN.out hq.2 (fun q hq1 hq2 => by have := (HOWN.out.lt q hq1).1; unfold RS at hq2; omega)
            have HRR4 := Lib.hid (HRR.out.then hq)
            have HO4 := Lib.hid hown4
            have hwz4 := (HRR.out.then hq).2.size
            clear hq hown4 HBITS HRR HOWN
            go_wp2_with (at_builtin; refine wpList_append_own _ rfl _ _ 22 rfl w.heap.size 3 i0 (.int .i64 0) 1 8 Try.underlying22 hi hz0 hz1 hz2 rfl (by decide) _ acc.length (intV acc) rfl (HO4.out.alloc _) ⟨w4.heap.size, 0, none⟩ 1 1 [.int .i64 (1 - 2 * x)] rfl rfl ?c1 ?c2 (by unfold maxLen; have := HAL.out; omega) (by have := HAL.out; omega) (by simp; omega) ?_)
            case c1 =>
              intro i u hi
              rw [add_new]
              match i, hi with
              | 0, hi => simp at hi; subst hi; simp
            case c2 => intro u hu; simp at hu; subst hu; rfl
            intro v5 w5 hown5 hg5 _
            have hb5 : Below w.heap.size w4 w5 := ((Below.refl w.heap.size w4).alloc hwz4 (.cells #[.int .i64 (1 - 2 * x)] 3)).grown hg5 (by simp; omega) (fun j hj => (HO4.out.lt j hj).1)
            have HRR5 := Lib.hid (HRR4.out.grown hgl hBl hb5)
            have HO5 := Lib.hid hown5
            clear hown5 hg5 hb5
            go_wp2_with fail
            go_roundw
            case rel => exact ⟨i + 1, acc ++ [1 - 2 * x], a1, by omega, by go_num, by rw [List.length_append, HAL.out]; rfl, by rw [intV_append, List.length_append]; exact HO5.out, HRR5.out, hb1, HNX.out⟩
            case measure => simp [intOf]; omega
          · rw [if_neg (by decide)] at hve
            have hre : R = .error 701 := by rw [← hve]; rfl
            have HRE := Lib.hid hre
            have e0 : ((100 : Nat) : Int) = 100 := rfl
            rw [e0] at HBITS
            have hcd := fun w => code_any 100 w (by decide)
            rw [e0] at hcd
            have HCD := Lib.hid hcd
            clear hve hre e0 hcd hm
            go_wp2_with fail
            refine HBITS.out.mono ?_
            rintro e w4 ⟨rfl, hq⟩
            have HRR4 := Lib.hid (HRR.out.then hq)
            clear hq HBITS HRR HOWN
            go_wp2_with fail
            refine (HCD.out _).mono ?_
            rintro e w' ⟨rfl, rfl⟩
            go_wp2_with fail
            go_ret2
            rw [HRE.out]
            exact ⟨rfl, a1, HRR4.out⟩
          · rw [if_neg (by decide)] at hve
            have hre : R = .error 700 := by rw [← hve]; rfl
            have HRE := Lib.hid hre
            have e0 : ((101 : Nat) : Int) = 101 := rfl
            rw [e0] at HBITS
            have hcd := fun w => code_any 101 w (by decide)
            rw [e0] at hcd
            have HCD := Lib.hid hcd
            clear hve hre e0 hcd hm
            go_wp2_with fail
            refine HBITS.out.mono ?_
            rintro e w4 ⟨rfl, hq⟩
            have HRR4 := Lib.hid (HRR.out.then hq)
            clear hq HBITS HRR HOWN
            go_wp2_with fail
            refine (HCD.out _).mono ?_
            rintro e w' ⟨rfl, rfl⟩
            go_wp2_with fail
            go_ret2
            rw [HRE.out]
            exact ⟨rfl, a1, HRR4.out⟩
        · have hio' : ¬ (i : Int) < (o : Int) := by omega
          obtain ⟨m, hm⟩ : ∃ m, t - i = m + 1 := ⟨t - i - 1, by omega⟩
          unfold valE at hve
          rw [if_neg hio, hm, getLs_succ] at hve
          have hnxE : ∀ c b1, valE f N t o (i + 1) (acc ++ [c]) b1 = getLs f N m false (acc ++ [c]) b1 := fun c b1 => by
            unfold valE
            rw [if_neg (by omega), show t - (i + 1) = m by omega, show decide (i + 1 = o ∧ o < 3) = false by rw [decide_eq_false_iff_not]; omega]
          have HNXE := Lib.hid hnxE
          have hse := ser_any g gB N f b' _ hrr.1 hN hb'
          have hbd := seR_bd f N b' hb'
          have hcase : (i = o ∧ o < 3) ∨ (i = o ∧ 3 ≤ o) ∨ (o < i) := by omega
          unfold getV at hve
          generalize seR f N b' = r at *
          obtain ⟨x, e1, a1⟩ := r
          simp only at hbd hve
          unfold Answers2 at hse
          simp only at hse
          obtain ⟨_, hb1, hx1, hx2, hbd⟩ := hbd
          have HSE := Lib.hid hse
          clear hse hrr hm hnxE
          rcases hbd with rfl | rfl | rfl
          · rw [if_pos rfl] at hve
            have e0 : ((0 : Nat) : Int) = 0 := rfl
            rw [e0] at HSE
            clear e0
            by_cases h0 : x = 0
            · subst h0
              rw [if_pos rfl] at hve
              have hre : R = .error 700 := hve.symm
              have HRE := Lib.hid hre
              clear hve hre hcase hio hlt
              go_wp2_with fail
              refine HSE.out.mono ?_
              rintro e w4 ⟨rfl, hq⟩
              have HRR4 := Lib.hid (HRR.out.then hq)
              clear hq HSE HRR HOWN
              go_wp2_with fail
              go_ret2
              rw [HRE.out]
              exact ⟨rfl, a1, HRR4.out⟩
            · rw [if_neg h0] at hve
              have hxb : (x == 0) = false := by rw [beq_eq_false_iff_ne]; exact h0
              have hways : ∃ c, far (decide (i = o ∧ o < 3)) x = c ∧ ((((i : Int) == (o : Int)) = true ∧ (o : Int) < 3 ∧ 0 < x ∧ c = x + 1) ∨ (((i : Int) == (o : Int)) = true ∧ (o : Int) < 3 ∧ ¬ 0 < x ∧ c = x - 1) ∨ (((i : Int) == (o : Int)) = true ∧ ¬ (o : Int) < 3 ∧ c = x) ∨ (((i : Int) == (o : Int)) = false ∧ c = x)) := by
                refine ⟨_, rfl, ?_⟩
                rcases hcase with ⟨h1, h2⟩ | ⟨h1, h2⟩ | h1
                · have e1 : ((i : Int) == (o : Int)) = true := by rw [beq_iff_eq]; omega
                  rw [show decide (i = o ∧ o < 3) = true by rw [decide_eq_true_iff]; exact ⟨h1, h2⟩]
                  unfold far
                  rw [if_pos rfl]
                  by_cases h3 : 0 < x
                  · exact .inl ⟨e1, by omega, h3, if_pos h3⟩
                  · exact .inr (.inl ⟨e1, by omega, h3, if_neg h3⟩)
                · have e1 : ((i : Int) == (o : Int)) = true := by rw [beq_iff_eq]; omega
                  rw [show decide (i = o ∧ o < 3) = false by rw [decide_eq_false_iff_not]; omega]
                  exact .inr (.inr (.inl ⟨e1, by omega, rfl⟩))
                · have e1 : ((i : Int) == (o : Int)) = false := by rw [beq_eq_false_iff_ne]; omega
                  rw [show decide (i = o ∧ o < 3) = false by rw [decide_eq_false_iff_not]; omega]
                  exact .inr (.inr (.inr ⟨e1, rfl⟩))
              obtain ⟨c, hcf, hways⟩ := hways
              rw [hcf] at hve
              clear hcase hcf h0 hio hlt
              by_cases hr : c < -32767 ∨ 32767 < c
              · rw [if_pos hr] at hve
                have hre : R = .error 702 := hve.symm
                have HRE := Lib.hid hre
                have hr' : c < -32767 ∨ (¬ c < -32767 ∧ 32767 < c) := by omega
                clear hve hre hr
                rcases hways with ⟨t1, t2, t3, rfl⟩ | ⟨t1, t2, t3, rfl⟩ | ⟨t1, t2, rfl⟩ | ⟨t1, rfl⟩
                all_goals
                  rcases hr' with r1 | ⟨r1, r2⟩
                  all_goals
                    first
                    | (exfalso; omega)
                    | (go_wp2_with fail
                       refine HSE.out.mono ?_
                       rintro e w4 ⟨rfl, hq⟩
                       have HRR4 := Lib.hid (HRR.out.then hq)
                       clear hq HSE HRR HOWN
                       go_wp2_with fail
                       go_ret2
                       rw [HRE.out]
                       exact ⟨rfl, a1, HRR4.out⟩)
              · rw [if_neg hr] at hve
                have hve2 : getLs f N m false (acc ++ [c]) a1 = R := hve
                have HVE := Lib.hid ((HNXE.out c a1).trans hve2)
                have r1 : ¬ c < -32767 := by omega
                have r2 : ¬ 32767 < c := by omega
                clear hve hve2 hr
                rcases hways with ⟨t1, t2, t3, rfl⟩ | ⟨t1, t2, t3, rfl⟩ | ⟨t1, t2, rfl⟩ | ⟨t1, rfl⟩
                · go_wp2_with fail
                  refine HSE.out.mono ?_
                  rintro e w4 ⟨rfl, hq⟩
                  have hown4 := own_touch HOWN.out hq.2 (fun q hq1 hq2 => by have := (HOWN.out.lt q hq1).1; unfold RS at hq2; omega)
                  have HRR4 := Lib.hid (HRR.out.then hq)
                  have HO4 := Lib.hid hown4
                  have hwz4 := (HRR.out.then hq).2.size
                  clear hq hown4 HSE HRR HOWN
                  go_wp2_with (at_builtin; refine wpList_append_own _ rfl _ _ 22 rfl w.heap.size 3 i0 (.int .i64 0) 1 8 Try.underlying22 hi hz0 hz1 hz2 rfl (by decide) _ acc.length (intV acc) rfl (HO4.out.alloc _) ⟨w4.heap.size, 0, none⟩ 1 1 [.int .i64 (x + 1)] rfl rfl ?c1 ?c2 (by unfold maxLen; have := HAL.out; omega) (by have := HAL.out; omega) (by simp; omega) ?_)
                  case c1 =>
                    intro i u hi
                    rw [add_new]
                    match i, hi with
                    | 0, hi => simp at hi; subst hi; simp
                  case c2 => intro u hu; simp at hu; subst hu; rfl
                  intro v5 w5 hown5 hg5 _
                  have hb5 : Below w.heap.size w4 w5 := ((Below.refl w.heap.size w4).alloc hwz4 (.cells #[.int .i64 (x + 1)] 3)).grown hg5 (by simp; omega) (fun j hj => (HO4.out.lt j hj).1)
                  have HRR5 := Lib.hid (HRR4.out.grown hgl hBl hb5)
                  have HO5 := Lib.hid hown5
                  clear hown5 hg5 hb5
                  go_wp2_with fail
                  go_roundw
                  case rel => exact ⟨i + 1, acc ++ [x + 1], a1, by omega, by go_num, by rw [List.length_append, HAL.out]; rfl, by rw [intV_append, List.length_append]; exact HO5.out, HRR5.out, hb1, HVE.out⟩
                  case measure => simp [intOf]; omega
                · go_wp2_with fail
                  refine HSE.out.mono ?_
                  rintro e w4 ⟨rfl, hq⟩
                  have hown4 := own_touch HOWN.out hq.2 (fun q hq1 hq2 => by have := (HOWN.out.lt q hq1).1; unfold RS at hq2; omega)
                  have HRR4 := Lib.hid (HRR.out.then hq)
                  have HO4 := Lib.hid hown4
                  have hwz4 := (HRR.out.then hq).2.size
                  clear hq hown4 HSE HRR HOWN
                  go_wp2_with (at_builtin; refine wpList_append_own _ rfl _ _ 22 rfl w.heap.size 3 i0 (.int .i64 0) 1 8 Try.underlying22 hi hz0 hz1 hz2 rfl (by decide) _ acc.length (intV acc) rfl (HO4.out.alloc _) ⟨w4.heap.size, 0, none⟩ 1 1 [.int .i64 (x - 1)] rfl rfl ?c1 ?c2 (by unfold maxLen; have := HAL.out; omega) (by have := HAL.out; omega) (by simp; omega) ?_)
                  case c1 =>
                    intro i u hi
                    rw [add_new]
                    match i, hi with
                    | 0, hi => simp at hi; subst hi; simp
                  case c2 => intro u hu; simp at hu; subst hu; rfl
                  intro v5 w5 hown5 hg5 _
                  have hb5 : Below w.heap.size w4 w5 := ((Below.refl w.heap.size w4).alloc hwz4 (.cells #[.int .i64 (x - 1)] 3)).grown hg5 (by simp; omega) (fun j hj => (HO4.out.lt j hj).1)
                  have HRR5 := Lib.hid (HRR4.out.grown hgl hBl hb5)
                  have HO5 := Lib.hid hown5
                  clear hown5 hg5 hb5
                  go_wp2_with fail
                  go_roundw
                  case rel => exact ⟨i + 1, acc ++ [x - 1], a1, by omega, by go_num, by rw [List.length_append, HAL.out]; rfl, by rw [intV_append, List.length_append]; exact HO5.out, HRR5.out, hb1, HVE.out⟩
                  case measure => simp [intOf]; omega
                · go_wp2_with fail
                  refine HSE.out.mono ?_
                  rintro e w4 ⟨rfl, hq⟩
                  have hown4 := own_touch HOWN.out hq.2 (fun q hq1 hq2 => by have := (HOWN.out.lt q hq1).1; unfold RS at hq2; omega)
                  have HRR4 := Lib.hid (HRR.out.then hq)
                  have HO4 := Lib.hid hown4
                  have hwz4 := (HRR.out.then hq).2.size
                  clear hq hown4 HSE HRR HOWN
                  go_wp2_with (at_builtin; refine wpList_append_own _ rfl _ _ 22 rfl w.heap.size 3 i0 (.int .i64 0) 1 8 Try.underlying22 hi hz0 hz1 hz2 rfl (by decide) _ acc.length (intV acc) rfl (HO4.out.alloc _) ⟨w4.heap.size, 0, none⟩ 1 1 [.int .i64 (c)] rfl rfl ?c1 ?c2 (by unfold maxLen; have := HAL.out; omega) (by have := HAL.out; omega) (by simp; omega) ?_)
                  case c1 =>
                    intro i u hi
                    rw [add_new]
                    match i, hi with
                    | 0, hi => simp at hi; subst hi; simp
                  case c2 => intro u hu; simp at hu; subst hu; rfl
                  intro v5 w5 hown5 hg5 _
                  have hb5 : Below w.heap.size w4 w5 := ((Below.refl w.heap.size w4).alloc hwz4 (.cells #[.int .i64 (c)] 3)).grown hg5 (by simp; omega) (fun j hj => (HO4.out.lt j hj).1)
                  have HRR5 := Lib.hid (HRR4.out.grown hgl hBl hb5)
                  have HO5 := Lib.hid hown5
                  clear hown5 hg5 hb5
                  go_wp2_with fail
                  go_roundw
                  case rel => exact ⟨i + 1, acc ++ [c], a1, by omega, by go_num, by rw [List.length_append, HAL.out]; rfl, by rw [intV_append, List.length_append]; exact HO5.out, HRR5.out, hb1, HVE.out⟩
                  case measure => simp [intOf]; omega
                · go_wp2_with fail
                  refine HSE.out.mono ?_
                  rintro e w4 ⟨rfl, hq⟩
                  have hown4 := own_touch HOWN.out hq.2 (fun q hq1 hq2 => by have := (HOWN.out.lt q hq1).1; unfold RS at hq2; omega)
                  have HRR4 := Lib.hid (HRR.out.then hq)
                  have HO4 := Lib.hid hown4
                  have hwz4 := (HRR.out.then hq).2.size
                  clear hq hown4 HSE HRR HOWN
                  go_wp2_with (at_builtin; refine wpList_append_own _ rfl _ _ 22 rfl w.heap.size 3 i0 (.int .i64 0) 1 8 Try.underlying22 hi hz0 hz1 hz2 rfl (by decide) _ acc.length (intV acc) rfl (HO4.out.alloc _) ⟨w4.heap.size, 0, none⟩ 1 1 [.int .i64 (c)] rfl rfl ?c1 ?c2 (by unfold maxLen; have := HAL.out; omega) (by have := HAL.out; omega) (by simp; omega) ?_)
                  case c1 =>
                    intro i u hi
                    rw [add_new]
                    match i, hi with
                    | 0, hi => simp at hi; subst hi; simp
                  case c2 => intro u hu; simp at hu; subst hu; rfl
                  intro v5 w5 hown5 hg5 _
                  have hb5 : Below w.heap.size w4 w5 := ((Below.refl w.heap.size w4).alloc hwz4 (.cells #[.int .i64 (c)] 3)).grown hg5 (by simp; omega) (fun j hj => (HO4.out.lt j hj).1)
                  have HRR5 := Lib.hid (HRR4.out.grown hgl hBl hb5)
                  have HO5 := Lib.hid hown5
                  clear hown5 hg5 hb5
                  go_wp2_with fail
                  go_roundw
                  case rel => exact ⟨i + 1, acc ++ [c], a1, by omega, by go_num, by rw [List.length_append, HAL.out]; rfl, by rw [intV_append, List.length_append]; exact HO5.out, HRR5.out, hb1, HVE.out⟩
                  case measure => simp [intOf]; omega
          · rw [if_neg (by decide)] at hve
            have hre : R = .error 701 := hve.symm
            have HRE := Lib.hid hre
            have e0 : ((100 : Nat) : Int) = 100 := rfl
            rw [e0] at HSE
            have hcd := fun w => code_any 100 w (by decide)
            rw [e0] at hcd
            have HCD := Lib.hid hcd
            clear hve hre e0 hcd hcase
            go_wp2_with fail
            refine HSE.out.mono ?_
            rintro e w4 ⟨rfl, hq⟩
            have HRR4 := Lib.hid (HRR.out.then hq)
            clear hq HSE HRR HOWN
            go_wp2_with fail
            refine (HCD.out _).mono ?_
            rintro e w' ⟨rfl, rfl⟩
            go_wp2_with fail
            go_ret2
            rw [HRE.out]
            exact ⟨rfl, a1, HRR4.out⟩
          · rw [if_neg (by decide)] at hve
            have hre : R = .error 700 := hve.symm
            have HRE := Lib.hid hre
            have e0 : ((101 : Nat) : Int) = 101 := rfl
            rw [e0] at HSE
            have hcd := fun w => code_any 101 w (by decide)
            rw [e0] at hcd
            have HCD := Lib.hid hcd
            clear hve hre e0 hcd hcase
            go_wp2_with fail
            refine HSE.out.mono ?_
            rintro e w4 ⟨rfl, hq⟩
            have HRR4 := Lib.hid (HRR.out.then hq)
            clear hq HSE HRR HOWN
            go_wp2_with fail
            refine (HCD.out _).mono ?_
            rintro e w' ⟨rfl, rfl⟩
            go_wp2_with fail
            go_ret2
            rw [HRE.out]
            exact ⟨rfl, a1, HRR4.out⟩
      · obtain rfl : i = t := by omega
        have hre : R = .ok (acc, b') := by
          rw [← hve]
          unfold valE
          rw [if_neg (by omega), Nat.sub_self]
          rfl
        have HRE := Lib.hid hre
        clear hve hre hlt hrr
        go_wp2_with fail
        go_ret2
        rw [HRE.out]
        exact ⟨_, rfl, HAL.out, by have := HOWN.out; rw [HAL.out] at this; exact this, hb', HRR.out⟩
end Go.Proofs.Ytocooplmfkeepaa
