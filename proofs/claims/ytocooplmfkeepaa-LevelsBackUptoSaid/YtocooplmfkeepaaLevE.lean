/- Blocks of coefficients: the program's block. -/
import Derived.Test.YtocooplmfkeepaaLevD
import Derived.Test.YtocooplmfkeepaaMake
namespace Go.Proofs.Ytocooplmfkeepaa
open Go.RowKit
set_option linter.unusedVariables false
set_option linter.unusedSimpArgs false
attribute [local go_sem] ite_max ite_min

def intV (l : List Int) : List Value := l.map fun x => .int .i64 x
theorem intV_len (l : List Int) : (intV l).length = l.length := by simp [intV]
theorem intV_append (a b : List Int) : intV (a ++ b) = intV a ++ intV b := by simp [intV]
theorem lrte_ok {gr g : Nat} {s : ByteArray} {a most x b : Nat} {w : World} (hT : getT (sbit s) (8 * s.size) most a = .ok (x, b)) (h : Rr w g s a) (hs : s.size ≤ 140737488351232) (ha : a ≤ 8 * s.size) (hr : w.cell? ⟨gr, 0, none⟩ = some (.pointer (some ⟨g, 0, none⟩))) :
    Calls Try.prog 50 #[.pointer (some ⟨gr, 0, none⟩), .int .i64 most] w fun e w' => e = .returned (.int .i64 x) ∧ RPost w g s b w' := by
  have hp := lrte_any gr g s a most w h hs ha hr
  rw [hT] at hp
  exact hp
theorem lrte_er {gr g : Nat} {s : ByteArray} {a most : Nat} {c : Int} {w : World} (hT : getT (sbit s) (8 * s.size) most a = .error c) (h : Rr w g s a) (hs : s.size ≤ 140737488351232) (ha : a ≤ 8 * s.size) (hr : w.cell? ⟨gr, 0, none⟩ = some (.pointer (some ⟨g, 0, none⟩))) :
    Calls Try.prog 50 #[.pointer (some ⟨gr, 0, none⟩), .int .i64 most] w fun e w' => e = thr c ∧ ∃ b, RPost w g s b w' := by
  have hp := lrte_any gr g s a most w h hs ha hr
  rw [hT] at hp
  exact hp
theorem lrv_ok {gr g : Nat} {s : ByteArray} {a b : Nat} {nr : Bool} {c : Int} {w : World} (hT : getV (sbit s) (8 * s.size) nr a = .ok (c, b)) (h : Rr w g s a) (hs : s.size ≤ 140737488351232) (ha : a ≤ 8 * s.size) (hr : w.cell? ⟨gr, 0, none⟩ = some (.pointer (some ⟨g, 0, none⟩))) :
    Calls Try.prog 52 #[.pointer (some ⟨gr, 0, none⟩), .bool nr] w fun e w' => e = .returned (.int .i64 c) ∧ RPost w g s b w' := by
  have hp := lrv_any gr g s a nr w h hs ha hr
  rw [hT] at hp
  exact hp
theorem lrv_er {gr g : Nat} {s : ByteArray} {a : Nat} {nr : Bool} {c : Int} {w : World} (hT : getV (sbit s) (8 * s.size) nr a = .error c) (h : Rr w g s a) (hs : s.size ≤ 140737488351232) (ha : a ≤ 8 * s.size) (hr : w.cell? ⟨gr, 0, none⟩ = some (.pointer (some ⟨g, 0, none⟩))) :
    Calls Try.prog 52 #[.pointer (some ⟨gr, 0, none⟩), .bool nr] w fun e w' => e = thr c ∧ ∃ b, RPost w g s b w' := by
  have hp := lrv_any gr g s a nr w h hs ha hr
  rw [hT] at hp
  exact hp

/-- while a block is read: the Reader stands at a, the answer's array O holds z; of what was there at w1 only the Reader and O have turned -/
structure BI (w1 wr : World) (gr g O size : Nat) (s : ByteArray) (a : Nat) (z : Nat → Int) : Prop where
  rr : Rr wr g s a
  ha : a ≤ 8 * s.size
  ar : Ar wr O size fun k => .int .i64 (z k)
  ht : Touch (fun k => k = g ∨ k = O) w1 wr
  hp : wr.cell? ⟨gr, 0, none⟩ = some (.pointer (some ⟨g, 0, none⟩))
theorem BI.read {w1 wr w2 : World} {gr g O size : Nat} {s : ByteArray} {a b : Nat} {z : Nat → Int} (h : BI w1 wr gr g O size s a z) (k : RPost wr g s b w2) (hb : b ≤ 8 * s.size) (hO : O ≠ g) (hg : gr ≠ g) (hl : gr < w1.heap.size) : BI w1 w2 gr g O size s b z :=
  ⟨k.1, hb, h.ar.touch k.2 hO, h.ht.trans (k.2.mono fun i _ q => .inl q), (k.2.cell (p := ⟨gr, 0, none⟩) (Nat.lt_of_lt_of_le hl h.ht.size) hg).trans h.hp⟩
theorem BI.go {w1 wr w2 : World} {gr g O size : Nat} {s : ByteArray} {a : Nat} {z : Nat → Int} (h : BI w1 wr gr g O size s a z) (k : Below wr.heap.size wr w2) (hl : gr < w1.heap.size) : BI w1 w2 gr g O size s a z :=
  ⟨Bk.go h.rr k, h.ha, h.ar.go k, h.ht.trans (Touch.of_new k), (k.cell (Nat.lt_of_lt_of_le hl h.ht.size)).trans h.hp⟩
theorem BI.grown {w1 wr w2 : World} {gr g O size : Nat} {s : ByteArray} {a : Nat} {z : Nat → Int} {v : Value} {n : Nat} {xs : List Value} (h : BI w1 wr gr g O size s a z) (hv : wr.ownsRow w1.heap.size 3 1 v n xs) {o : Obj} (k : (wr.alloc o).grownBy w2 v.ownBlock) (hl : gr < w1.heap.size) (hO : O < w1.heap.size) (hg : g < w1.heap.size) : BI w1 w2 gr g O size s a z := by
  have hs := h.ht.size
  have hb : Below w1.heap.size wr w2 := ((Below.refl w1.heap.size wr).alloc hs o).grown k (by simp; omega) (fun i hi => (hv.lt i hi).1)
  refine ⟨Bk.below h.rr hb hg, h.ha, ⟨fun j hj => (hb.cell hO).trans (h.ar.1 j hj), fun o => (hb.frozen (p := ⟨O, o, none⟩) hO).trans (h.ar.2.1 o), Nat.lt_of_lt_of_le h.ar.2.2 hb.size⟩, ?_, (hb.cell hl).trans h.hp⟩
  exact ⟨hb.os.trans h.ht.os, hb.tape.trans h.ht.tape, hb.output.trans h.ht.output, Nat.le_trans hs hb.size, fun i hi q => (hb.block i hi).trans (h.ht.block i hi q)⟩
theorem BI.set_ {w1 wr : World} {gr g O size : Nat} {s : ByteArray} {a : Nat} {z : Nat → Int} (h : BI w1 wr gr g O size s a z) {p : Nat} (hp : p < size) (c : Int) (hO : O ≠ g) (hg : gr ≠ O) : BI w1 (wr.setCell ⟨O, p, none⟩ (.int .i64 c)) gr g O size s a (upd z p c) := by
  refine ⟨Bk.far h.rr (fun q => hO q.symm) _, h.ha, (h.ar.set_ hp _).congr fun k _ => ?_, h.ht.setCell (fun _ => .inr rfl) _, ?_⟩
  · unfold upd
    split <;> rfl
  · exact (World.cell?_of_block (Below.heap_setCell _ _ _ _ hg)).trans h.hp
/-- what is left of the call's first world -/
theorem BI.post {w wr w2 : World} {gr g size : Nat} {s : ByteArray} {a b : Nat} {z : Nat → Int} {o : Obj} (h : BI (w.alloc o) wr gr g w.heap.size size s a z) (k : RPost wr g s b w2) : RPost w g s b w2 := by
  refine ⟨k.1, ?_⟩
  have h1 := ((Touch.refl (RS g) w).alloc o)
  have h2 : Touch (RS g) w wr := h1.old h.ht fun i hi q => by
    rcases q with q | q
    · exact q
    · omega
  exact h2.trans k.2
def TB (w : World) (O g : Nat) (s : ByteArray) (size : Nat) (r : Except Int ((Nat → Int) × Nat)) (e : Ending) (w' : World) : Prop :=
  match r with
  | .ok (z, a) => e = .returned (.slice (some ⟨O, 0, none⟩) size size) ∧ Ar w' O size (fun k => .int .i64 (z k)) ∧ a ≤ 8 * s.size ∧ RPost w g s a w'
  | .error c => e = thr c ∧ ∃ a, RPost w g s a w'

set_option maxRecDepth 100000 in
set_option maxHeartbeats 12800000 in
theorem lblock_any (gr g : Nat) (s : ByteArray) (a size : Nat) (w : World) (h : Rr w g s a) (hs : s.size ≤ 140737488351232) (ha : a ≤ 8 * s.size) (hr : w.cell? ⟨gr, 0, none⟩ = some (.pointer (some ⟨g, 0, none⟩))) (hne : gr ≠ g) (h4 : 4 ≤ size) (h16 : size ≤ 16) :
    Calls Try.prog 44 #[.pointer (some ⟨gr, 0, none⟩), .int .i64 size] w (TB w w.heap.size g s size (getB (sbit s) (8 * s.size) size a)) := by
  obtain ⟨i0, hi, hz0, hz1, hz2⟩ := info_parts int_info
  have hgl := Bk.lt h
  have hrl : gr < w.heap.size := World.block_lt_of_cell? w ⟨gr, 0, none⟩ hr
  have hmk := run_make_one (P := Try.prog) 22 3 i0 (.int .i64 0) Try.underlying22 hi hz0 hz1 rfl size (by rw [hz2]; omega) (by omega) w
  have hbi : BI (w.alloc (.cells (Array.replicate size (.int .i64 0)) 3)) (w.alloc (.cells (Array.replicate size (.int .i64 0)) 3)) gr g w.heap.size size s a (fun _ => 0) :=
    ⟨Bk.alloc h _, ha, Ar.made w 3 size _, Touch.refl _ _, (World.cell?_alloc_lt w _ _ hrl).trans hr⟩
  have hpost : ∀ {wr w2 : World} {a b : Nat} {z : Nat → Int}, BI (w.alloc (.cells (Array.replicate size (.int .i64 0)) 3)) wr gr g w.heap.size size s a z → RPost wr g s b w2 → RPost w g s b w2 := fun q k => q.post k
  obtain ⟨w1, hw1⟩ : ∃ w1, w1 = w.alloc (.cells (Array.replicate size (.int .i64 0)) 3) := ⟨_, rfl⟩
  have hw1s : w1.heap.size = w.heap.size + 1 := by rw [hw1]; simp
  rw [← hw1] at hmk hbi hpost
  have HPOST : Hid (∀ (wr w2 : World) (a b : Nat) (z : Nat → Int), BI w1 wr gr g w.heap.size size s a z → RPost wr g s b w2 → RPost w g s b w2) := Lib.hid fun _ _ _ _ _ q k => hpost q k
  have HBI := Lib.hid hbi
  have hO : w.heap.size < w1.heap.size := by omega
  have hOg : w.heap.size ≠ g := by omega
  have hOr : gr ≠ w.heap.size := by omega
  have hg1 : g < w1.heap.size := by omega
  have hr1 : gr < w1.heap.size := by omega
  obtain ⟨O, hOO⟩ : ∃ O, O = w.heap.size := ⟨_, rfl⟩
  rw [← hOO] at hmk HPOST HBI hO hOg hOr ⊢
  have HN := Lib.hid (And.intro hO (And.intro hOg (And.intro hOr (And.intro hg1 (And.intro hr1 hne)))))
  clear hw1 hw1s hbi hpost h hr hO hOg hOr hg1 hr1 hgl hrl hOO hne ha
  have hsz0 : (size : Int) ≤ 16 := by omega
  rcases hT : getT (sbit s) (8 * s.size) size a with c | ⟨t, b⟩
  · rw [show getB (sbit s) (8 * s.size) size a = .error c from onw_er hT]
    have HT := Lib.hid hT
    clear hT
    go_enter Try.func44, Try.ntmps44
    go_wp2_with fail
    refine (lrte_er HT.out HBI.out.rr hs HBI.out.ha HBI.out.hp).mono ?_
    rintro e w2 ⟨rfl, b, hq⟩
    have HQ := Lib.hid (HPOST.out _ _ _ _ _ HBI.out hq)
    clear hq
    unfold thr
    go_wp2_with fail
    exact ⟨rfl, rfl, b, HQ.out⟩
  · have hTk := getT_ok hT HBI.out.ha
    have HT := Lib.hid hT
    clear hT
    obtain ⟨hts, _, hb⟩ := hTk
    rw [show getB (sbit s) (8 * s.size) size a = getB1 (sbit s) (8 * s.size) size t b from onw_ok HT.out]
    rcases Nat.eq_zero_or_pos t with ht0 | ht0
    · subst ht0
      unfold getB1
      rw [if_pos rfl]
      go_enter Try.func44, Try.ntmps44
      go_wp2_with fail
      refine (lrte_ok HT.out HBI.out.rr hs HBI.out.ha HBI.out.hp).mono ?_
      rintro e w2 ⟨rfl, hq⟩
      have HB2 := Lib.hid (HBI.out.read hq hb HN.out.2.1 HN.out.2.2.2.2.2 HN.out.2.2.2.2.1)
      have HQ := Lib.hid (HPOST.out _ _ _ _ _ HBI.out hq)
      clear hq
      go_wp2_with fail
      go_ret
      exact ⟨rfl, HB2.out.ar, hb, HQ.out⟩
    · unfold getB1
      rw [if_neg (by omega)]
      have ht1 : ((t : Int) == 0) = false := by rw [beq_eq_false_iff_ne]; omega
      have hmin : min (3 : Int) (t : Int) = ((min 3 t : Nat) : Int) := by omega
      rcases hT2 : getT (sbit s) (8 * s.size) (min 3 t) b with c | ⟨o, b2⟩
      · change Calls _ _ _ _ (TB w O g s size (.error c))
        have HT2 := Lib.hid hT2
        clear hT2
        obtain ⟨mm, hmm⟩ : ∃ mm, mm = min 3 t := ⟨_, rfl⟩
        rw [← hmm] at HT2 hmin
        clear hmm
        go_enter Try.func44, Try.ntmps44
        go_wp2_with fail
        refine (lrte_ok HT.out HBI.out.rr hs HBI.out.ha HBI.out.hp).mono ?_
        rintro e w2 ⟨rfl, hq⟩
        have HB2 := Lib.hid (HBI.out.read hq hb HN.out.2.1 HN.out.2.2.2.2.2 HN.out.2.2.2.2.1)
        clear hq HBI
        go_wp2_with fail
        refine (lrte_er HT2.out HB2.out.rr hs HB2.out.ha HB2.out.hp).mono ?_
        rintro e w3 ⟨rfl, b3, hq⟩
        have HQ := Lib.hid (HPOST.out _ _ _ _ _ HB2.out hq)
        clear hq
        unfold thr
        go_wp2_with fail
        exact ⟨rfl, rfl, b3, HQ.out⟩
      · have hTk2 := getT_ok hT2 hb
        have HT2 := Lib.hid hT2
        clear hT2
        obtain ⟨hom, _, hb2⟩ := hTk2
        change Calls _ _ _ _ (TB w O g s size (getB2 (sbit s) (8 * s.size) size t o b2))
        obtain ⟨mm, hmm⟩ : ∃ mm, mm = min 3 t := ⟨_, rfl⟩
        rw [← hmm] at HT2 hmin hom
        have hmm3 : mm ≤ 3 := by omega
        have hmmt : mm ≤ t := by omega
        clear hmm
        obtain ⟨R, hR⟩ : ∃ R, R = getB2 (sbit s) (8 * s.size) size t o b2 := ⟨_, rfl⟩
        have hR2 := hR
        unfold getB2 at hR2
        rw [← hR]
        have HR2 := Lib.hid hR2
        clear hR hR2
        go_enter Try.func44, Try.ntmps44
        go_wp2_with fail
        refine (lrte_ok HT.out HBI.out.rr hs HBI.out.ha HBI.out.hp).mono ?_
        rintro e w2 ⟨rfl, hq⟩
        have HB2 := Lib.hid (HBI.out.read hq hb HN.out.2.1 HN.out.2.2.2.2.2 HN.out.2.2.2.2.1)
        clear hq HBI
        go_wp2_with fail
        refine (lrte_ok HT2.out HB2.out.rr hs HB2.out.ha HB2.out.hp).mono ?_
        rintro e w3 ⟨rfl, hq⟩
        have HB3 := Lib.hid (HB2.out.read hq hb2 HN.out.2.1 HN.out.2.2.2.2.2 HN.out.2.2.2.2.1)
        clear hq HB2 hmin
        go_wp2_with fail
        go_loopw [8, 28] (fun s8 s28 wr => ∃ (i : Nat) (acc : List Int) (b' : Nat), i ≤ o ∧ s28 = .int .i64 i ∧ acc.length = i ∧ wr.ownsRow w1.heap.size 3 1 s8 acc.length (intV acc) ∧ BI w1 wr gr g O size s b' (fun _ => 0) ∧ getO (sbit s) (8 * s.size) (o - i) acc b' = getO (sbit s) (8 * s.size) o [] b2) (fun _ t _ => o - (intOf t).toNat)
        case atStart => exact ⟨0, [], b2, Nat.zero_le _, rfl, rfl, World.ownsRow_nil _ _ _ _, HB3.out, rfl⟩
        case round =>
          clear HB3
          obtain ⟨i, acc, b', hio, rfl, hal, hown, hbi, hgo⟩ := hrel
          have HBI := Lib.hid hbi
          have HOWN := Lib.hid hown
          have HAL := Lib.hid hal
          have hwz := hbi.ht.size
          have hi0 : (0 : Int) ≤ (i : Int) := Int.natCast_nonneg _
          by_cases hlt : i < o
          · have hlt' : (i : Int) < (o : Int) := by omega
            obtain ⟨m, hm⟩ : ∃ m, o - i = m + 1 := ⟨o - i - 1, by omega⟩
            rw [hm] at hgo
            rw [getO_succ] at hgo
            have hbits := rbits_any g s b' 1 _ hbi.rr hs hbi.ha
            have hbd := bits1_bd (sbit s) (8 * s.size) b' hbi.ha
            generalize bitsR (sbit s) (8 * s.size) b' 1 = r at *
            obtain ⟨x, e1, a1⟩ := r
            simp only at hbits hbd hgo
            obtain ⟨_, hb1, hx0, hx1, hbd⟩ := hbd
            have HBITS := Lib.hid hbits
            have hpp := hbi.hp
            have HM := Lib.hid hm
            clear hbits hbi hown hal hm
            rcases hbd with rfl | rfl | rfl
            · rw [if_pos rfl] at hgo
              have HGO := Lib.hid hgo
              have hyw : -1 ≤ 1 - 2 * x ∧ 1 - 2 * x ≤ 1 := by omega
              clear hgo
              go_wp2_with fail
              refine HBITS.out.mono ?_
              rintro e w4 ⟨rfl, hq⟩
              have hown4 := own_touch HOWN.out hq.2 (fun q hq1 hq2 => by have := (HOWN.out.lt q hq1).1; have := HN.out.2.2.2.1; unfold RS at hq2; omega)
              have hb4 := HBI.out.read hq hb1 HN.out.2.1 HN.out.2.2.2.2.2 HN.out.2.2.2.2.1
              have hwz4 := hb4.ht.size
              have HB4 := Lib.hid hb4
              have HO4 := Lib.hid hown4
              clear hq hown4 hb4 HBITS HBI HOWN hpp
              go_wp2_with (first | (go_at_call 51; refine (got_ok _ _ _).mono ?_; rintro e w' ⟨rfl, rfl⟩) | (at_builtin; refine wpList_append_own _ rfl _ _ 22 rfl w1.heap.size 3 i0 (.int .i64 0) 1 8 Try.underlying22 hi hz0 hz1 hz2 rfl (by decide) _ acc.length (intV acc) rfl (HO4.out.alloc _) ⟨w4.heap.size, 0, none⟩ 1 1 [.int .i64 (1 - 2 * x)] rfl rfl ?c1 ?c2 (by unfold maxLen; have := HAL.out; omega) (by have := HAL.out; omega) (by simp; omega) ?_))
              case c1 =>
                intro i u hi
                rw [add_new]
                match i, hi with
                | 0, hi => simp at hi; subst hi; simp
              case c2 => intro u hu; simp at hu; subst hu; rfl
              intro v5 w5 hown5 hg5 _
              have hb5 := HB4.out.grown HO4.out hg5 HN.out.2.2.2.2.1 HN.out.1 HN.out.2.2.2.1
              have HB5 := Lib.hid hb5
              have HO5 := Lib.hid hown5
              clear hown5 hg5 hb5
              go_wp2_with fail
              go_roundw
              case rel => exact ⟨i + 1, acc ++ [1 - 2 * x], a1, by omega, by go_num, by rw [List.length_append, HAL.out]; rfl, by rw [intV_append, List.length_append]; exact HO5.out, HB5.out, by rw [show o - (i + 1) = m by have := HM.out; omega]; exact HGO.out⟩
              case measure => simp [intOf]; omega
            · rw [if_neg (by decide)] at hgo
              have hre : R = .error 701 := HR2.out.trans (onw_er hgo.symm)
              have HRE := Lib.hid hre
              clear hgo hre
              go_wp2_with fail
              refine HBITS.out.mono ?_
              rintro e w4 ⟨rfl, hq⟩
              have HQ := Lib.hid (HPOST.out _ _ _ _ _ HBI.out hq)
              clear hq HBITS HBI HOWN hpp
              go_wp2_with (go_at_call 51; refine (got_end _ _ _).mono ?_; rintro e w' ⟨rfl, rfl⟩; unfold thr)
              refine ⟨rfl, ?_⟩
              rw [HRE.out]
              exact ⟨rfl, a1, HQ.out⟩
            · rw [if_neg (by decide)] at hgo
              have hre : R = .error 700 := HR2.out.trans (onw_er hgo.symm)
              have HRE := Lib.hid hre
              clear hgo hre
              go_wp2_with fail
              refine HBITS.out.mono ?_
              rintro e w4 ⟨rfl, hq⟩
              have HQ := Lib.hid (HPOST.out _ _ _ _ _ HBI.out hq)
              clear hq HBITS HBI HOWN hpp
              go_wp2_with (go_at_call 51; refine (got_form _ _ _).mono ?_; rintro e w' ⟨rfl, rfl⟩; unfold thr)
              refine ⟨rfl, ?_⟩
              rw [HRE.out]
              exact ⟨rfl, a1, HQ.out⟩
          · obtain rfl : i = o := by omega
            rw [Nat.sub_self] at hgo
            have hgo2 : getO (sbit s) (8 * s.size) i [] b2 = .ok (acc, b') := by rw [← hgo]; rfl
            have hr2 : R = getB3 (sbit s) (8 * s.size) size t i acc b' := HR2.out.trans (onw_ok hgo2)
            have hr3 := hr2
            unfold getB3 at hr3
            have HR3 := Lib.hid hr3
            have HRR := Lib.hid hr2
            clear hgo hgo2 hr2 hr3 hlt hbi hown hal HR2
            go_wp2_with fail
            go_loopw [8, 9] (fun s8 s9 wr => ∃ (j : Nat) (ac : List Int) (b' : Nat), i ≤ j ∧ j ≤ t ∧ s9 = .int .i64 j ∧ ac.length = j ∧ wr.ownsRow w1.heap.size 3 1 s8 ac.length (intV ac) ∧ BI w1 wr gr g O size s b' (fun _ => 0) ∧ onw (getLs (sbit s) (8 * s.size) (t - j) (decide (j = i ∧ i < 3)) ac b') (fun cs b => getB4 (sbit s) (8 * s.size) size t cs b) = R) (fun _ t' _ => t - (intOf t').toNat)
            case atStart => exact ⟨i, acc, b', Nat.le_refl _, by omega, rfl, HAL.out, HOWN.out, HBI.out, by rw [HR3.out, show decide (i = i ∧ i < 3) = decide (i < 3) by simp]⟩
            case round =>
              obtain ⟨j, ac, b', hij, hjt, rfl, hal, hown, hbi, hgl⟩ := hrel
              have HBI := Lib.hid hbi
              have HOWN := Lib.hid hown
              have HAL := Lib.hid hal
              have hwz := hbi.ht.size
              have hj0 : (0 : Int) ≤ (j : Int) := Int.natCast_nonneg _
              by_cases hlt : j < t
              · have hlt' : (j : Int) < (t : Int) := by omega
                obtain ⟨m, hm⟩ : ∃ m, t - j = m + 1 := ⟨t - j - 1, by omega⟩
                rw [hm, getLs_succ] at hgl
                have hnx : decide (j + 1 = i ∧ i < 3) = false := by rw [decide_eq_false_iff_not]; omega
                have HNX := Lib.hid hnx
                have HM := Lib.hid hm
                have hcase : (j = i ∧ i < 3) ∨ (j = i ∧ 3 ≤ i) ∨ (i < j) := by omega
                clear hm hnx hown hal
                rcases hcase with ⟨h1, h2⟩ | ⟨h1, h2⟩ | h1
                · rw [show decide (j = i ∧ i < 3) = true by rw [decide_eq_true_iff]; exact ⟨h1, h2⟩] at hgl
                  have e1 : ((j : Int) == (i : Int)) = true := by rw [beq_iff_eq]; omega
                  have e2 : (i : Int) < 3 := by omega
                  clear h1 hlt
                  rcases hV : getV (sbit s) (8 * s.size) true b' with c | ⟨c, b1⟩
                  · rw [hV] at hgl
                    have HV := Lib.hid hV
                    have hre : R = .error c := hgl.symm
                    have HRE := Lib.hid hre
                    clear hV hgl hre hbi
                    go_wp2_with fail
                    refine (lrv_er HV.out HBI.out.rr hs HBI.out.ha HBI.out.hp).mono ?_
                    rintro e w4 ⟨rfl, a1, hq⟩
                    have HQ := Lib.hid (HPOST.out _ _ _ _ _ HBI.out hq)
                    clear hq HBI HOWN
                    unfold thr
                    go_wp2_with fail
                    refine ⟨rfl, ?_⟩
                    rw [HRE.out]
                    exact ⟨rfl, a1, HQ.out⟩
                  · rw [hV] at hgl
                    have hvk := getV_ok hV hbi.ha
                    obtain ⟨_, hc1, hc2, _, hb1⟩ := hvk
                    have HV := Lib.hid hV
                    have HGL := Lib.hid hgl
                    clear hV hgl hbi
                    go_wp2_with fail
                    refine (lrv_ok HV.out HBI.out.rr hs HBI.out.ha HBI.out.hp).mono ?_
                    rintro e w4 ⟨rfl, hq⟩
                    have hown4 := own_touch HOWN.out hq.2 (fun q hq1 hq2 => by have := (HOWN.out.lt q hq1).1; have := HN.out.2.2.2.1; unfold RS at hq2; omega)
                    have hb4 := HBI.out.read hq hb1 HN.out.2.1 HN.out.2.2.2.2.2 HN.out.2.2.2.2.1
                    have hwz4 := hb4.ht.size
                    have HB4 := Lib.hid hb4
                    have HO4 := Lib.hid hown4
                    clear hq hown4 hb4 HBI HOWN
                    go_wp2_with (at_builtin; refine wpList_append_own _ rfl _ _ 22 rfl w1.heap.size 3 i0 (.int .i64 0) 1 8 Try.underlying22 hi hz0 hz1 hz2 rfl (by decide) _ ac.length (intV ac) rfl (HO4.out.alloc _) ⟨w4.heap.size, 0, none⟩ 1 1 [.int .i64 c] rfl rfl ?c1 ?c2 (by unfold maxLen; have := HAL.out; omega) (by have := HAL.out; omega) (by simp; omega) ?_)
                    case c1 =>
                      intro i u hi
                      rw [add_new]
                      match i, hi with
                      | 0, hi => simp at hi; subst hi; simp
                    case c2 => intro u hu; simp at hu; subst hu; rfl
                    intro v5 w5 hown5 hg5 _
                    have hb5 := HB4.out.grown HO4.out hg5 HN.out.2.2.2.2.1 HN.out.1 HN.out.2.2.2.1
                    have HB5 := Lib.hid hb5
                    have HO5 := Lib.hid hown5
                    clear hown5 hg5 hb5
                    go_wp2_with fail
                    go_roundw
                    case rel => exact ⟨j + 1, ac ++ [c], b1, by omega, by omega, by go_num, by rw [List.length_append, HAL.out]; rfl, by rw [intV_append, List.length_append]; exact HO5.out, HB5.out, by rw [show t - (j + 1) = m by have := HM.out; omega, HNX.out]; exact HGL.out⟩
                    case measure => simp [intOf]; omega
                · rw [show decide (j = i ∧ i < 3) = false by rw [decide_eq_false_iff_not]; omega] at hgl
                  have e1 : ((j : Int) == (i : Int)) = true := by rw [beq_iff_eq]; omega
                  have e2 : ¬ (i : Int) < 3 := by omega
                  clear h1 hlt
                  rcases hV : getV (sbit s) (8 * s.size) false b' with c | ⟨c, b1⟩
                  · rw [hV] at hgl
                    have HV := Lib.hid hV
                    have hre : R = .error c := hgl.symm
                    have HRE := Lib.hid hre
                    clear hV hgl hre hbi
                    go_wp2_with fail
                    refine (lrv_er HV.out HBI.out.rr hs HBI.out.ha HBI.out.hp).mono ?_
                    rintro e w4 ⟨rfl, a1, hq⟩
                    have HQ := Lib.hid (HPOST.out _ _ _ _ _ HBI.out hq)
                    clear hq HBI HOWN
                    unfold thr
                    go_wp2_with fail
                    refine ⟨rfl, ?_⟩
                    rw [HRE.out]
                    exact ⟨rfl, a1, HQ.out⟩
                  · rw [hV] at hgl
                    have hvk := getV_ok hV hbi.ha
                    obtain ⟨_, hc1, hc2, _, hb1⟩ := hvk
                    have HV := Lib.hid hV
                    have HGL := Lib.hid hgl
                    clear hV hgl hbi
                    go_wp2_with fail
                    refine (lrv_ok HV.out HBI.out.rr hs HBI.out.ha HBI.out.hp).mono ?_
                    rintro e w4 ⟨rfl, hq⟩
                    have hown4 := own_touch HOWN.out hq.2 (fun q hq1 hq2 => by have := (HOWN.out.lt q hq1).1; have := HN.out.2.2.2.1; unfold RS at hq2; omega)
                    have hb4 := HBI.out.read hq hb1 HN.out.2.1 HN.out.2.2.2.2.2 HN.out.2.2.2.2.1
                    have hwz4 := hb4.ht.size
                    have HB4 := Lib.hid hb4
                    have HO4 := Lib.hid hown4
                    clear hq hown4 hb4 HBI HOWN
                    go_wp2_with (at_builtin; refine wpList_append_own _ rfl _ _ 22 rfl w1.heap.size 3 i0 (.int .i64 0) 1 8 Try.underlying22 hi hz0 hz1 hz2 rfl (by decide) _ ac.length (intV ac) rfl (HO4.out.alloc _) ⟨w4.heap.size, 0, none⟩ 1 1 [.int .i64 c] rfl rfl ?c1 ?c2 (by unfold maxLen; have := HAL.out; omega) (by have := HAL.out; omega) (by simp; omega) ?_)
                    case c1 =>
                      intro i u hi
                      rw [add_new]
                      match i, hi with
                      | 0, hi => simp at hi; subst hi; simp
                    case c2 => intro u hu; simp at hu; subst hu; rfl
                    intro v5 w5 hown5 hg5 _
                    have hb5 := HB4.out.grown HO4.out hg5 HN.out.2.2.2.2.1 HN.out.1 HN.out.2.2.2.1
                    have HB5 := Lib.hid hb5
                    have HO5 := Lib.hid hown5
                    clear hown5 hg5 hb5
                    go_wp2_with fail
                    go_roundw
                    case rel => exact ⟨j + 1, ac ++ [c], b1, by omega, by omega, by go_num, by rw [List.length_append, HAL.out]; rfl, by rw [intV_append, List.length_append]; exact HO5.out, HB5.out, by rw [show t - (j + 1) = m by have := HM.out; omega, HNX.out]; exact HGL.out⟩
                    case measure => simp [intOf]; omega
                · rw [show decide (j = i ∧ i < 3) = false by rw [decide_eq_false_iff_not]; omega] at hgl
                  have e1 : ((j : Int) == (i : Int)) = false := by rw [beq_eq_false_iff_ne]; omega
                  clear h1 hlt
                  rcases hV : getV (sbit s) (8 * s.size) false b' with c | ⟨c, b1⟩
                  · rw [hV] at hgl
                    have HV := Lib.hid hV
                    have hre : R = .error c := hgl.symm
                    have HRE := Lib.hid hre
                    clear hV hgl hre hbi
                    go_wp2_with fail
                    refine (lrv_er HV.out HBI.out.rr hs HBI.out.ha HBI.out.hp).mono ?_
                    rintro e w4 ⟨rfl, a1, hq⟩
                    have HQ := Lib.hid (HPOST.out _ _ _ _ _ HBI.out hq)
                    clear hq HBI HOWN
                    unfold thr
                    go_wp2_with fail
                    refine ⟨rfl, ?_⟩
                    rw [HRE.out]
                    exact ⟨rfl, a1, HQ.out⟩
                  · rw [hV] at hgl
                    have hvk := getV_ok hV hbi.ha
                    obtain ⟨_, hc1, hc2, _, hb1⟩ := hvk
                    have HV := Lib.hid hV
                    have HGL := Lib.hid hgl
                    clear hV hgl hbi
                    go_wp2_with fail
                    refine (lrv_ok HV.out HBI.out.rr hs HBI.out.ha HBI.out.hp).mono ?_
                    rintro e w4 ⟨rfl, hq⟩
                    have hown4 := own_touch HOWN.out hq.2 (fun q hq1 hq2 => by have := (HOWN.out.lt q hq1).1; have := HN.out.2.2.2.1; unfold RS at hq2; omega)
                    have hb4 := HBI.out.read hq hb1 HN.out.2.1 HN.out.2.2.2.2.2 HN.out.2.2.2.2.1
                    have hwz4 := hb4.ht.size
                    have HB4 := Lib.hid hb4
                    have HO4 := Lib.hid hown4
                    clear hq hown4 hb4 HBI HOWN
                    go_wp2_with (at_builtin; refine wpList_append_own _ rfl _ _ 22 rfl w1.heap.size 3 i0 (.int .i64 0) 1 8 Try.underlying22 hi hz0 hz1 hz2 rfl (by decide) _ ac.length (intV ac) rfl (HO4.out.alloc _) ⟨w4.heap.size, 0, none⟩ 1 1 [.int .i64 c] rfl rfl ?c1 ?c2 (by unfold maxLen; have := HAL.out; omega) (by have := HAL.out; omega) (by simp; omega) ?_)
                    case c1 =>
                      intro i u hi
                      rw [add_new]
                      match i, hi with
                      | 0, hi => simp at hi; subst hi; simp
                    case c2 => intro u hu; simp at hu; subst hu; rfl
                    intro v5 w5 hown5 hg5 _
                    have hb5 := HB4.out.grown HO4.out hg5 HN.out.2.2.2.2.1 HN.out.1 HN.out.2.2.2.1
                    have HB5 := Lib.hid hb5
                    have HO5 := Lib.hid hown5
                    clear hown5 hg5 hb5
                    go_wp2_with fail
                    go_roundw
                    case rel => exact ⟨j + 1, ac ++ [c], b1, by omega, by omega, by go_num, by rw [List.length_append, HAL.out]; rfl, by rw [intV_append, List.length_append]; exact HO5.out, HB5.out, by rw [show t - (j + 1) = m by have := HM.out; omega, HNX.out]; exact HGL.out⟩
                    case measure => simp [intOf]; omega
              · obtain rfl : j = t := by omega
                rw [Nat.sub_self] at hgl
                have hr4 : getB4 (sbit s) (8 * s.size) size j ac b' = R := hgl
                have hkt : (size : Int) - j = ((size - j : Nat) : Int) := by omega
                unfold getB4 at hr4
                obtain ⟨m2, hm2⟩ : ∃ m2, m2 = size - j := ⟨_, rfl⟩
                rw [← hm2] at hr4 hkt
                have HM2 := Lib.hid hm2
                clear hgl hlt hm2
                rcases hT3 : getT (sbit s) (8 * s.size) m2 b' with c | ⟨x, b3⟩
                · rw [hT3] at hr4
                  have HT3 := Lib.hid hT3
                  have hre : R = .error c := hr4.symm
                  have HRE := Lib.hid hre
                  clear hT3 hr4 hre hbi hown hal
                  go_wp2_with fail
                  refine (lrte_er HT3.out HBI.out.rr hs HBI.out.ha HBI.out.hp).mono ?_
                  rintro e w4 ⟨rfl, a1, hq⟩
                  have HQ := Lib.hid (HPOST.out _ _ _ _ _ HBI.out hq)
                  clear hq HBI HOWN
                  unfold thr
                  go_wp2_with fail
                  refine ⟨rfl, ?_⟩
                  rw [HRE.out]
                  exact ⟨rfl, a1, HQ.out⟩
                · rw [hT3] at hr4
                  have hTk := getT_ok hT3 hbi.ha
                  obtain ⟨hxm, _, hb3⟩ := hTk
                  have HT3 := Lib.hid hT3
                  have hr5 : getRs (sbit s) (8 * s.size) ac x (fun _ => 0) b3 = R := hr4
                  have HR5 := Lib.hid hr5
                  obtain ⟨g', cap, rfl, hnc, hcm, hgb, hgl⟩ := own_form hown (by omega)
                  have har : Ar _ g' j (fun k => .int .i64 (ac.getD k 0)) := ⟨fun k hk => by
                    rw [hown.cellAt k (by omega)]
                    unfold intV
                    rw [List.getElem?_map, List.getElem?_eq_getElem (by omega)]
                    show some (Value.int .i64 (ac[k]'(by omega))) = some (Value.int .i64 (ac.getD k 0))
                    rw [List.getD_eq_getElem?_getD, List.getElem?_eq_getElem (by omega)]
                    rfl, fun o => hown.frozenAt o, hgl⟩
                  have HAR := Lib.hid har
                  have hgg : g' ≠ g := by have := HN.out.2.2.2.1; omega
                  have hgO : g' ≠ O := by have := HN.out.1; omega
                  have HG := Lib.hid (And.intro hgg hgO)
                  clear hT3 hr4 hr5 hbi hown har hgg hgO hgl hgb hcm hnc HOWN
                  go_wp2_with fail
                  refine (lrte_ok HT3.out HBI.out.rr hs HBI.out.ha HBI.out.hp).mono ?_
                  rintro e w4 ⟨rfl, hq⟩
                  have HB4 := Lib.hid (HBI.out.read hq hb3 HN.out.2.1 HN.out.2.2.2.2.2 HN.out.2.2.2.2.1)
                  have HAR4 := Lib.hid (HAR.out.touch hq.2 HG.out.1)
                  clear hq HBI HAR hkt
                  rw [hal]
                  have hxs : x + j ≤ size := by have := HM2.out; omega
                  have HAC := Lib.hid hal
                  clear hal hxm
                  go_wp2_with fail
                  go_loopw [10, 11, 74] (fun s10 s11 s74 wr => ∃ (q x : Nat) (out : Nat → Int) (b' : Nat), q ≤ j ∧ s74 = .int .i64 q ∧ s10 = .int .i64 x ∧ s11 = .int .i64 ((x : Int) + j - 1 - q) ∧ x + j ≤ size ∧ BI w1 wr gr g O size s b' out ∧ Ar wr g' j (fun k => .int .i64 (ac.getD k 0)) ∧ getRs (sbit s) (8 * s.size) (ac.drop q) x out b' = R) (fun _ _ s _ => j - (intOf s).toNat)
                  case atStart => exact ⟨0, x, _, b3, Nat.zero_le _, rfl, rfl, by go_num, hxs, HB4.out, HAR4.out, HR5.out⟩
                  case round =>
                    clear HB4 HAR4
                    obtain ⟨q, x, out, b', hqj, rfl, rfl, rfl, hxs, hbi, har, hgr⟩ := hrel
                    have HBI := Lib.hid hbi
                    have HAR := Lib.hid har
                    have hq0 : (0 : Int) ≤ (q : Int) := Int.natCast_nonneg _
                    have hx0 : (0 : Int) ≤ (x : Int) := Int.natCast_nonneg _
                    by_cases hlt : q < j
                    · have hlt' : (q : Int) < (j : Int) := by omega
                      have hql : q < ac.length := by have := HAC.out; omega
                      rw [List.drop_eq_getElem_cons hql, getRs_cons] at hgr
                      have hcv : ac[q]'hql = ac.getD q 0 := by rw [List.getD_eq_getElem?_getD, List.getElem?_eq_getElem hql]; rfl
                      rw [hcv] at hgr
                      have hdl : (ac.drop (q + 1)).length = j - (q + 1) := by rw [List.length_drop]; have := HAC.out; omega
                      rw [hdl] at hgr
                      have hc1 := har.1 q hlt
                      simp only at hc1
                      obtain ⟨c, hc⟩ : ∃ c, c = ac.getD q 0 := ⟨_, rfl⟩
                      rw [← hc] at hgr hc1
                      obtain ⟨p, hp⟩ : ∃ p : Nat, p = x + (j - (q + 1)) := ⟨_, rfl⟩
                      have hpi : (x : Int) + j - 1 - q = (p : Int) := by omega
                      have hps : p < size := by omega
                      have hps' : (p : Int) < (size : Int) := by omega
                      have hp0 : (0 : Int) ≤ (p : Int) := Int.natCast_nonneg _
                      have hcO := hbi.ar.1 p hps
                      have hfO := hbi.ar.2.1 p
                      simp only at hcO
                      rw [← hp] at hgr
                      rw [hpi]
                      have hbs := hbi.set_ hps c HN.out.2.1 HN.out.2.2.1
                      have hars := har.far (p := ⟨O, p, none⟩) HG.out.2 (.int .i64 c)
                      have HBS := Lib.hid hbs
                      have HARS := Lib.hid hars
                      have HP := Lib.hid hp
                      have hways : (q + 1 = j) ∨ (q + 1 < j ∧ x = 0) ∨ (q + 1 < j ∧ 0 < x) := by omega
                      clear hc hcv hdl hbi har hbs hars hlt hpi hp
                      rcases hways with h1 | ⟨h1, h2⟩ | ⟨h1, h2⟩
                      · have h1' : ¬ (q : Int) + 1 < (j : Int) := by omega
                        rw [if_pos (List.drop_eq_nil_of_le (by have := HAC.out; omega))] at hgr
                        have hpx : p = x := by have := HP.out; omega
                        have hre : getRs (sbit s) (8 * s.size) (ac.drop (q + 1)) x (upd out p c) b' = R := by
                          rw [List.drop_eq_nil_of_le (by have := HAC.out; omega), hpx]
                          exact hgr
                        have HRE := Lib.hid hre
                        have HPX := Lib.hid hpx
                        clear hgr hre hpx h1
                        go_wp2_with fail
                        go_roundw
                        case rel => exact ⟨q + 1, x, upd out p c, b', by omega, by go_num, rfl, by have := HPX.out; congr 1; omega, hxs, HBS.out, HARS.out, HRE.out⟩
                        case measure => simp [intOf]; omega
                      · have h1' : (q : Int) + 1 < (j : Int) := by omega
                        have h2' : ¬ (0 : Int) < (x : Int) := by omega
                        rw [if_neg (fun q => by have h := congrArg List.length q; rw [List.length_drop] at h; have := HAC.out; simp at h; omega), show getT (sbit s) (8 * s.size) x b' = .ok (0, b') by unfold getT; rw [if_pos h2]] at hgr
                        have hre : getRs (sbit s) (8 * s.size) (ac.drop (q + 1)) x (upd out p c) b' = R := hgr
                        have HRE := Lib.hid hre
                        clear hgr hre h1 h2
                        go_wp2_with fail
                        go_roundw
                        case rel => exact ⟨q + 1, x, upd out p c, b', by omega, by go_num, rfl, by have := HP.out; congr 1; omega, hxs, HBS.out, HARS.out, HRE.out⟩
                        case measure => simp [intOf]; omega
                      · have h1' : (q : Int) + 1 < (j : Int) := by omega
                        have h2' : (0 : Int) < (x : Int) := by omega
                        rw [if_neg (fun q => by have h := congrArg List.length q; rw [List.length_drop] at h; have := HAC.out; simp at h; omega)] at hgr
                        rcases hT4 : getT (sbit s) (8 * s.size) x b' with c4 | ⟨r, b4⟩
                        · rw [hT4] at hgr
                          have hre : R = .error c4 := hgr.symm
                          have HRE := Lib.hid hre
                          have HT4 := Lib.hid hT4
                          clear hT4 hgr hre h1 h2
                          go_wp2_with fail
                          refine (lrte_er HT4.out HBS.out.rr hs HBS.out.ha HBS.out.hp).mono ?_
                          rintro e w6 ⟨rfl, a1, hq⟩
                          have HQ := Lib.hid (HPOST.out _ _ _ _ _ HBS.out hq)
                          clear hq
                          unfold thr
                          go_wp2_with fail
                          refine ⟨rfl, ?_⟩
                          rw [HRE.out]
                          exact ⟨rfl, a1, HQ.out⟩
                        · rw [hT4] at hgr
                          have hTk := getT_ok hT4 HBS.out.ha
                          obtain ⟨hrx, _, hb4⟩ := hTk
                          have hre : getRs (sbit s) (8 * s.size) (ac.drop (q + 1)) (x - r) (upd out p c) b4 = R := hgr
                          have HRE := Lib.hid hre
                          have HT4 := Lib.hid hT4
                          have hxr : (x : Int) - r = ((x - r : Nat) : Int) := by omega
                          have hrx' : (r : Int) ≤ (x : Int) := by omega
                          have hr0 : (0 : Int) ≤ (r : Int) := Int.natCast_nonneg _
                          clear hT4 hgr hre h1 h2
                          go_wp2_with fail
                          refine (lrte_ok HT4.out HBS.out.rr hs HBS.out.ha HBS.out.hp).mono ?_
                          rintro e w6 ⟨rfl, hq⟩
                          have HB6 := Lib.hid (HBS.out.read hq hb4 HN.out.2.1 HN.out.2.2.2.2.2 HN.out.2.2.2.2.1)
                          have HAR6 := Lib.hid (HARS.out.touch hq.2 HG.out.1)
                          clear hq
                          go_wp2_with fail
                          go_roundw
                          case rel => exact ⟨q + 1, x - r, upd out p c, b4, by omega, by go_num, rfl, by have := HP.out; congr 1; omega, by omega, HB6.out, HAR6.out, HRE.out⟩
                          case measure => simp [intOf]; omega
                    · obtain rfl : q = j := by omega
                      have hre : R = .ok (out, b') := by
                        rw [← hgr, List.drop_eq_nil_of_le (by have := HAC.out; omega)]
                        rfl
                      have HRE := Lib.hid hre
                      have HQ := Lib.hid (HPOST.out _ _ _ _ _ hbi ⟨hbi.rr, Touch.refl _ _⟩)
                      clear hgr hre hlt hbi har
                      go_wp2_with fail
                      go_ret
                      rw [HRE.out]
                      exact ⟨rfl, HBI.out.ar, HBI.out.ha, HQ.out⟩
end Go.Proofs.Ytocooplmfkeepaa
