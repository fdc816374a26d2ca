/- Blocks of coefficients: the document's Put. -/
import Derived.Test.YtocooplmfkeepaaLevB
import Derived.Test.YtocooplmfkeepaaBitQ
namespace Go.Proofs.Ytocooplmfkeepaa
open Go.RowKit
set_option linter.unusedVariables false
set_option linter.unusedSimpArgs false
attribute [local go_sem] ite_max ite_min

theorem within_any (A : Option Addr) (k c : Nat) (z : Nat → Int) (w : World) (h : Ri w w.heap.size A k z) (hk : k ≤ 16) :
    Calls Try.prog 38 #[.slice A k c] w fun e w' => e = .returned (.bool (lvOk z k)) ∧ w = w' := by
  have HR := Lib.hid h
  clear h
  go_enter Try.func38, Try.ntmps38
  go_wp2_with fail
  go_loopw [3] (fun t wr => ∃ i : Nat, i ≤ k ∧ t = .int .i64 i ∧ (∀ j, j < i → -32767 ≤ z j ∧ z j ≤ 32767) ∧ wr = w) (fun t _ => k - (intOf t).toNat)
  case atStart => exact ⟨0, Nat.zero_le _, rfl, fun j hj => absurd hj (by omega), rfl⟩
  case round =>
    obtain ⟨i, hi, rfl, hall, rfl⟩ := hrel
    have HALL := Lib.hid hall
    clear hall
    by_cases hlt : i < k
    · have hlt' : (i : Int) < (k : Int) := by omega
      have hi0 : (0 : Int) ≤ (i : Int) := Int.natCast_nonneg _
      obtain ⟨ad, rfl, hab, hc⟩ := Rd.at_ HR.out hlt
      have hc' := hc
      clear hab hc
      by_cases hr : -32767 ≤ z i ∧ z i ≤ 32767
      · obtain ⟨hr1, hr2⟩ := hr
        have HR2 := Lib.hid (And.intro hr1 hr2)
        have hr3 : ¬ z i < -32767 := by omega
        have hr4 : ¬ 32767 < z i := by omega
        go_wp2_with fail
        go_roundw
        case rel => exact ⟨i + 1, by omega, by go_num, fun j hj => by
          by_cases hji : j = i
          · rw [hji]; exact HR2.out
          · exact HALL.out j (by omega), trivial⟩
        case measure => simp [intOf]; omega
      · have hno : lvOk z k = false := Bool.eq_false_iff.2 fun q => hr ((lvOk_iff z k).1 q i hlt)
        have HE := Lib.hid hno
        have hr' : z i < -32767 ∨ (¬ z i < -32767 ∧ 32767 < z i) := by omega
        clear hno hr
        rcases hr' with hr3 | ⟨hr3, hr4⟩
        all_goals
          go_wp2_with fail
          go_ret
          exact ⟨by rw [HE.out]; rfl, rfl⟩
    · obtain rfl : i = k := by omega
      have hok : lvOk z i = true := (lvOk_iff z i).2 HALL.out
      have HE := Lib.hid hok
      clear hok
      go_wp2_with fail
      go_ret
      exact ⟨by rw [HE.out]; rfl, rfl⟩

theorem Far.new2 {w w1 : World} {base : Nat} {v u : Value} {b : List Bool} {l : List Nat} (h : w.ownsRow base 5 1 v b.length (bitsV b)) (ho : w1.ownsRow w.heap.size 3 1 u l.length (natV l)) :
    ∃ A c, u = .slice A l.length c ∧ Far w1 (fun k => v.ownBlock = some k) A l.length (fun i => ((l.getD i 0 : Nat) : Int)) := by
  rcases ho.2 with ⟨rfl, h0⟩ | ⟨g', cap, cur, rfl, hb, hh, hnc, hcm, _, _⟩
  · rw [h0]
    exact ⟨none, 0, rfl, fun hn => absurd hn (by omega)⟩
  · refine ⟨_, _, rfl, fun hn => ⟨⟨g', 0, none⟩, rfl, ?_, fun q => ?_, fun k hk => ?_⟩⟩
    · rcases Nat.lt_or_ge g' w1.heap.size with h1 | h1
      · exact h1
      · rw [Array.getElem?_eq_none h1] at hh; cases hh
    · have := (h.lt _ q).2
      simp only at this
      omega
    · rw [add_new, ho.cellAt k (by omega)]
      unfold natV
      rw [List.getElem?_map, List.getElem?_eq_getElem hk]
      show some _ = some (Value.int .i64 ((l.getD k 0 : Nat) : Int))
      rw [List.getD_eq_getElem?_getD, List.getElem?_eq_getElem hk]
      rfl
theorem ret_vi {v v' : Value} {k : IntKind} {a b : Int} (h : v = v') (g : a = b) : Ending.returned (.tuple #[v, .int k a]) = .returned (.tuple #[v', .int k b]) := by rw [h, g]
def Put2 (w : World) (base : Nat) (v : Value) (b : List Bool) (x : Int) (e : Ending) (w' : World) : Prop := ∃ v', e = .returned (.tuple #[v', .int .i64 x]) ∧ BGrow w base v b v' w'
theorem BGrow.then {w w1 w2 : World} {base : Nat} {v v1 v2 : Value} {b c : List Bool} (h : BGrow w base v b v1 w1) (k : BGrow w1 base v1 c v2 w2) : BGrow w base v c v2 w2 := by
  obtain ⟨h1, h2, h3⟩ := h
  obtain ⟨k1, k2, k3⟩ := k
  refine ⟨k1, h2.old k2 (fun i hi q => ?_), h3.step h2.size k3⟩
  rcases h3 with h | ⟨j, h, hj⟩
  · exact h ▸ q
  · rw [h] at q
    have : j = i := by injection q
    omega

theorem te2n (x most : Nat) (w : World) (n : Nat) (hm : 1 ≤ most) (h1 : x ≤ most) (h2 : x ≤ 2147483646) :
    Calls Try.prog 39 #[.int .i64 x, .int .i64 most] (w.drewN n) (BRow w (teL x most)) :=
  (te2_any x most (w.drewN n) (by omega) (by omega) (by omega) (by omega)).mono fun e w' ⟨v, he, ho, hb⟩ => ⟨v, he, ho, hb.os, hb.tape, hb.output, hb.size, hb.block⟩
theorem te2m (x most : Nat) (w : World) (hm : 1 ≤ most) (h1 : x ≤ most) (h2 : x ≤ 2147483646) :
    Calls Try.prog 39 #[.int .i64 x, .int .i64 most] w (BRow w (teL x most)) := te2_any x most w (by omega) (by omega) (by omega) (by omega)
theorem te2i (x : Nat) (m : Int) (most : Nat) (w : World) (hmm : m = (most : Int)) (hm : 1 ≤ most) (h1 : x ≤ most) (h2 : x ≤ 2147483646) :
    Calls Try.prog 39 #[.int .i64 x, .int .i64 m] w (BRow w (teL x most)) := hmm ▸ te2m x most w hm h1 h2
theorem own_bit (w : World) (bit : Bool) : (w.alloc (.cells #[.int .u8 (bu bit)] 5)).ownsRow w.heap.size 5 1 (.slice (some ⟨w.heap.size, 0, none⟩) 1 1) [bit].length (bitsV [bit]) :=
  World.ownsRow_lit (base := w.heap.size) (e := 5) (size := 1) w #[.int .u8 (bu bit)] 1 (Nat.le_refl _) (by unfold maxLen; omega) rfl
theorem BGrow.size {w w1 : World} {base : Nat} {v v1 : Value} {b : List Bool} (h : BGrow w base v b v1 w1) : w.heap.size ≤ w1.heap.size := h.2.1.size

set_option maxRecDepth 100000 in
set_option maxHeartbeats 12800000 in
theorem lput2_any (base : Nat) (v : Value) (b : List Bool) (A : Option Addr) (k cp : Nat) (z : Nat → Int) (w : World) (h : w.ownsRow base 5 1 v b.length (bitsV b)) (hb : b.length ≤ 900000) (hbs : base ≤ w.heap.size) (hz : Far w (fun k => v.ownBlock = some k) A k z) :
    Calls Try.prog 13 #[v, .slice A k cp] w (Put2 w base v (b ++ lvB z k) (lvE z k)) := by
  obtain ⟨i0, hi, hz0, hz1, hz2⟩ := info_parts int_info
  obtain ⟨j0, hj, hy0, hy1, hy2⟩ := info_parts u8_info
  have HW := Lib.hid h
  have HZ := Lib.hid hz
  have HBS := Lib.hid hbs
  clear h hz hbs
  by_cases hs : sizeOk k = true
  · have hk16 := sizeOk_le hs
    obtain ⟨hk4, hk16⟩ := hk16
    by_cases hok : lvOk z k = true
    · have HE := Lib.hid (lvE_yes hs hok)
      have HOK := Lib.hid hok
      have hzr := (lvOk_iff z k).1 hok
      have HZR := Lib.hid hzr
      clear hzr
      go_enter Try.func13, Try.ntmps13
      go_wp2_with fail
      refine (size2_any k _).mono ?_
      rintro e w' ⟨rfl, rfl⟩
      rw [hs]
      go_wp2_with fail
      refine (within_any A k cp z _ HZ.out.ri hk16).mono ?_
      rintro e w' ⟨rfl, rfl⟩
      rw [hok]
      clear hs hok
      go_wp2_with fail
      go_loopw [6, 7] (fun s t wr => ∃ (j : Nat) (l : List Nat), j ≤ k ∧ t = .int .i64 ((j : Int) - 1) ∧ l ++ atL z j = atL z k ∧ l.length ≤ 16 ∧ wr.ownsRow w.heap.size 3 1 s l.length (natV l) ∧ Below w.heap.size w wr) (fun _ t _ => (intOf t + 1).toNat)
      case atStart => exact ⟨k, [], Nat.le_refl _, rfl, rfl, by simp, World.ownsRow_nil _ _ _ _, Below.refl _ _⟩
      case round =>
        obtain ⟨j, l, hj, rfl, hl, hll, ho, hb⟩ := hrel
        have HO := Lib.hid ho
        have HB := Lib.hid hb
        have HL := Lib.hid hl
        rcases j with _ | j
        · have e0 : ((0 : Nat) : Int) - 1 = -1 := rfl
          rw [e0]
          clear e0 ho hb hl
          have hl0 := HL.out
          rw [show atL z 0 = [] from rfl, List.append_nil] at hl0
          generalize wr = wp at *
          obtain ⟨At, ct, rfl, hfa⟩ := Far.new2 HW.out HO.out
          have hfz := HZ.out.go HB.out
          have hg0 := BGrow.refl (own_go HW.out HB.out)
          have hpost : ∀ (c : List Bool) (vx : Value) (wx : World), BGrow _ base v c vx wx → BGrow w base v c vx wx := fun c vx wx q => ((BGrow.refl HW.out).go HB.out).then q
          have hget := atL_get z k
          have hdec := atL_dec z k
          have htl := atL_len z k
          have HL := Lib.hid (show lvPut z k = teL (atL z k).length k ++ if (atL z k).length = 0 then [] else
            teL (lvOnes z (atL z k)) (min 3 (atL z k).length) ++ lvL z (lvOnes z (atL z k)) 0 (atL z k) ++ teZ (lvLeft (atL z k)) (k - (atL z k).length) ++ rnL (lvLeft (atL z k)) (atL z k) from rfl)
          rw [← hl0] at hget hdec htl HL
          obtain ⟨t, ht⟩ : ∃ t, t = l.length := ⟨_, rfl⟩
          rw [← ht] at hfa hget hdec htl HL
          rw [← ht]
          have hbs1 := HB.out.size
          have hbs2 := Nat.le_trans HBS.out hbs1
          have HT := Lib.hid ht
          have HPOST := Lib.hid hpost
          have HG0 := Lib.hid hg0
          have HFA := Lib.hid hfa
          have HFZ := Lib.hid hfz
          have HGET := Lib.hid hget
          have HDEC := Lib.hid hdec
          have HB1 := Lib.hid hbs2
          clear hl0 ht hfz hfa hg0 hpost hget hdec hbs1 hbs2 HB HO HW HZ HBS hi hz0 hz1 hz2 hj hy0 hy1 hy2 hll
          have htl1 := teL_le (x := t) (m := k) (by omega)
          rcases Nat.eq_zero_or_pos t with ht0 | ht0
          · subst ht0
            go_wp2_with fail
            refine (te2m 0 k _ (by omega) htl (by omega)).mono ?_
            rintro e w2 ⟨vd, rfl, hvd, hbd⟩
            go_wp2_with (at_builtin; refine wpList_app rfl _ _ rfl base v v vd b (teL 0 k) rfl rfl HG0.out HB1.out hbd hvd (by omega) ?_; intro v2 w3 hG)
            have hq : BGrow w base v (b ++ lvB z k) v2 w3 := by
              rw [HE.out.2, HL.out, if_pos trivial, List.append_nil]
              exact HPOST.out _ _ _ hG
            go_ret2
            exact ⟨v2, by rw [HE.out.1]; rfl, hq⟩
          · have ht1 : ((t : Int) == 0) = false := by rw [beq_eq_false_iff_ne]; omega
            go_wp2_with fail
            refine (te2m t k _ (by omega) htl (by omega)).mono ?_
            rintro e w2 ⟨vd, rfl, hvd, hbd⟩
            go_wp2_with (at_builtin; refine wpList_app rfl _ _ rfl base v v vd b (teL t k) rfl rfl HG0.out HB1.out hbd hvd (by omega) ?_; intro v2 w3 hG)
            clear hvd hbd HG0
            have HG := Lib.hid hG
            have HT2 := Lib.hid hG.2.1
            clear hG
            obtain ⟨ad1, rfl⟩ := HFA.out.some_ ht0
            obtain ⟨ad2, rfl⟩ := HFZ.out.some_ (by omega)
            have hmin : min (3 : Int) (t : Int) = ((min 3 t : Nat) : Int) := by omega
            obtain ⟨mm, hmm⟩ : ∃ mm, mm = min 3 t := ⟨_, rfl⟩
            have hmm3 : mm ≤ 3 := by omega
            have hmmt : mm ≤ t := by omega
            have hmm0 : 1 ≤ mm := by omega
            rw [← hmm] at hmin HL
            have HMM := Lib.hid hmm
            clear hmm
            go_loopw [9] (fun s wr2 => ∃ o : Nat, o ≤ mm ∧ s = .int .i64 o ∧ (∀ j, j < o → isOne (z (l.getD j 0)) = true) ∧ wr2 = w3) (fun s _ => mm - (intOf s).toNat)
            case atStart => exact ⟨0, Nat.zero_le _, rfl, fun j hj => absurd hj (by omega), rfl⟩
            case round =>
              obtain ⟨o, ho, rfl, hones, rfl⟩ := hrel
              have HON := Lib.hid hones
              clear hones
              have ho0 : (0 : Int) ≤ (o : Int) := Int.natCast_nonneg _
              have hw : (o < mm ∧ isOne (z (l.getD o 0)) = true) ∨ (o < mm ∧ isOne (z (l.getD o 0)) = false) ∨ o = mm ∧ t = o ∨ o = mm ∧ o < t ∧ 3 ≤ o := by
                have := HMM.out
                cases hq : isOne (z (l.getD o 0))
                · by_cases h : o < mm
                  · exact .inr (.inl ⟨h, rfl⟩)
                  · by_cases h2 : t = o
                    · exact .inr (.inr (.inl ⟨by omega, h2⟩))
                    · exact .inr (.inr (.inr ⟨by omega, by omega, by omega⟩))
                · by_cases h : o < mm
                  · exact .inl ⟨h, rfl⟩
                  · by_cases h2 : t = o
                    · exact .inr (.inr (.inl ⟨by omega, h2⟩))
                    · exact .inr (.inr (.inr ⟨by omega, by omega, by omega⟩))
              rcases hw with hcase | hcase | hcase | hcase
              · obtain ⟨hom, hone⟩ := hcase
                have hom3 : (o : Int) < 3 := by omega
                have hot' : (o : Int) < (t : Int) := by omega
                obtain ⟨p, hp⟩ : ∃ p, p = l.getD o 0 := ⟨_, rfl⟩
                have hc1 := HFA.out.at_ HT2.out (show o < t by omega)
                have hpk := (HGET.out o (by omega)).2.1
                rw [← hp] at hc1 hpk hone
                have hc2 := HFZ.out.at_ HT2.out hpk
                have hpk' : (p : Int) < (k : Int) := by omega
                have hp0 : (0 : Int) ≤ (p : Int) := Int.natCast_nonneg _
                have HP := Lib.hid hp
                have HONE := Lib.hid hone
                clear hp hom
                have hq := (isOne_eq (z p)).2 hone
                have hnx : ∀ j, j < o + 1 → isOne (z (l.getD j 0)) = true := fun j hj => by
                  by_cases hjo : j = o
                  · rw [hjo, ← HP.out]; exact HONE.out
                  · exact HON.out j (by omega)
                have HNX := Lib.hid hnx
                clear hone hnx
                rcases hq with h1 | ⟨h1, h2⟩
                all_goals
                  go_wp2_with fail
                  go_roundw
                  case rel => exact ⟨o + 1, by omega, by go_num, HNX.out, trivial⟩
                  case measure => simp [intOf]; omega
              all_goals
                have hlo : lvOnes z l = o := by
                  unfold lvOnes
                  rw [← HT.out, ← HMM.out]
                  exact onesN_of z mm l o (by omega) (by have := HT.out; omega) HON.out (by first | exact .inl hcase.1 | exact .inr (.inr hcase.2))
                have HLO := Lib.hid hlo
                clear hlo
                first
                | (have hone : isOne (z (l.getD o 0)) = false := hcase.2
                   have hom := hcase.1
                   clear hcase
                   have hom3 : (o : Int) < 3 := by omega
                   have hot' : (o : Int) < (t : Int) := by omega
                   obtain ⟨p, hp⟩ : ∃ p, p = l.getD o 0 := ⟨_, rfl⟩
                   have hc1 := HFA.out.at_ HT2.out (show o < t by omega)
                   have hpk := (HGET.out o (by omega)).2.1
                   rw [← hp] at hc1 hpk hone
                   have hc2 := HFZ.out.at_ HT2.out hpk
                   have hpk' : (p : Int) < (k : Int) := by omega
                   have hp0 : (0 : Int) ≤ (p : Int) := Int.natCast_nonneg _
                   obtain ⟨h1, h2⟩ := isOne_no hone
                   clear hp hom hone
                   go_wp2_with fail
                   clear h1 h2 hc1 hc2 hpk' hp0 hpk)
                | (have hot' : (o : Int) < (t : Int) := Int.ofNat_lt.2 hcase.2.1
                   have hom3 : ¬ (o : Int) < 3 := by omega
                   have hmmo : 3 ≤ mm := by omega
                   clear hcase
                   go_wp2_with fail)
                | (have hot' : ¬ (o : Int) < (t : Int) := by omega
                   clear hcase
                   go_wp2_with fail)
              all_goals
                clear HT2
                refine (te2i o _ mm _ (by omega) hmm0 ho (by omega)).mono ?_
                rintro e w4 ⟨vd2, rfl, hvd, hbd⟩
                have htl2 := teL_le (x := o) (m := mm) (by omega)
                go_wp2_with (at_builtin; refine wpList_app rfl _ _ rfl base v v2 vd2 (b ++ teL t k) (teL o mm) rfl rfl HG.out (by have := HB1.out; have := HG.out.size; omega) hbd hvd (by rw [List.length_append]; omega) ?_; intro v4 w5 hG)
                obtain ⟨B0, hB0⟩ : ∃ B0, B0 = b ++ teL t k ++ teL o mm := ⟨_, rfl⟩
                have hB0l : B0.length ≤ 900200 := by rw [hB0, List.length_append, List.length_append]; omega
                rw [← hB0] at hG
                have HG3 := Lib.hid hG
                have HB0 := Lib.hid hB0
                clear hG hB0 htl1 htl2 hvd hbd HG HON
                go_loopw [0, 10] (fun s0 s wr3 => ∃ (j : Nat) (d : List Bool), j ≤ t ∧ s = .int .i64 j ∧ BGrow wp base v (B0 ++ d) s0 wr3 ∧ d ++ lvL z o j (l.drop j) = lvL z o 0 l ∧ d.length ≤ 61 * j) (fun _ s _ => t - (intOf s).toNat)
                case atStart => exact ⟨0, [], Nat.zero_le _, rfl, by rw [List.append_nil]; exact HG3.out, rfl, by simp⟩
                case round =>
                  clear HG3
                  obtain ⟨j, d, hj, rfl, hgg, hdd, hdl⟩ := hrel
                  have HG := Lib.hid hgg
                  have HT3 := Lib.hid hgg.2.1
                  have HDD := Lib.hid hdd
                  have hs3 := hgg.size
                  have hbs3 := Nat.le_trans HB1.out hs3
                  have HB3 := Lib.hid hbs3
                  clear hgg hdd hbs3
                  have hj0 : (0 : Int) ≤ (j : Int) := Int.natCast_nonneg _
                  by_cases hjt : j < t
                  · have hjt' : (j : Int) < (t : Int) := by omega
                    obtain ⟨p, hp⟩ : ∃ p, p = l.getD j 0 := ⟨_, rfl⟩
                    have hc1 := HFA.out.at_ HT3.out hjt
                    have hpk := (HGET.out j (by omega)).2
                    have hlg := lvL_get z o l j (by have := HT.out; omega) j
                    rw [← hp] at hc1 hpk hlg
                    obtain ⟨hpk, hz0⟩ := hpk
                    have hc2 := HFZ.out.at_ HT3.out hpk
                    have hzr := HZR.out p hpk
                    have hpk' : (p : Int) < (k : Int) := by omega
                    have hp0 : (0 : Int) ≤ (p : Int) := Int.natCast_nonneg _
                    generalize z p = c at hc2 hlg hz0 hzr
                    have hdd2 : (d ++ oneL o j c) ++ lvL z o (j + 1) (l.drop (j + 1)) = lvL z o 0 l := by rw [← HDD.out, hlg, List.append_assoc]
                    have hol := oneL_le o j c hzr
                    have HDD2 := Lib.hid hdd2
                    have hdl2 : (d ++ oneL o j c).length ≤ 61 * (j + 1) := by rw [List.length_append]; omega
                    have HDL2 := Lib.hid hdl2
                    obtain ⟨hz1, hz2⟩ := hzr
                    have hBl : (B0 ++ d).length ≤ 1000000 := by rw [List.length_append]; omega
                    have HBL := Lib.hid hBl
                    have HLEN : Hid (∀ e : List Bool, e.length ≤ 61 → (B0 ++ d).length + e.length ≤ 100000000) := Lib.hid fun e he => by have := HBL.out; omega
                    clear hp hlg hdd2 hol hdl2 hBl
                    have hw5 : (j < o ∧ c < 0) ∨ (j < o ∧ 0 < c) ∨ (j = o ∧ o < 3 ∧ 0 < c) ∨ (j = o ∧ o < 3 ∧ c < 0) ∨ (o < j) ∨ (j = o ∧ 3 ≤ o) := by omega
                    rcases hw5 with ⟨h1, h2⟩ | ⟨h1, h2⟩ | ⟨h1, h2, h3⟩ | ⟨h1, h2, h3⟩ | h1 | ⟨h1, h2⟩
                    · have h1' : (j : Int) < (o : Int) := by omega
                      have hone : oneL o j c = [true] := by unfold oneL; rw [if_pos h1, decide_eq_true h2]
                      have HONE := Lib.hid hone
                      clear h1 hjt hone
                      go_wp2_with (at_builtin; refine wpList_app rfl _ _ rfl base v _ _ (B0 ++ d) [true] rfl rfl HG.out HB3.out ((Below.refl _ _).alloc (Nat.le_refl _) _) (own_bit _ true) (HLEN.out _ (by simp)) ?_; intro v6 w6 hG6; rw [← HONE.out, List.append_assoc] at hG6)
                      go_roundw
                      case rel => exact ⟨j + 1, d ++ oneL o j c, by omega, by go_num, hG6, HDD2.out, HDL2.out⟩
                      case measure => simp [intOf]; omega
                    · have h1' : (j : Int) < (o : Int) := by omega
                      have h2' : ¬ c < 0 := by omega
                      have hone : oneL o j c = [false] := by unfold oneL; rw [if_pos h1, decide_eq_false h2']
                      have HONE := Lib.hid hone
                      clear h1 hjt hone
                      go_wp2_with (at_builtin; refine wpList_app rfl _ _ rfl base v _ _ (B0 ++ d) [false] rfl rfl HG.out HB3.out ((Below.refl _ _).alloc (Nat.le_refl _) _) (own_bit _ false) (HLEN.out _ (by simp)) ?_; intro v6 w6 hG6; rw [← HONE.out, List.append_assoc] at hG6)
                      go_roundw
                      case rel => exact ⟨j + 1, d ++ oneL o j c, by omega, by go_num, hG6, HDD2.out, HDL2.out⟩
                      case measure => simp [intOf]; omega
                    · have h1' : ¬ (j : Int) < (o : Int) := by omega
                      have h4' : ((j : Int) == (o : Int)) = true := by rw [beq_iff_eq]; omega
                      have h2' : (o : Int) < 3 := by omega
                      have hone : oneL o j c = seL (c - 1) := by unfold oneL told near; rw [if_neg (by omega), if_pos ⟨h1, h2⟩, if_pos h3]
                      have hq := fun w => se2_any (c - 1) w (by omega)
                      rw [← hone] at hq
                      have HQ := Lib.hid hq
                      have hol2 := oneL_le o j c ⟨hz1, hz2⟩
                      have HOL := Lib.hid hol2
                      clear hq hone hjt h1 hol2
                      go_wp2_with fail
                      all_goals
                        refine (HQ.out _).mono ?_
                        rintro e w4 ⟨vd4, rfl, hvd, hbd⟩
                        go_wp2_with (at_builtin; refine wpList_app rfl _ _ rfl base v _ vd4 (B0 ++ d) (oneL o j c) rfl rfl HG.out HB3.out hbd hvd (HLEN.out _ HOL.out) ?_; intro v6 w6 hG6; rw [List.append_assoc] at hG6)
                        go_roundw
                        case rel => exact ⟨j + 1, d ++ oneL o j c, by omega, by go_num, hG6, HDD2.out, HDL2.out⟩
                        case measure => simp [intOf]; omega
                    · have h1' : ¬ (j : Int) < (o : Int) := by omega
                      have h4' : ((j : Int) == (o : Int)) = true := by rw [beq_iff_eq]; omega
                      have h2' : (o : Int) < 3 := by omega
                      have h3' : ¬ 0 < c := by omega
                      have hone : oneL o j c = seL (c + 1) := by unfold oneL told near; rw [if_neg (by omega), if_pos ⟨h1, h2⟩, if_neg h3']
                      have hq := fun w => se2_any (c + 1) w (by omega)
                      rw [← hone] at hq
                      have HQ := Lib.hid hq
                      have hol2 := oneL_le o j c ⟨hz1, hz2⟩
                      have HOL := Lib.hid hol2
                      clear hq hone hjt h1 hol2
                      go_wp2_with fail
                      all_goals
                        refine (HQ.out _).mono ?_
                        rintro e w4 ⟨vd4, rfl, hvd, hbd⟩
                        go_wp2_with (at_builtin; refine wpList_app rfl _ _ rfl base v _ vd4 (B0 ++ d) (oneL o j c) rfl rfl HG.out HB3.out hbd hvd (HLEN.out _ HOL.out) ?_; intro v6 w6 hG6; rw [List.append_assoc] at hG6)
                        go_roundw
                        case rel => exact ⟨j + 1, d ++ oneL o j c, by omega, by go_num, hG6, HDD2.out, HDL2.out⟩
                        case measure => simp [intOf]; omega
                    · have h1' : ¬ (j : Int) < (o : Int) := by omega
                      have h4' : ((j : Int) == (o : Int)) = false := by rw [beq_eq_false_iff_ne]; omega
                      have hone : oneL o j c = seL c := by unfold oneL told; rw [if_neg (by omega), if_neg (by omega)]
                      have hq := fun w => se2_any c w (by omega)
                      rw [← hone] at hq
                      have HQ := Lib.hid hq
                      have hol2 := oneL_le o j c ⟨hz1, hz2⟩
                      have HOL := Lib.hid hol2
                      clear hq hone hjt h1 hol2
                      go_wp2_with fail
                      all_goals
                        refine (HQ.out _).mono ?_
                        rintro e w4 ⟨vd4, rfl, hvd, hbd⟩
                        go_wp2_with (at_builtin; refine wpList_app rfl _ _ rfl base v _ vd4 (B0 ++ d) (oneL o j c) rfl rfl HG.out HB3.out hbd hvd (HLEN.out _ HOL.out) ?_; intro v6 w6 hG6; rw [List.append_assoc] at hG6)
                        go_roundw
                        case rel => exact ⟨j + 1, d ++ oneL o j c, by omega, by go_num, hG6, HDD2.out, HDL2.out⟩
                        case measure => simp [intOf]; omega
                    · have h1' : ¬ (j : Int) < (o : Int) := by omega
                      have h4' : ((j : Int) == (o : Int)) = true := by rw [beq_iff_eq]; omega
                      have h2' : ¬ (o : Int) < 3 := by omega
                      have hone : oneL o j c = seL c := by unfold oneL told; rw [if_neg (by omega), if_neg (by omega)]
                      have hq := fun w => se2_any c w (by omega)
                      rw [← hone] at hq
                      have HQ := Lib.hid hq
                      have hol2 := oneL_le o j c ⟨hz1, hz2⟩
                      have HOL := Lib.hid hol2
                      clear hq hone hjt h1 hol2
                      go_wp2_with fail
                      all_goals
                        refine (HQ.out _).mono ?_
                        rintro e w4 ⟨vd4, rfl, hvd, hbd⟩
                        go_wp2_with (at_builtin; refine wpList_app rfl _ _ rfl base v _ vd4 (B0 ++ d) (oneL o j c) rfl rfl HG.out HB3.out hbd hvd (HLEN.out _ HOL.out) ?_; intro v6 w6 hG6; rw [List.append_assoc] at hG6)
                        go_roundw
                        case rel => exact ⟨j + 1, d ++ oneL o j c, by omega, by go_num, hG6, HDD2.out, HDL2.out⟩
                        case measure => simp [intOf]; omega
                  · obtain rfl : j = t := by omega
                    clear hjt
                    have hdl3 : d = lvL z o 0 l := by
                      have hx := HDD.out
                      rw [show l.drop j = [] from List.drop_eq_nil_of_le (by have := HT.out; omega)] at hx
                      rw [← hx]
                      exact (List.append_nil _).symm
                    obtain ⟨p0, hp0⟩ : ∃ p, p = l.getD 0 0 := ⟨_, rfl⟩
                    have hg0 := HGET.out 0 ht0
                    have hc0 := HFA.out.at_ HT3.out ht0
                    have hq0 : lvLeft l = p0 + 1 - j := by unfold lvLeft; rw [← hp0, ← HT.out]
                    rw [← hp0] at hg0 hc0
                    rw [show ad1.add 0 = ad1 by simp [Addr.add]] at hc0
                    obtain ⟨q, hq⟩ : ∃ q, q = lvLeft l := ⟨_, rfl⟩
                    rw [← hq] at hq0
                    have hq1 : (p0 : Int) + 1 - j = (q : Int) := by omega
                    have hq2 : (k : Int) - j = ((k - j : Nat) : Int) := by omega
                    have hq3 : q ≤ k - j := by omega
                    have hq4 : q + j = p0 + 0 + 1 := by omega
                    obtain ⟨m2, hm2⟩ : ∃ m, m = k - j := ⟨_, rfl⟩
                    rw [← hm2] at hq2 hq3
                    have hm2i : m2 ≤ 16 := by omega
                    have HM2 := Lib.hid hm2
                    have HQ := Lib.hid hq
                    have HD3 := Lib.hid hdl3
                    have HQ4 := Lib.hid hq4
                    have HP0 := Lib.hid hp0
                    have hq16 : q ≤ 16 := by omega
                    have hqz := teL_le (x := q) (m := m2) (by omega)
                    have hBl : (B0 ++ d).length ≤ 902000 := by rw [List.length_append]; omega
                    have hjk : j < k ∨ j = k := by omega
                    clear hdl3 hp0 hg0 hq0 hq hq4 HDD
                    rcases hjk with hjk | hjk
                    all_goals
                      first
                      | (have hjk' : (j : Int) < (k : Int) := Int.ofNat_lt.2 hjk
                         have htz : teZ q m2 = teL q m2 := if_neg (by omega)
                         have HTZ := Lib.hid htz
                         have hm21 : 1 ≤ m2 := by omega
                         clear hm2 htz hjk
                         go_wp2_with fail
                         refine (te2m q m2 _ hm21 hq3 (by omega)).mono ?_
                         rintro e w4 ⟨vd4, rfl, hvd, hbd⟩
                         go_wp2_with (at_builtin; refine wpList_app rfl _ _ rfl base v _ vd4 (B0 ++ d) (teL q m2) rfl rfl HG.out HB3.out hbd hvd (by omega) ?_; intro v6 w6 hG6)
                         rw [← HTZ.out] at hG6
                         have HG6 := Lib.hid hG6
                         clear hG6 hvd hbd HTZ hjk' hm21)
                      | (have hjk' : ¬ (j : Int) < (k : Int) := by omega
                         have hG6 := HG.out
                         have htz : teZ q m2 = [] := if_pos (by omega)
                         rw [← List.append_nil (B0 ++ d), ← htz] at hG6
                         have HG6 := Lib.hid hG6
                         clear hm2 hjk htz hG6
                         go_wp2_with fail
                         clear hjk')
                    all_goals
                      obtain ⟨B1, hB1⟩ : ∃ B1, B1 = B0 ++ d ++ teZ q m2 := ⟨_, rfl⟩
                      have hqz2 : (teZ q m2).length ≤ 61 := by
                        unfold teZ
                        split
                        · simp
                        · exact hqz
                      have hB1l : B1.length ≤ 905000 := by rw [hB1, List.length_append]; omega
                      rw [← hB1] at HG6
                      have HBB := Lib.hid hB1
                      clear hB1 hqz hqz2 HG HT3 HB3 hc0 hq1 hq2 hs3 hBl hq3
                      go_loopw [0, 13, 14] (fun s0 s13 s14 wr4 => ∃ (a x : Nat) (d4 : List Bool), a + 1 ≤ j ∧ s14 = .int .i64 a ∧ s13 = .int .i64 x ∧ BGrow wp base v (B1 ++ d4) s0 wr4 ∧ d4 ++ rnL x (l.drop a) = rnL q l ∧ x + j = l.getD a 0 + a + 1 ∧ d4.length ≤ 61 * a) (fun _ _ s _ => j - (intOf s).toNat)
                      case atStart => exact ⟨0, q, [], by omega, rfl, rfl, by rw [List.append_nil]; exact HG6.out, rfl, by rw [← HP0.out]; exact HQ4.out, by simp⟩
                      case round =>
                        clear HG6
                        obtain ⟨a, x, d4, haj, rfl, rfl, hgg, hdd, hx, hdl4⟩ := hrel
                        have HG := Lib.hid hgg
                        have HT4 := Lib.hid hgg.2.1
                        have HDD := Lib.hid hdd
                        have hs4 := hgg.size
                        have HB4 := Lib.hid (Nat.le_trans HB1.out hs4)
                        clear hgg hdd
                        have ha0 : (0 : Int) ≤ (a : Int) := Int.natCast_nonneg _
                        have hx0 : (0 : Int) ≤ (x : Int) := Int.natCast_nonneg _
                        by_cases hcont : a + 1 < j ∧ 0 < x
                        · obtain ⟨h1, h2⟩ := hcont
                          have h1' : (a : Int) + 1 < (j : Int) := by omega
                          have h2' : (0 : Int) < (x : Int) := by omega
                          have hrn := rnL_get l a x (by have := HT.out; omega) h2
                          obtain ⟨p, hp⟩ : ∃ p, p = l.getD a 0 := ⟨_, rfl⟩
                          obtain ⟨p2, hp2⟩ : ∃ p, p = l.getD (a + 1) 0 := ⟨_, rfl⟩
                          have hc1 := HFA.out.at_ HT4.out (show a < j by omega)
                          have hc2 := HFA.out.at_ HT4.out h1
                          have hde := HDEC.out a h1
                          have hge := HGET.out a (by omega)
                          have hge2 := HGET.out (a + 1) h1
                          rw [← hp] at hc1 hx hrn hde hge
                          rw [← hp2] at hc2 hrn hde hge2
                          obtain ⟨r, hr⟩ : ∃ r, r = p - p2 - 1 := ⟨_, rfl⟩
                          rw [← hr] at hrn
                          have hr1 : (p : Int) - p2 - 1 = (r : Int) := by omega
                          have hr2 : r ≤ x := by omega
                          have hx16 : x ≤ 16 := by omega
                          have hr3 : (x : Int) - r = ((x - r : Nat) : Int) := by omega
                          have hx5 : (x - r) + j = p2 + (a + 1) + 1 := by omega
                          have htl3 := teL_le (x := r) (m := x) (by omega)
                          have hdd5 : (d4 ++ teL r x) ++ rnL (x - r) (l.drop (a + 1)) = rnL q l := by rw [← HDD.out, hrn, List.append_assoc]
                          have hdl5 : (d4 ++ teL r x).length ≤ 61 * (a + 1) := by rw [List.length_append]; omega
                          have hte4 := fun w n => te2n r x w n (by omega) hr2 (by omega)
                          have HTE4 := Lib.hid hte4
                          have HDD5 := Lib.hid hdd5
                          have HDL5 := Lib.hid hdl5
                          have HX5 := Lib.hid hx5
                          have HP2 := Lib.hid hp2
                          have hlen5 : (B1 ++ d4).length + (teL r x).length ≤ 100000000 := by rw [List.length_append]; omega
                          have HLEN := Lib.hid hlen5
                          have ha1t : (a : Int) < (j : Int) := by omega
                          have hp2p : (p2 : Int) < (p : Int) := by omega
                          have hpi : (p : Int) < 100 := by omega
                          have hxi : (x : Int) < 100 := by omega
                          rw [show ad1.add (a + 1) = ⟨ad1.block, ad1.off + (a + 1), none⟩ by simp [Addr.add]] at hc2
                          have hv1 : IntKind.i64.wrap ((a : Int) + 1) = (a : Int) + 1 := wr_in (by omega)
                          have hv2 : ((a : Int) + 1).toNat = a + 1 := by omega
                          have hv3 : (0 : Int) ≤ (a : Int) + 1 := by omega
                          have hv4 : IntKind.i64.wrap ((p : Int) - p2) = (p : Int) - p2 := wr_in (by omega)
                          have hv5 : IntKind.i64.wrap ((p : Int) - p2 - 1) = (r : Int) := by rw [hr1]; exact wr_in (by omega)
                          clear hrn hp hp2 hde hge hge2 hr hr2 hx5 htl3 hdd5 hdl5 hte4 hx h1 h2 hlen5
                          go_wp2_with fail
                          go_quiet (fail)
                          clear hv1 hv2 hv3 hv4 hv5
                          go_wp2_with fail
                          refine (HTE4.out _ _).mono ?_
                          rintro e w7 ⟨vd7, rfl, hvd, hbd⟩
                          go_wp2_with (at_builtin; refine wpList_app rfl _ _ rfl base v _ vd7 (B1 ++ d4) (teL r x) rfl rfl HG.out HB4.out hbd hvd HLEN.out ?_; intro v8 w8 hG8; rw [List.append_assoc] at hG8)
                          go_roundw
                          case rel => exact ⟨a + 1, x - r, d4 ++ teL r x, by omega, by go_num, rfl, hG8, HDD5.out, by rw [← HP2.out]; exact HX5.out, HDL5.out⟩
                          case measure => simp [intOf]; omega
                        · have hcont' : ¬ (a : Int) + 1 < (j : Int) ∨ ((a : Int) + 1 < (j : Int) ∧ ¬ (0 : Int) < (x : Int)) := by omega
                          have hd4 : d4 = rnL q l := by
                            have hx := HDD.out
                            rw [rnL_end l a x (by have := HT.out; omega), List.append_nil] at hx
                            exact hx
                          have hfin := HG.out
                          have e1 : B1 ++ d4 = b ++ lvPut z k := by
                            rw [HBB.out, HB0.out, HD3.out, hd4, HQ.out, HM2.out, HL.out, if_neg (by omega), HLO.out]
                            simp only [List.append_assoc]
                          rw [e1, ← HE.out.2] at hfin
                          clear e1
                          have HFIN := Lib.hid (HPOST.out _ _ _ hfin)
                          clear hcont hd4 hfin hx
                          rcases hcont' with h1 | ⟨h1, h2⟩
                          all_goals
                            go_wp2_with fail
                            go_ret2
                            exact ⟨_, by rw [HE.out.1]; rfl, HFIN.out⟩
        · have e1 : ((j + 1 : Nat) : Int) - 1 = (j : Int) := by omega
          rw [e1]
          have hjk : j < k := by omega
          obtain ⟨ad, rfl, hab, hc⟩ := Rd.at_ HZ.out.ri hjk
          have hc1 : wr.cell? (ad.add j) = some (.int .i64 (z j)) := (hb.cell (by rw [block_add]; exact hab)).trans hc
          have hs := hb.size
          have hlen : l.length + (atL z (j + 1)).length = (atL z k).length := by rw [← List.length_append, hl]
          have hkl := atL_len z k
          have hj0 : (0 : Int) ≤ (j : Int) := Int.natCast_nonneg _
          have hjk' : (j : Int) < (k : Int) := by omega
          clear e1 ho hb hl hc hab
          by_cases hz : z j = 0
          · have hz' : (z j != 0) = false := by simp [hz]
            have hx : l ++ atL z j = atL z k := by rw [← HL.out, show atL z (j + 1) = atL z j from if_pos hz]
            have HX := Lib.hid hx
            clear hx hz hlen
            go_wp2_with fail
            go_roundw
            case rel => exact ⟨j, l, by omega, by go_num, HX.out, hll, HO.out, HB.out⟩
            case measure => simp [intOf]
          · have hz' : (z j != 0) = true := by simp [hz]
            have hx : atL z (j + 1) = j :: atL z j := if_neg hz
            have hlen2 : l.length + 1 ≤ 16 := by rw [hx] at hlen; simp only [List.length_cons] at hlen; omega
            have hx2 : (l ++ [j]) ++ atL z j = atL z k := by rw [← HL.out, hx]; simp
            have HX := Lib.hid hx2
            clear hx hx2 hz hlen
            go_wp2_with (at_builtin; refine wpList_append_own _ rfl _ _ 22 rfl w.heap.size 3 i0 (.int .i64 0) 1 8 Try.underlying22 hi hz0 hz1 hz2 rfl (by decide) _ l.length (natV l) rfl (HO.out.alloc _) ⟨wr.heap.size, 0, none⟩ 1 1 [.int .i64 j] rfl rfl ?c1 ?c2 (by unfold maxLen; omega) (by omega) (by simp; omega) ?_)
            case c1 =>
              intro i u hi
              rw [add_new]
              match i, hi with
              | 0, hi => simp at hi; subst hi; simp
            case c2 => intro u hu; simp at hu; subst hu; rfl
            intro v1 w1 hown1 hg1 _
            have hb1 : Below w.heap.size w w1 := (HB.out.alloc hs _).grown hg1 (by simp; omega) (fun i hi => (HO.out.lt i hi).1)
            have HO1 := Lib.hid hown1
            have HB1 := Lib.hid hb1
            clear hown1 hg1 hb1
            go_wp2_with fail
            go_roundw
            case rel => exact ⟨j, l ++ [j], by omega, by go_num, HX.out, by simp; omega, by rw [natV_append, List.length_append]; exact HO1.out, HB1.out⟩
            case measure => simp [intOf]
    · have HE := Lib.hid (lvE_far hs hok)
      have hok' : lvOk z k = false := Bool.eq_false_iff.2 hok
      clear hok
      go_enter Try.func13, Try.ntmps13
      go_wp2_with fail
      refine (size2_any k _).mono ?_
      rintro e w' ⟨rfl, rfl⟩
      rw [hs]
      go_wp2_with fail
      refine (within_any A k cp z _ HZ.out.ri hk16).mono ?_
      rintro e w' ⟨rfl, rfl⟩
      rw [hok']
      clear hs hok'
      go_wp2_with fail
      go_ret2
      exact ⟨v, by rw [HE.out.1]; rfl, by rw [HE.out.2, List.append_nil]; exact BGrow.refl HW.out⟩
  · have HE := Lib.hid (lvE_no (z := z) hs)
    have hs' : sizeOk k = false := by simpa using hs
    clear hs
    go_enter Try.func13, Try.ntmps13
    go_wp2_with fail
    refine (size2_any k _).mono ?_
    rintro e w' ⟨rfl, rfl⟩
    rw [hs']
    clear hs'
    go_wp2_with fail
    go_ret2
    exact ⟨v, by rw [HE.out.1]; rfl, by rw [HE.out.2, List.append_nil]; exact BGrow.refl HW.out⟩
end Go.Proofs.Ytocooplmfkeepaa
