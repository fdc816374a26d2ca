/- Blocks of coefficients: the program's Put. -/
import Derived.Test.YtocooplmfkeepaaLevA
namespace Go.Proofs.Ytocooplmfkeepaa
open Go.RowKit
set_option linter.unusedVariables false
set_option linter.unusedSimpArgs false
attribute [local go_sem] ite_max ite_min

theorem Wr.old {w : World} {base g : Nat} {v : Value} {b : List Bool} (h : Wr w base g v b) {k : Nat} (hk : WS g v k) : k < w.heap.size := by
  obtain ⟨c, hkk, ho⟩ := h
  rcases hk with rfl | hk
  · exact hkk.lt
  · exact (ho.lt k hk).2
/-- a row that was made behind the Writer's -/
theorem Far.new {w w1 : World} {base g : Nat} {v u : Value} {b : List Bool} {l : List Nat} (h : Wr w base g v b) (ho : w1.ownsRow w.heap.size 3 1 u l.length (natV l)) :
    ∃ A c, u = .slice A l.length c ∧ Far w1 (WS g v) A l.length (fun i => ((l.getD i 0 : Nat) : Int)) := by
  rcases ho.2 with ⟨rfl, h0⟩ | ⟨g', cap, cur, rfl, hb, hh, hnc, hcm, _, _⟩
  · rw [h0]
    exact ⟨none, 0, rfl, fun hn => absurd hn (by omega)⟩
  · refine ⟨_, _, rfl, fun hn => ⟨⟨g', 0, none⟩, rfl, ?_, fun q => ?_, fun k hk => ?_⟩⟩
    · rcases Nat.lt_or_ge g' w1.heap.size with h1 | h1
      · exact h1
      · rw [Array.getElem?_eq_none h1] at hh; cases hh
    · have := h.old q
      simp only at this
      omega
    · rw [add_new, ho.cellAt k (by omega)]
      unfold natV
      rw [List.getElem?_map, List.getElem?_eq_getElem hk]
      show some _ = some (Value.int .i64 ((l.getD k 0 : Nat) : Int))
      rw [List.getD_eq_getElem?_getD, List.getElem?_eq_getElem hk]
      rfl
theorem isOne_eq (x : Int) : ((x == 1) = true ∨ ((x == 1) = false ∧ (x == -1) = true)) ↔ isOne x = true := by
  unfold isOne
  rw [decide_eq_true_iff, beq_iff_eq, beq_eq_false_iff_ne, beq_iff_eq]
  omega
theorem isOne_no {x : Int} (h : isOne x = false) : (x == 1) = false ∧ (x == -1) = false := by
  unfold isOne at h
  rw [decide_eq_false_iff_not] at h
  rw [beq_eq_false_iff_ne, beq_eq_false_iff_ne]
  omega
theorem Wr.drewN {w : World} {base g : Nat} {v : Value} {b : List Bool} (h : Wr w base g v b) (n : Nat) : Wr (w.drewN n) base g v b := h

theorem lte_drew (base g : Nat) (v : Value) (b : List Bool) (x most : Nat) (w : World) (n : Nat) (h : Wr w base g v b) (hb : b.length ≤ 1000000) (h1 : x ≤ most) (h2 : most ≤ 2147483646) (hbs : base ≤ w.heap.size) :
    Calls Try.prog 36 #[.pointer (some ⟨g, 0, none⟩), .int .i64 x, .int .i64 most] (w.drewN n) fun e w' => e = .returned (.tuple #[]) ∧ PutPost w base g v (b ++ teZ x most) w' :=
  (lte_any base g v b x most (w.drewN n) (h.drewN n) hb h1 h2 hbs).mono fun e w' q => ⟨q.1, PutPost.then ((Touch.refl _ _).drewN n) (.inl rfl) q.2⟩

set_option maxRecDepth 100000 in
set_option maxHeartbeats 12800000 in
theorem lput_any (base g : Nat) (v : Value) (b : List Bool) (A : Option Addr) (k cp : Nat) (z : Nat → Int) (w : World) (h : Wr w base g v b) (hb : b.length ≤ 900000) (hbs : base ≤ w.heap.size) (hz : Far w (WS g v) A k z) :
    Calls Try.prog 12 #[.pointer (some ⟨g, 0, none⟩), .slice A k cp] w fun e w' => e = .returned (.int .i64 (lvE z k)) ∧ PutPost w base g v (b ++ lvB z k) w' := by
  have HW := Lib.hid h
  have HZ := Lib.hid hz
  have HBS := Lib.hid hbs
  clear h hz hbs
  by_cases hs : sizeOk k = true
  · have hk16 := sizeOk_le hs
    obtain ⟨hk4, hk16⟩ := hk16
    go_enter Try.func12, Try.ntmps12
    go_wp2_with fail
    refine (size_any k _).mono ?_
    rintro e w' ⟨rfl, rfl⟩
    rw [hs]
    have HSZ := Lib.hid hs
    clear hs
    go_wp2_with fail
    go_loopw [25] (fun t wr => ∃ i : Nat, i ≤ k ∧ t = .int .i64 i ∧ (∀ j, j < i → -32767 ≤ z j ∧ z j ≤ 32767) ∧ wr = w) (fun t _ => k - (intOf t).toNat)
    case atStart => exact ⟨0, Nat.zero_le _, rfl, fun j hj => absurd hj (by omega), rfl⟩
    case round =>
      obtain ⟨i, hi, rfl, hall, rfl⟩ := hrel
      have HALL := Lib.hid hall
      clear hall
      by_cases hlt : i < k
      · have hlt' : (i : Int) < (k : Int) := by omega
        have hi0 : (0 : Int) ≤ (i : Int) := Int.natCast_nonneg _
        obtain ⟨ad, rfl, hab, hc⟩ := Rd.at_ HZ.out.ri hlt
        have HC := Lib.hid hc
        clear hab
        by_cases hr : -32767 ≤ z i ∧ z i ≤ 32767
        · obtain ⟨hr1, hr2⟩ := hr
          have HR := Lib.hid (And.intro hr1 hr2)
          have hr3 : ¬ z i < -32767 := by omega
          have hr4 : ¬ 32767 < z i := by omega
          go_wp2_with fail
          go_roundw
          case rel => exact ⟨i + 1, by omega, by go_num, fun j hj => by
            by_cases hji : j = i
            · rw [hji]; exact HR.out
            · exact HALL.out j (by omega), trivial⟩
          case measure => simp [intOf]; omega
        · have hno : ¬ lvOk z k = true := fun q => hr ((lvOk_iff z k).1 q i hlt)
          have HE := Lib.hid (lvE_far HSZ.out hno)
          have hr' : z i < -32767 ∨ (¬ z i < -32767 ∧ 32767 < z i) := by omega
          clear hno hr
          rcases hr' with hr3 | ⟨hr3, hr4⟩
          all_goals
            go_wp2_with fail
            go_ret
            exact ⟨by rw [HE.out.1]; rfl, by rw [HE.out.2, List.append_nil]; exact PutPost.same HW.out⟩
      · obtain rfl : i = k := by omega
        have hok : lvOk z i = true := (lvOk_iff z i).2 HALL.out
        have HE := Lib.hid (lvE_yes HSZ.out hok)
        have HOK := Lib.hid hok
        clear hok
        clear hlt
        go_wp2_with fail
        refine (places_any A i cp z _ HZ.out.ri hk16).mono ?_
        rintro e w1 ⟨va, rfl, ho, hbl⟩
        have hwr1 := HW.out.go hbl
        have hfz := HZ.out.go hbl
        obtain ⟨At, ct, rfl, hfa⟩ := Far.new HW.out ho
        have hget := atL_get z i
        have hdec := atL_dec z i
        have htl := atL_len z i
        have HL := Lib.hid (show lvPut z i = teL (atL z i).length i ++ if (atL z i).length = 0 then [] else
            teL (lvOnes z (atL z i)) (min 3 (atL z i).length) ++ lvL z (lvOnes z (atL z i)) 0 (atL z i) ++ teZ (lvLeft (atL z i)) (i - (atL z i).length) ++ rnL (lvLeft (atL z i)) (atL z i) from rfl)
        obtain ⟨l, hl⟩ : ∃ l, l = atL z i := ⟨_, rfl⟩
        rw [← hl] at hfa hget hdec htl HL ho
        obtain ⟨t, ht⟩ : ∃ t, t = l.length := ⟨_, rfl⟩
        rw [← ht] at hfa hget hdec htl HL
        rw [← hl, ← ht]
        have hbs1 := hbl.size
        have hbs2 : base ≤ w1.heap.size := by have := HBS.out; omega
        have hte := lte_any base g v b t i w1 hwr1 (by omega) htl (by omega) hbs2
        have hpost : ∀ (c : List Bool) (wx : World), PutPost w1 base g v c wx → PutPost wr base g v c wx := fun c wx q => PutPost.then (Touch.of_new hbl) (.inl rfl) q
        have HT := Lib.hid ht
        have HPOST := Lib.hid hpost
        have HTE := Lib.hid hte
        have HFA := Lib.hid hfa
        have HFZ := Lib.hid hfz
        have HGET := Lib.hid hget
        have HDEC := Lib.hid hdec
        have HB1 := Lib.hid hbs2
        have hteq : teZ t i = teL t i := if_neg (by omega)
        have HTEQ := Lib.hid hteq
        have hzr := (lvOk_iff z i).1 HOK.out
        have HZR := Lib.hid hzr
        clear hl ht ho hbl hwr1 hfz hfa hget hdec hbs1 hbs2 hte hpost hteq HZ HW HBS hzr HSZ HALL HOK
        go_wp2_with fail
        refine HTE.out.mono ?_
        rintro e w2 ⟨rfl, hp⟩
        rw [HTEQ.out] at hp
        clear HTE
        rcases Nat.eq_zero_or_pos t with ht0 | ht0
        · subst ht0
          have hq : PutPost wr base g v (b ++ lvB z i) w2 := by
            rw [HE.out.2, HL.out, if_pos rfl, List.append_nil]
            exact HPOST.out _ _ hp
          have HQ := Lib.hid hq
          clear hp hq
          go_wp2_with fail
          go_ret
          exact ⟨by rw [HE.out.1]; rfl, HQ.out⟩
        · have ht1 : ((t : Int) == 0) = false := by rw [beq_eq_false_iff_ne]; omega
          obtain ⟨v1, hw2, ht2, hn2⟩ := hp
          obtain ⟨ad1, rfl⟩ := HFA.out.some_ ht0
          obtain ⟨ad2, rfl⟩ := HFZ.out.some_ (by omega)
          have HW2 := Lib.hid hw2
          have HT2 := Lib.hid ht2
          have HN2 := Lib.hid hn2
          clear hw2 ht2 hn2
          go_wp2_with fail
          have hmin : min (3 : Int) (t : Int) = ((min 3 t : Nat) : Int) := by omega
          obtain ⟨mm, hmm⟩ : ∃ mm, mm = min 3 t := ⟨_, rfl⟩
          have hmm3 : mm ≤ 3 := by omega
          have hmmt : mm ≤ t := by omega
          rw [← hmm] at hmin HL
          have HMM := Lib.hid hmm
          clear hmm
          go_loopw [8] (fun s wr2 => ∃ o : Nat, o ≤ mm ∧ s = .int .i64 o ∧ (∀ j, j < o → isOne (z (l.getD j 0)) = true) ∧ wr2 = w2) (fun s _ => mm - (intOf s).toNat)
          case atStart => exact ⟨0, Nat.zero_le _, rfl, fun j hj => absurd hj (by omega), rfl⟩
          case round =>
            obtain ⟨o, ho, rfl, hones, rfl⟩ := hrel
            have HON := Lib.hid hones
            clear hones
            have ho0 : (0 : Int) ≤ (o : Int) := Int.natCast_nonneg _
            have hw : (o < mm ∧ isOne (z (l.getD o 0)) = true) ∨ (o < mm ∧ isOne (z (l.getD o 0)) = false) ∨ o = mm := by
              cases hq : isOne (z (l.getD o 0))
              · by_cases h : o < mm
                · exact .inr (.inl ⟨h, rfl⟩)
                · exact .inr (.inr (by omega))
              · by_cases h : o < mm
                · exact .inl ⟨h, rfl⟩
                · exact .inr (.inr (by omega))
            rcases hw with hcase | hcase | hcase
            · obtain ⟨hom, hone⟩ := hcase
              have hom' : (o : Int) < (mm : Int) := by omega
              have hot' : (o : Int) < (t : Int) := by omega
              obtain ⟨p, hp⟩ : ∃ p, p = l.getD o 0 := ⟨_, rfl⟩
              have hc1 := HFA.out.at_ HT2.out (show o < t by omega)
              have hpk := (HGET.out o (by omega)).2.1
              rw [← hp] at hc1 hpk hone
              have hc2 := HFZ.out.at_ HT2.out hpk
              have hpk' : (p : Int) < (i : Int) := by omega
              have hp0 : (0 : Int) ≤ (p : Int) := Int.natCast_nonneg _
              have HP := Lib.hid hp
              have HONE := Lib.hid hone
              clear hp hom
              have hq := (isOne_eq (z p)).2 hone
              have hnx : ∀ j, j < o + 1 → isOne (z (l.getD j 0)) = true := fun j hj => by
                by_cases hjo : j = o
                · rw [hjo, ← HP.out]; exact HONE.out
                · exact HON.out j (by omega)
              have HNX := Lib.hid hnx
              clear hone hnx
              rcases hq with h1 | ⟨h1, h2⟩
              all_goals
                go_wp2_with fail
                go_roundw
                case rel => exact ⟨o + 1, by omega, by go_num, HNX.out, trivial⟩
                case measure => simp [intOf]; omega
            all_goals
              have hlo : lvOnes z l = o := by
                unfold lvOnes
                rw [← HT.out, ← HMM.out]
                exact onesN_of z mm l o (by omega) (by have := HT.out; omega) HON.out (by first | exact .inr (.inr hcase.2) | exact .inl hcase)
              have HLO := Lib.hid hlo
              clear hlo
              first
              | (have hone := hcase.2
                 have hom := hcase.1
                 clear hcase
                 have hom' : (o : Int) < (mm : Int) := by omega
                 have hot' : (o : Int) < (t : Int) := by omega
                 obtain ⟨p, hp⟩ : ∃ p, p = l.getD o 0 := ⟨_, rfl⟩
                 have hc1 := HFA.out.at_ HT2.out (show o < t by omega)
                 have hpk := (HGET.out o (by omega)).2.1
                 rw [← hp] at hc1 hpk hone
                 have hc2 := HFZ.out.at_ HT2.out hpk
                 have hpk' : (p : Int) < (i : Int) := by omega
                 have hp0 : (0 : Int) ≤ (p : Int) := Int.natCast_nonneg _
                 obtain ⟨h1, h2⟩ := isOne_no hone
                 clear hp hom hone
                 go_wp2_with fail
                 clear h1 h2 hc1 hc2 hpk' hp0 hpk)
              | (have hom' : ¬ (o : Int) < (mm : Int) := by omega
                 clear hcase
                 go_wp2_with fail)
            all_goals
              have htl1 := teL_le (x := t) (m := i) (by omega)
              have htl2 := teL_le (x := o) (m := mm) (by omega)
              have hteq2 : teZ o mm = teL o mm := if_neg (by omega)
              have hte2 := lte_any base g v1 (b ++ teL t i) o mm _ HW2.out (by rw [List.length_append]; omega) ho (by omega) (by have := HT2.out.size; have := HB1.out; omega)
              rw [hteq2] at hte2
              have HTE2 := Lib.hid hte2
              clear hteq2 hte2
              refine HTE2.out.mono ?_
              rintro e w3 ⟨rfl, hp3⟩
              have hp3' : PutPost w1 base g v (b ++ teL t i ++ teL o mm) w3 := PutPost.then HT2.out HN2.out hp3
              obtain ⟨B0, hB0⟩ : ∃ B0, B0 = b ++ teL t i ++ teL o mm := ⟨_, rfl⟩
              have hB0l : B0.length ≤ 900200 := by rw [hB0, List.length_append, List.length_append]; omega
              rw [← hB0] at hp3'
              have HP3 := Lib.hid hp3'
              have HB0 := Lib.hid hB0
              clear hp3 hp3' hB0 htl1 htl2 HTE2 HW2 HT2 HN2 HON
              go_wp2_with fail
              go_loopw [82] (fun s wr3 => ∃ (j : Nat) (d : List Bool), j ≤ t ∧ s = .int .i64 j ∧ PutPost w1 base g v (B0 ++ d) wr3 ∧ d ++ lvL z o j (l.drop j) = lvL z o 0 l ∧ d.length ≤ 61 * j) (fun s _ => t - (intOf s).toNat)
              case atStart => exact ⟨0, [], Nat.zero_le _, rfl, by rw [List.append_nil]; exact HP3.out, rfl, by simp⟩
              case round =>
                clear HP3
                obtain ⟨j, d, hj, rfl, hpp, hdd, hdl⟩ := hrel
                obtain ⟨v3, hw3, ht3, hn3⟩ := hpp
                have HW3 := Lib.hid hw3
                have HT3 := Lib.hid ht3
                have HN3 := Lib.hid hn3
                have HDD := Lib.hid hdd
                have hs3 := ht3.size
                clear hw3 ht3 hn3 hdd
                have hj0 : (0 : Int) ≤ (j : Int) := Int.natCast_nonneg _
                by_cases hjt : j < t
                · have hjt' : (j : Int) < (t : Int) := by omega
                  obtain ⟨p, hp⟩ : ∃ p, p = l.getD j 0 := ⟨_, rfl⟩
                  have hc1 := HFA.out.at_ HT3.out (show j < t by omega)
                  have hpk := (HGET.out j (by omega)).2
                  have hlg := lvL_get z o l j (by have := HT.out; omega) j
                  rw [← hp] at hc1 hpk hlg
                  obtain ⟨hpk, hz0⟩ := hpk
                  have hc2 := HFZ.out.at_ HT3.out hpk
                  have hzr := HZR.out p hpk
                  have hpk' : (p : Int) < (i : Int) := by omega
                  have hp0 : (0 : Int) ≤ (p : Int) := Int.natCast_nonneg _
                  generalize z p = c at hc2 hlg hz0 hzr
                  have hdd2 : (d ++ oneL o j c) ++ lvL z o (j + 1) (l.drop (j + 1)) = lvL z o 0 l := by rw [← HDD.out, hlg, List.append_assoc]
                  have hol := oneL_le o j c hzr
                  have HDD2 := Lib.hid hdd2
                  have hdl2 : (d ++ oneL o j c).length ≤ 61 * (j + 1) := by rw [List.length_append]; omega
                  have HDL2 := Lib.hid hdl2
                  obtain ⟨hz1, hz2⟩ := hzr
                  have hBl : (B0 ++ d).length ≤ 1000000 := by rw [List.length_append]; omega
                  have HBL := Lib.hid hBl
                  clear hp hlg hdd2 hol hdl2 hBl
                  have hw5 : (j < o ∧ c < 0) ∨ (j < o ∧ 0 < c) ∨ (j = o ∧ o < 3 ∧ 0 < c) ∨ (j = o ∧ o < 3 ∧ c < 0) ∨ (o < j) ∨ (j = o ∧ 3 ≤ o) := by omega
                  rcases hw5 with ⟨h1, h2⟩ | ⟨h1, h2⟩ | ⟨h1, h2, h3⟩ | ⟨h1, h2, h3⟩ | h1 | ⟨h1, h2⟩
                  · have h1' : (j : Int) < (o : Int) := by omega
                    have hone : oneL o j c = dig 1 1 := by unfold oneL; rw [if_pos h1, decide_eq_true h2]; rfl
                    have hq := bits_yes base g v3 (B0 ++ d) 1 1 _ HW3.out HBL.out (by omega) (by omega) (by have := HB1.out; omega)
                    clear h1
                    rw [← hone] at hq
                    have HQ := Lib.hid hq
                    clear hq hone hjt
                    go_wp2_with fail
                    refine HQ.out.mono ?_
                    rintro e w4 ⟨rfl, hp4⟩
                    have hp5 : PutPost w1 base g v (B0 ++ (d ++ oneL o j c)) w4 := by rw [← List.append_assoc]; exact PutPost.then HT3.out HN3.out hp4
                    have HP5 := Lib.hid hp5
                    clear hp4 hp5 HQ
                    go_wp2_with fail
                    go_roundw
                    case rel => exact ⟨j + 1, d ++ oneL o j c, by omega, by go_num, HP5.out, HDD2.out, HDL2.out⟩
                    case measure => simp [intOf]; omega
                  · have h1' : (j : Int) < (o : Int) := by omega
                    have h2' : ¬ c < 0 := by omega
                    have hone : oneL o j c = dig 0 1 := by unfold oneL; rw [if_pos h1, decide_eq_false h2']; rfl
                    have hq := bits_yes base g v3 (B0 ++ d) 0 1 _ HW3.out HBL.out (by omega) (by omega) (by have := HB1.out; omega)
                    clear h1
                    rw [← hone] at hq
                    have HQ := Lib.hid hq
                    clear hq hone hjt
                    go_wp2_with fail
                    refine HQ.out.mono ?_
                    rintro e w4 ⟨rfl, hp4⟩
                    have hp5 : PutPost w1 base g v (B0 ++ (d ++ oneL o j c)) w4 := by rw [← List.append_assoc]; exact PutPost.then HT3.out HN3.out hp4
                    have HP5 := Lib.hid hp5
                    clear hp4 hp5 HQ
                    go_wp2_with fail
                    go_roundw
                    case rel => exact ⟨j + 1, d ++ oneL o j c, by omega, by go_num, HP5.out, HDD2.out, HDL2.out⟩
                    case measure => simp [intOf]; omega
                  · have h1' : ¬ (j : Int) < (o : Int) := by omega
                    have h4' : ((j : Int) == (o : Int)) = true := by rw [beq_iff_eq]; omega
                    have h2' : (o : Int) < 3 := by omega
                    have hone : oneL o j c = seL (c - 1) := by unfold oneL told near; rw [if_neg (by omega), if_pos ⟨h1, h2⟩, if_pos h3]
                    have hq := se_yes base g v3 (B0 ++ d) (c - 1) _ HW3.out HBL.out (by omega) (by omega) (by have := HB1.out; omega)
                    clear h1
                    rw [← hone] at hq
                    have HQ := Lib.hid hq
                    clear hq hone hjt
                    go_wp2_with fail
                    refine HQ.out.mono ?_
                    rintro e w4 ⟨rfl, hp4⟩
                    have hp5 : PutPost w1 base g v (B0 ++ (d ++ oneL o j c)) w4 := by rw [← List.append_assoc]; exact PutPost.then HT3.out HN3.out hp4
                    have HP5 := Lib.hid hp5
                    clear hp4 hp5 HQ
                    go_wp2_with fail
                    go_roundw
                    case rel => exact ⟨j + 1, d ++ oneL o j c, by omega, by go_num, HP5.out, HDD2.out, HDL2.out⟩
                    case measure => simp [intOf]; omega
                  · have h1' : ¬ (j : Int) < (o : Int) := by omega
                    have h4' : ((j : Int) == (o : Int)) = true := by rw [beq_iff_eq]; omega
                    have h2' : (o : Int) < 3 := by omega
                    have h3' : ¬ 0 < c := by omega
                    have hone : oneL o j c = seL (c + 1) := by unfold oneL told near; rw [if_neg (by omega), if_pos ⟨h1, h2⟩, if_neg h3']
                    have hq := se_yes base g v3 (B0 ++ d) (c + 1) _ HW3.out HBL.out (by omega) (by omega) (by have := HB1.out; omega)
                    clear h1
                    rw [← hone] at hq
                    have HQ := Lib.hid hq
                    clear hq hone hjt
                    go_wp2_with fail
                    refine HQ.out.mono ?_
                    rintro e w4 ⟨rfl, hp4⟩
                    have hp5 : PutPost w1 base g v (B0 ++ (d ++ oneL o j c)) w4 := by rw [← List.append_assoc]; exact PutPost.then HT3.out HN3.out hp4
                    have HP5 := Lib.hid hp5
                    clear hp4 hp5 HQ
                    go_wp2_with fail
                    go_roundw
                    case rel => exact ⟨j + 1, d ++ oneL o j c, by omega, by go_num, HP5.out, HDD2.out, HDL2.out⟩
                    case measure => simp [intOf]; omega
                  · have h1' : ¬ (j : Int) < (o : Int) := by omega
                    have h4' : ((j : Int) == (o : Int)) = false := by rw [beq_eq_false_iff_ne]; omega
                    have hone : oneL o j c = seL c := by unfold oneL told; rw [if_neg (by omega), if_neg (by omega)]
                    have hq := se_yes base g v3 (B0 ++ d) c _ HW3.out HBL.out (by omega) (by omega) (by have := HB1.out; omega)
                    clear h1
                    rw [← hone] at hq
                    have HQ := Lib.hid hq
                    clear hq hone hjt
                    go_wp2_with fail
                    refine HQ.out.mono ?_
                    rintro e w4 ⟨rfl, hp4⟩
                    have hp5 : PutPost w1 base g v (B0 ++ (d ++ oneL o j c)) w4 := by rw [← List.append_assoc]; exact PutPost.then HT3.out HN3.out hp4
                    have HP5 := Lib.hid hp5
                    clear hp4 hp5 HQ
                    go_wp2_with fail
                    go_roundw
                    case rel => exact ⟨j + 1, d ++ oneL o j c, by omega, by go_num, HP5.out, HDD2.out, HDL2.out⟩
                    case measure => simp [intOf]; omega
                  · have h1' : ¬ (j : Int) < (o : Int) := by omega
                    have h4' : ((j : Int) == (o : Int)) = true := by rw [beq_iff_eq]; omega
                    have h2' : ¬ (o : Int) < 3 := by omega
                    have hone : oneL o j c = seL c := by unfold oneL told; rw [if_neg (by omega), if_neg (by omega)]
                    have hq := se_yes base g v3 (B0 ++ d) c _ HW3.out HBL.out (by omega) (by omega) (by have := HB1.out; omega)
                    clear h1
                    rw [← hone] at hq
                    have HQ := Lib.hid hq
                    clear hq hone hjt
                    go_wp2_with fail
                    refine HQ.out.mono ?_
                    rintro e w4 ⟨rfl, hp4⟩
                    have hp5 : PutPost w1 base g v (B0 ++ (d ++ oneL o j c)) w4 := by rw [← List.append_assoc]; exact PutPost.then HT3.out HN3.out hp4
                    have HP5 := Lib.hid hp5
                    clear hp4 hp5 HQ
                    go_wp2_with fail
                    go_roundw
                    case rel => exact ⟨j + 1, d ++ oneL o j c, by omega, by go_num, HP5.out, HDD2.out, HDL2.out⟩
                    case measure => simp [intOf]; omega
                · obtain rfl : j = t := by omega
                  clear hjt
                  have hdl3 : d = lvL z o 0 l := by
                    have hx := HDD.out
                    rw [show l.drop j = [] from List.drop_eq_nil_of_le (by have := HT.out; omega)] at hx
                    rw [← hx]
                    exact (List.append_nil _).symm
                  obtain ⟨p0, hp0⟩ : ∃ p, p = l.getD 0 0 := ⟨_, rfl⟩
                  have hg0 := HGET.out 0 ht0
                  have hc0 := HFA.out.at_ HT3.out ht0
                  have hq0 : lvLeft l = p0 + 1 - j := by unfold lvLeft; rw [← hp0, ← HT.out]
                  rw [← hp0] at hg0 hc0
                  rw [show ad1.add 0 = ad1 by simp [Addr.add]] at hc0
                  obtain ⟨q, hq⟩ : ∃ q, q = lvLeft l := ⟨_, rfl⟩
                  rw [← hq] at hq0
                  have hq1 : (p0 : Int) + 1 - j = (q : Int) := by omega
                  have hq2 : (i : Int) - j = ((i - j : Nat) : Int) := by omega
                  have hq3 : q ≤ i - j := by omega
                  have hq4 : q + j = p0 + 0 + 1 := by omega
                  obtain ⟨m2, hm2⟩ : ∃ m, m = i - j := ⟨_, rfl⟩
                  rw [← hm2] at hq2 hq3
                  have hm2i : m2 ≤ 16 := by omega
                  have hte3 := lte_any base g v3 (B0 ++ d) q m2 _ HW3.out (by rw [List.length_append]; omega) hq3 (by omega) (by have := HB1.out; omega)
                  have HTE3 := Lib.hid hte3
                  have HM2 := Lib.hid hm2
                  have HQ := Lib.hid hq
                  have HD3 := Lib.hid hdl3
                  have HQ4 := Lib.hid hq4
                  have HP0 := Lib.hid hp0
                  have hq16 : q ≤ 16 := by omega
                  have hqz : (teZ q m2).length ≤ 61 := by
                    unfold teZ
                    split
                    · simp
                    · exact teL_le (by omega)
                  clear hdl3 hp0 hg0 hq0 hq hm2 hte3 hq3 hq4 HDD
                  go_wp2_with fail
                  refine HTE3.out.mono ?_
                  rintro e w5 ⟨rfl, hp5⟩
                  have hp5' : PutPost w1 base g v (B0 ++ d ++ teZ q m2) w5 := PutPost.then HT3.out HN3.out hp5
                  obtain ⟨B1, hB1⟩ : ∃ B1, B1 = B0 ++ d ++ teZ q m2 := ⟨_, rfl⟩
                  have hB1l : B1.length ≤ 905000 := by rw [hB1, List.length_append, List.length_append]; omega
                  rw [← hB1] at hp5'
                  have HP5 := Lib.hid hp5'
                  have HBB := Lib.hid hB1
                  clear hp5 hp5' hB1 HTE3 HT3 HN3 HW3 hc0 hq1 hq2 hqz
                  go_wp2_with fail
                  go_loopw [12, 13] (fun s12 s13 wr4 => ∃ (a x : Nat) (d4 : List Bool), a + 1 ≤ j ∧ s13 = .int .i64 a ∧ s12 = .int .i64 x ∧ PutPost w1 base g v (B1 ++ d4) wr4 ∧ d4 ++ rnL x (l.drop a) = rnL q l ∧ x + j = l.getD a 0 + a + 1 ∧ d4.length ≤ 61 * a) (fun _ s _ => j - (intOf s).toNat)
                  case atStart => exact ⟨0, q, [], by omega, rfl, rfl, by rw [List.append_nil]; exact HP5.out, rfl, by rw [← HP0.out]; exact HQ4.out, by simp⟩
                  case round =>
                    clear HP5
                    obtain ⟨a, x, d4, haj, rfl, rfl, hpp, hdd, hx, hdl4⟩ := hrel
                    obtain ⟨v4, hw4, ht4, hn4⟩ := hpp
                    have HW4 := Lib.hid hw4
                    have HT4 := Lib.hid ht4
                    have HN4 := Lib.hid hn4
                    have HDD := Lib.hid hdd
                    have hs4 := ht4.size
                    clear hw4 ht4 hn4 hdd
                    have ha0 : (0 : Int) ≤ (a : Int) := Int.natCast_nonneg _
                    have hx0 : (0 : Int) ≤ (x : Int) := Int.natCast_nonneg _
                    by_cases hcont : a + 1 < j ∧ 0 < x
                    · obtain ⟨h1, h2⟩ := hcont
                      have h1' : (a : Int) + 1 < (j : Int) := by omega
                      have h2' : (0 : Int) < (x : Int) := by omega
                      have hrn := rnL_get l a x (by have := HT.out; omega) h2
                      obtain ⟨p, hp⟩ : ∃ p, p = l.getD a 0 := ⟨_, rfl⟩
                      obtain ⟨p2, hp2⟩ : ∃ p, p = l.getD (a + 1) 0 := ⟨_, rfl⟩
                      have hc1 := HFA.out.at_ HT4.out (show a < j by omega)
                      have hc2 := HFA.out.at_ HT4.out h1
                      have hde := HDEC.out a h1
                      have hge := HGET.out a (by omega)
                      have hge2 := HGET.out (a + 1) h1
                      rw [← hp] at hc1 hx hrn hde hge
                      rw [← hp2] at hc2 hrn hde hge2
                      obtain ⟨r, hr⟩ : ∃ r, r = p - p2 - 1 := ⟨_, rfl⟩
                      rw [← hr] at hrn
                      have hr1 : (p : Int) - p2 - 1 = (r : Int) := by omega
                      have hr2 : r ≤ x := by omega
                      have hx16 : x ≤ 16 := by omega
                      have hr3 : (x : Int) - r = ((x - r : Nat) : Int) := by omega
                      have hx5 : (x - r) + j = p2 + (a + 1) + 1 := by omega
                      have hta : teZ r x = teL r x := if_neg (by omega)
                      have htl3 := teL_le (x := r) (m := x) (by omega)
                      have hdd5 : (d4 ++ teL r x) ++ rnL (x - r) (l.drop (a + 1)) = rnL q l := by rw [← HDD.out, hrn, List.append_assoc]
                      have hdl5 : (d4 ++ teL r x).length ≤ 61 * (a + 1) := by rw [List.length_append]; omega
                      have hte4 := fun n => lte_drew base g v4 (B1 ++ d4) r x _ n HW4.out (by rw [List.length_append]; omega) hr2 (by omega) (by have := HB1.out; omega)
                      rw [hta] at hte4
                      have HTE4 := Lib.hid hte4
                      have HDD5 := Lib.hid hdd5
                      have HDL5 := Lib.hid hdl5
                      have HX5 := Lib.hid hx5
                      have HP2 := Lib.hid hp2
                      have ha1t : (a : Int) < (j : Int) := by omega
                      have hp2p : (p2 : Int) < (p : Int) := by omega
                      have hpi : (p : Int) < 100 := by omega
                      have hxi : (x : Int) < 100 := by omega
                      rw [show ad1.add (a + 1) = ⟨ad1.block, ad1.off + (a + 1), none⟩ by simp [Addr.add]] at hc2
                      have hv1 : IntKind.i64.wrap ((a : Int) + 1) = (a : Int) + 1 := wr_in (by omega)
                      have hv2 : ((a : Int) + 1).toNat = a + 1 := by omega
                      have hv3 : (0 : Int) ≤ (a : Int) + 1 := by omega
                      have hv4 : IntKind.i64.wrap ((p : Int) - p2) = (p : Int) - p2 := wr_in (by omega)
                      have hv5 : IntKind.i64.wrap ((p : Int) - p2 - 1) = (r : Int) := by rw [hr1]; exact wr_in (by omega)
                      clear hrn hp hp2 hde hge hge2 hr hr2 hx5 hta htl3 hdd5 hdl5 hte4 hx h1 h2
                      go_wp2_with fail
                      go_quiet (fail)
                      clear hv1 hv2 hv3 hv4 hv5
                      go_wp2_with fail
                      refine (HTE4.out _).mono ?_
                      rintro e w6 ⟨rfl, hp6⟩
                      have hp7 : PutPost w1 base g v (B1 ++ (d4 ++ teL r x)) w6 := by rw [← List.append_assoc]; exact PutPost.then HT4.out HN4.out hp6
                      have HP7 := Lib.hid hp7
                      clear hp6 hp7 HTE4
                      go_wp2_with fail
                      go_roundw
                      case rel => exact ⟨a + 1, x - r, d4 ++ teL r x, by omega, by go_num, rfl, HP7.out, HDD5.out, by rw [← HP2.out]; exact HX5.out, HDL5.out⟩
                      case measure => simp [intOf]; omega
                    · have hcont' : ¬ (a : Int) + 1 < (j : Int) ∨ ((a : Int) + 1 < (j : Int) ∧ ¬ (0 : Int) < (x : Int)) := by omega
                      have hd4 : d4 = rnL q l := by
                        have hx := HDD.out
                        rw [rnL_end l a x (by have := HT.out; omega), List.append_nil] at hx
                        exact hx
                      have hfin : PutPost w1 base g v (B1 ++ d4) _ := ⟨v4, HW4.out, HT4.out, HN4.out⟩
                      have e1 : B1 ++ d4 = b ++ lvPut z i := by
                        rw [HBB.out, HB0.out, HD3.out, hd4, HQ.out, HM2.out, HL.out, if_neg (by omega), HLO.out]
                        simp only [List.append_assoc]
                      rw [e1] at hfin
                      clear e1
                      have hfin2 := HPOST.out _ _ hfin
                      rw [← HE.out.2] at hfin2
                      have HFIN := Lib.hid hfin2
                      clear hcont hd4 hfin hfin2 hx
                      rcases hcont' with h1 | ⟨h1, h2⟩
                      all_goals
                        go_wp2_with fail
                        go_ret
                        exact ⟨by rw [HE.out.1]; rfl, HFIN.out⟩
  · have HE := Lib.hid (lvE_no (z := z) hs)
    have hs' : sizeOk k = false := by simpa using hs
    clear hs
    go_enter Try.func12, Try.ntmps12
    go_wp2_with fail
    refine (size_any k _).mono ?_
    rintro e w' ⟨rfl, rfl⟩
    rw [hs']
    clear hs'
    go_wp2_with fail
    go_ret
    exact ⟨by rw [HE.out.1]; rfl, by rw [HE.out.2, List.append_nil]; exact PutPost.same HW.out⟩
end Go.Proofs.Ytocooplmfkeepaa
