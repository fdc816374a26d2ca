/- The statement LevelsGets: the walk. -/
import Derived.Test.YtocooplmfkeepaaLevS
import Derived.Test.YtocooplmfkeepaaLevV
import Derived.Test.YtocooplmfkeepaaMask
import Derived.Deep.RegionHeld3
namespace Go.Proofs.Ytocooplmfkeepaa
open Go.RowKit
set_option linter.unusedVariables false
set_option linter.unusedSimpArgs false
attribute [local go_sem] and_15

/-- two Readers of the program and one of the document over one text -/
structure ST (w wr : World) (g1 g2 g3 gB : Nat) (s : ByteArray) (a1 a2 a3 : Nat) : Prop where
  r1 : Rr wr g1 s a1
  r2 : Rr wr g2 s a2
  r3 : RR wr g3 gB (8 * s.size) (sbit s) a3
  be : Below w.heap.size w wr
  ls : w.heap.size ≤ g1 ∧ w.heap.size ≤ g2 ∧ w.heap.size ≤ g3
  ns : g1 ≠ g2 ∧ g1 ≠ g3 ∧ g2 ≠ g3 ∧ gB ≠ g1 ∧ gB ≠ g2
section
variable {w wr w2 : World} {g1 g2 g3 gB a1 a2 a3 b : Nat} {s : ByteArray}
theorem RR.far_ {w w' : World} {g gB N a h : Nat} {f : Nat → Bool} (k : RR w g gB N f a) (ht : Touch (RS h) w w') (h1 : g ≠ h) (h2 : gB ≠ h) : RR w' g gB N f a := by
  obtain ⟨⟨cp, hk⟩, q1, q2, q3⟩ := k
  exact ⟨⟨cp, hk.touch ht h1⟩, q1, Nat.lt_of_lt_of_le q2 ht.size, fun j hj => (ht.cell (p := ⟨gB, j, none⟩) q2 h2).trans (q3 j hj)⟩
theorem ST.one (h : ST w wr g1 g2 g3 gB s a1 a2 a3) (k : RPost wr g1 s b w2) : ST w w2 g1 g2 g3 gB s b a2 a3 :=
  ⟨k.1, Bk.touch h.r2 k.2 (fun q => h.ns.1 q.symm), h.r3.far_ k.2 (fun q => h.ns.2.1 q.symm) h.ns.2.2.2.1, Below.touch h.be k.2 (fun i hi hs => by have := h.ls.1; unfold RS at hs; omega) (Nat.le_refl _), h.ls, h.ns⟩
theorem ST.two (h : ST w wr g1 g2 g3 gB s a1 a2 a3) (k : RPost wr g2 s b w2) : ST w w2 g1 g2 g3 gB s a1 b a3 :=
  ⟨Bk.touch h.r1 k.2 h.ns.1, k.1, h.r3.far_ k.2 (fun q => h.ns.2.2.1 q.symm) h.ns.2.2.2.2, Below.touch h.be k.2 (fun i hi hs => by have := h.ls.2.1; unfold RS at hs; omega) (Nat.le_refl _), h.ls, h.ns⟩
theorem ST.three (h : ST w wr g1 g2 g3 gB s a1 a2 a3) (k : RRPost wr g3 gB (8 * s.size) (sbit s) b w2) : ST w w2 g1 g2 g3 gB s a1 a2 b :=
  ⟨Bk.touch h.r1 k.2 h.ns.2.1, Bk.touch h.r2 k.2 h.ns.2.2.1, k.1, Below.touch h.be k.2 (fun i hi hs => by have := h.ls.2.2; unfold RS at hs; omega) (Nat.le_refl _), h.ls, h.ns⟩
theorem ST.go (h : ST w wr g1 g2 g3 gB s a1 a2 a3) (hb : Below wr.heap.size wr w2) : ST w w2 g1 g2 g3 gB s a1 a2 a3 :=
  ⟨Bk.go h.r1 hb, Bk.go h.r2 hb, h.r3.go hb, h.be.trans (hb.mono h.be.size), h.ls, h.ns⟩
end
theorem bitsR_le' {f : Nat → Bool} {N a : Nat} {n : Int} (h : a ≤ N) : (bitsR f N a n).at_ ≤ N := by
  unfold bitsR
  split
  · exact h
  · split
    · exact h
    · show a + n.toNat ≤ N
      omega
/-- all three refuse -/
def Ref (s : ByteArray) (A : Nat) (x : Int) (c : Int) : Prop :=
  (∀ g W, Rr W g s A → Calls Try.prog 25 #[.pointer (some ⟨g, 0, none⟩), .int .i64 x] W fun e w' => e = .returned (.tuple #[.slice none 0 0, .int .i64 c]) ∧ RPost W g s A w') ∧
  (∀ g gB W, RR W g gB (8 * s.size) (sbit s) A → Calls Try.prog 26 #[.pointer (some ⟨g, 0, none⟩), .int .i64 x] W fun e w' => e = .returned (.tuple #[.slice none 0 0, .int .i64 c]) ∧ RRPost W g gB (8 * s.size) (sbit s) A w')
/-- all three read -/
def Red (s : ByteArray) (A : Nat) (k : Nat) (z : Nat → Int) (b : Nat) : Prop :=
  (∀ g W, Rr W g s A → Calls Try.prog 25 #[.pointer (some ⟨g, 0, none⟩), .int .i64 (k : Int)] W fun e w' => ∃ O, e = .returned (.tuple #[.slice (some ⟨O, 0, none⟩) k k, .int .i64 0]) ∧ W.heap.size ≤ O ∧ Ar w' O k (fun j => .int .i64 (z j)) ∧ RPost W g s b w') ∧
  (∀ g gB W, RR W g gB (8 * s.size) (sbit s) A → Calls Try.prog 26 #[.pointer (some ⟨g, 0, none⟩), .int .i64 (k : Int)] W fun e w' => ∃ O, e = .returned (.tuple #[.slice (some ⟨O, 0, none⟩) k k, .int .i64 0]) ∧ W.heap.size ≤ O ∧ Ar w' O k (fun j => .int .i64 (z j)) ∧ RRPost W g gB (8 * s.size) (sbit s) b w')
theorem get_ways (s : ByteArray) (A : Nat) (x : Int) (hs : s.size ≤ 1048576) (hA : A ≤ 8 * s.size) : (∃ c, Ref s A x c) ∨ ∃ k z b, x = ((k : Nat) : Int) ∧ k ≤ 16 ∧ 4 ≤ k ∧ Red s A k z b := by
  by_cases hx : sizeI x = true
  · obtain ⟨k, rfl⟩ : ∃ k : Nat, x = k := by
      unfold sizeI at hx
      simp only [Bool.or_eq_true, beq_iff_eq] at hx
      exact ⟨x.toNat, by omega⟩
    rw [sizeI_nat] at hx
    have hk := sizeOk_le hx
    rcases hr : getB (sbit s) (8 * s.size) k A with c | ⟨z, b⟩
    · refine .inl ⟨c, fun g W h => (lget_any g s A k W h (by omega) hA hx).mono fun e w' q => ?_, fun g gB W h => (dget_any g gB _ _ A k W h (by omega) hA hx).mono fun e w' q => ?_⟩
      · rw [hr] at q; exact q
      · rw [hr] at q; exact q
    · refine .inr ⟨k, z, b, rfl, hk.2, hk.1, fun g W h => (lget_any g s A k W h (by omega) hA hx).mono fun e w' q => ?_, fun g gB W h => (dget_any g gB _ _ A k W h (by omega) hA hx).mono fun e w' q => ?_⟩
      · rw [hr] at q
        obtain ⟨O, q1, q2, q3, _, q5⟩ := q
        exact ⟨O, q1, q2, q3, q5⟩
      · rw [hr] at q
        obtain ⟨O, q1, q2, q3, _, q5⟩ := q
        exact ⟨O, q1, q2, q3, q5⟩
  · have hx' : sizeI x = false := by simpa using hx
    exact .inl ⟨700, fun g W h => lget_no g s A x W h hx', fun g gB W h => dget_no g gB _ _ A x W h hx'⟩

set_option maxRecDepth 100000 in
set_option maxHeartbeats 12800000 in
theorem walk_LevelsGets (a0 : ByteArray) (a1 : Int) (a2 : Int) (w0 : World) (w_a0 : a0.size ≤ 1048576) (w_a1 : (Lit.int .i64 a1).wf = true) (w_a2 : (Lit.int .i64 a2).wf = true) :
    Calls Try.prog 4 #[.string a0, .int .i64 a1, .int .i64 a2] w0 fun e w' => e = .returned (.bool true) ∧ Below w0.heap.size w0 w' := by
  clear w_a1 w_a2
  have hA := bitsR_le' (f := sbit a0) (N := 8 * a0.size) (a := 0) (n := a1 % 16) (Nat.zero_le _)
  have hgw := get_ways a0 _ a2 w_a0 hA
  have HGW := Lib.hid hgw
  clear hgw hA
  go_enter Try.func4, Try.ntmps4
  go_wp2_with fail
  refine (st_open a0 _).mono ?_
  rintro e w1 ⟨rfl, hr1⟩
  have HR1 := Lib.hid hr1
  clear hr1
  go_wp2_with fail
  refine (st_open a0 _).mono ?_
  rintro e w2 ⟨rfl, hr2⟩
  have HR2 := Lib.hid hr2
  clear hr2
  go_wp2_with fail
  refine (rbits_any w0.heap.size a0 0 (a1 % 16) w2 (Bk.go HR1.out.1 HR2.out.2.2) (by omega) (Nat.zero_le _)).mono ?_
  rintro e w3 hq3
  unfold Answers at hq3
  obtain ⟨rfl, hq3⟩ := hq3
  have hne12 : w0.heap.size ≠ w1.heap.size := by have := Bk.lt HR1.out.1; omega
  have hk2 : Rr w3 w1.heap.size a0 0 := Bk.touch HR2.out.1 hq3.2 (fun q => hne12 q.symm)
  have HQ3 := Lib.hid hq3
  have HK2 := Lib.hid hk2
  clear hq3 hk2
  go_wp2_with fail
  refine (rbits_any w1.heap.size a0 0 (a1 % 16) w3 HK2.out (by omega) (Nat.zero_le _)).mono ?_
  rintro e w4 hq4
  unfold Answers at hq4
  obtain ⟨rfl, hq4⟩ := hq4
  have HQ4 := Lib.hid hq4
  clear hq4 HK2
  go_wp2_with fail
  refine (openr_any a0 w4 (by omega)).mono ?_
  rintro e w5 ⟨gB, cp, rfl, hg1, hg2, hcells, hb5⟩
  have hb04 : Below w0.heap.size w0 w4 := by
    have h1 : Below w0.heap.size w0 w2 := HR1.out.2.2.trans (HR2.out.2.2.mono HR1.out.size)
    have h2 := Below.touch h1 HQ3.out.2 (fun i hi hs => by unfold RS at hs; omega) (Nat.le_refl _)
    exact Below.touch h2 HQ4.out.2 (fun i hi hs => by have := HR1.out.size; unfold RS at hs; omega) (Nat.le_refl _)
  have hb5a := hb5.alloc hb5.size (.cells #[.slice (some ⟨gB, 0, none⟩) (8 * a0.size) cp, .int .i64 0] 47)
  have hz4 := hb04.size
  have hz5 := hb5.size
  have hk1 : Rr w4 w0.heap.size a0 (bitsR (sbit a0) (8 * a0.size) 0 (a1 % 16)).at_ := Bk.touch HQ3.out.1 HQ4.out.2 hne12
  have hst : ST w0 (w5.alloc (.cells #[.slice (some ⟨gB, 0, none⟩) (8 * a0.size) cp, .int .i64 0] 47)) w0.heap.size w1.heap.size w5.heap.size gB a0 (bitsR (sbit a0) (8 * a0.size) 0 (a1 % 16)).at_ (bitsR (sbit a0) (8 * a0.size) 0 (a1 % 16)).at_ 0 := by
    have l1 := Bk.lt hk1
    have l2 := Bk.lt HQ4.out.1
    refine ⟨Bk.go hk1 hb5a, Bk.go HQ4.out.1 hb5a, ⟨⟨cp, Bk.new w5 _ _⟩, by omega, by simp; omega, fun k hk => (World.cell?_alloc_lt w5 _ _ hg2).trans (hcells k hk)⟩, hb04.trans (hb5a.mono hz4), ⟨Nat.le_refl _, HR1.out.size, by omega⟩, hne12, by omega, by omega, by omega, by omega⟩
  have HST := Lib.hid hst
  clear hst hb04 hb5a hk1 hcells hb5 hg1 hg2 hne12 hz4 hz5 HQ3 HQ4 HR1 HR2
  go_wp2_with fail
  refine (bits2_any w5.heap.size gB (8 * a0.size) (sbit a0) 0 (a1 % 16) _ HST.out.r3 (by omega) (Nat.zero_le _)).mono ?_
  rintro e w6 hq6
  unfold Answers2 at hq6
  obtain ⟨rfl, hq6⟩ := hq6
  have hst := HST.out.three hq6
  have hgw := HGW.out
  generalize (bitsR (sbit a0) (8 * a0.size) 0 (a1 % 16)).x = bx
  generalize (bitsR (sbit a0) (8 * a0.size) 0 (a1 % 16)).e = be
  generalize (bitsR (sbit a0) (8 * a0.size) 0 (a1 % 16)).at_ = A at hst hgw
  have hAs : (A : Int) = A := rfl
  clear hq6 HST HGW hAs
  have HST := Lib.hid hst
  clear hst
  rcases hgw with ⟨c, hc⟩ | ⟨k, z, b, rfl, hk16, hk4, hc⟩
  · have HC1 := Lib.hid hc.1
    have HC2 := Lib.hid hc.2
    clear hc
    go_wp2_with fail
    refine (HC1.out _ _ HST.out.r1).mono ?_
    rintro e w7 ⟨rfl, hq⟩
    have HST := Lib.hid (HST.out.one hq)
    clear hq
    go_wp2_with fail
    refine (HC1.out _ _ HST.out.r2).mono ?_
    rintro e w8 ⟨rfl, hq⟩
    have HST := Lib.hid (HST.out.two hq)
    clear hq
    go_wp2_with fail
    refine (HC2.out _ _ _ HST.out.r3).mono ?_
    rintro e w ⟨rfl, hq⟩
    have HST := Lib.hid (HST.out.three hq)
    have HSAME := Lib.hid (fun w' : World => same_yes none none 0 0 0 (fun _ => 0) (fun _ => 0) w' (Rd.zero _ _ _ _) (Rd.zero _ _ _ _) (by omega) (fun _ _ => rfl))
    have HAT : Hid (∀ w' : World, Below w.heap.size w w' → Calls Try.prog 28 #[.pointer (some ⟨w0.heap.size, 0, none⟩)] w' fun e w'' => e = .returned (.int .i64 A) ∧ w' = w'') := Lib.hid fun w' hb => at_any _ _ _ _ (Bk.go HST.out.r1 hb)
    obtain ⟨⟨cp3, hk3⟩, hr3⟩ := HST.out.r3
    have c30 := hk3.cell 0
    have c31 := hk3.cell 1
    have hl3 := hk3.lt
    simp at c30 c31
    have HB := Lib.hid HST.out.be
    clear hq hk3 hr3 HC1 HC2 HST
    go_wp2_with fail
    go_region_held3 (fun w' => w'.cell? ⟨w5.heap.size, 0, none⟩ = some (.slice (some ⟨gB, 0, none⟩) (8 * a0.size) cp3) ∧ w'.cell? ⟨w5.heap.size, 1, none⟩ = some (.int .i64 A) ∧ w5.heap.size < w'.heap.size ∧ w.heap.size ≤ w'.heap.size ∧ Below w.heap.size w w')
      (first | (refine ⟨by simp [go_sem, *], by simp [go_sem, *], by simp [go_sem] <;> omega, by simp [go_sem] <;> omega, (by repeat (first | exact Below.refl _ _ | assumption | refine Below.alloc ?_ (by first | omega | (simp <;> omega)) _ | refine Below.drew ?_ | refine Below.setCell ?_ (by first | omega | (simp <;> omega)) _))⟩) | (go_split_ands; refine ⟨(hbh0.cell (by simp <;> omega)).trans (by assumption), (hbh0.cell (by simp <;> omega)).trans (by assumption), by have := hbh0.size; omega, by have := hbh0.size; omega, Below.trans (by assumption) (hbh0.mono (by omega))⟩) | go_keep)
      (first | (go_at_call 27; refine (HSAME.out _).mono ?_; rintro e wh0 ⟨rfl, hbh0⟩) | (go_at_call 15; refine (num_any _ _).mono ?_; rintro e w' ⟨rfl, rfl⟩) | (go_at_call 28; go_split_ands; refine (HAT.out _ (by assumption)).mono ?_; rintro e w' ⟨rfl, rfl⟩))
    rename_i hh
    obtain ⟨_, _, _, hszh, hbh⟩ := hh
    have HBH := Lib.hid (HB.out.trans (hbh.mono HB.out.size))
    clear hszh hbh HB HAT c30 c31
    go_wp2_with fail
    refine (spoil_any none 0 0 _ (fun h => absurd h (by omega)) (by omega)).mono ?_
    rintro e w10 ⟨rfl, ht⟩
    have HB10 := Lib.hid (HBH.out.trans (ht.below (fun k q => by cases q) HBH.out.size))
    clear ht HBH
    go_wp2_with fail
    refine (HSAME.out _).mono ?_
    rintro e w11 ⟨rfl, hb11⟩
    have HB11 := Lib.hid (HB10.out.trans (hb11.mono HB10.out.size))
    clear hb11 HB10 HSAME
    go_wp2_with fail
    refine (awake_any _).mono ?_
    rintro e w12 ⟨rfl, hb12⟩
    have HB12 := Lib.hid (HB11.out.trans (hb12.mono HB11.out.size))
    clear hb12
    go_wp2_with fail
    go_ret
    exact ⟨rfl, HB12.out⟩
  · have HC1 := Lib.hid hc.1
    have HC2 := Lib.hid hc.2
    clear hc
    go_wp2_with fail
    refine (HC1.out _ _ HST.out.r1).mono ?_
    rintro e w7 ⟨O1, rfl, ho1, har1, hq⟩
    have hst7 := HST.out.one hq
    have hO1a := har1.2.2
    have hl2 := Bk.lt HST.out.r2
    have hl1 := Bk.lt HST.out.r1
    have hl3 : w5.heap.size < w6.heap.size := by obtain ⟨⟨cp3, hk3⟩, _⟩ := HST.out.r3; exact hk3.lt
    have hz67 := hq.2.size
    have hw06 := HST.out.be.size
    have HST := Lib.hid hst7
    have HA1 := Lib.hid har1
    clear hq hst7 har1
    go_wp2_with fail
    refine (HC1.out _ _ HST.out.r2).mono ?_
    rintro e w8 ⟨O2, rfl, ho2, har2, hq⟩
    have HA1 := Lib.hid (HA1.out.touch hq.2 (show ¬ RS w1.heap.size O1 by unfold RS; omega))
    have HST := Lib.hid (HST.out.two hq)
    have HA2 := Lib.hid har2
    have hO2a := har2.2.2
    have hz78 := hq.2.size
    clear hq har2
    go_wp2_with fail
    refine (HC2.out _ _ _ HST.out.r3).mono ?_
    rintro e w ⟨O3, rfl, ho3, har3, hq⟩
    have HA1 := Lib.hid (HA1.out.touch hq.2 (show ¬ RS w5.heap.size O1 by unfold RS; omega))
    have HA2 := Lib.hid (HA2.out.touch hq.2 (show ¬ RS w5.heap.size O2 by unfold RS; omega))
    have HA3 := Lib.hid har3
    have HST := Lib.hid (HST.out.three hq)
    have hw0O : w0.heap.size ≤ O1 := by omega
    have n12 : O1 ≠ O2 := by omega
    have n13 : O1 ≠ O3 := by omega
    have HN := Lib.hid (And.intro hw0O (And.intro n12 n13))
    clear hO1a hl2 hl1 hl3 hz67 hw06 hO2a hz78 ho1 ho2 ho3 hw0O n12 n13 har3
    have HSAME : Hid (∀ w' : World, Below w.heap.size w w' → Calls Try.prog 27 #[.slice (some ⟨O1, 0, none⟩) k k, .slice (some ⟨O3, 0, none⟩) k k] w' fun e w'' => e = .returned (.bool true) ∧ Below w'.heap.size w' w'') := Lib.hid fun w' hb => same_yes _ _ k k k z z w' (HA1.out.go hb).rd (HA3.out.go hb).rd (by omega) (fun _ _ => rfl)
    have HAT : Hid (∀ w' : World, Below w.heap.size w w' → Calls Try.prog 28 #[.pointer (some ⟨w0.heap.size, 0, none⟩)] w' fun e w'' => e = .returned (.int .i64 b) ∧ w' = w'') := Lib.hid fun w' hb => at_any _ _ _ _ (Bk.go HST.out.r1 hb)
    obtain ⟨⟨cp3, hk3⟩, hr3⟩ := HST.out.r3
    have c30 := hk3.cell 0
    have c31 := hk3.cell 1
    have hl3 := hk3.lt
    simp at c30 c31
    have HB := Lib.hid HST.out.be
    clear hq hk3 hr3 HC1 HC2 HST
    go_wp2_with fail
    go_region_held3 (fun w' => w'.cell? ⟨w5.heap.size, 0, none⟩ = some (.slice (some ⟨gB, 0, none⟩) (8 * a0.size) cp3) ∧ w'.cell? ⟨w5.heap.size, 1, none⟩ = some (.int .i64 b) ∧ w5.heap.size < w'.heap.size ∧ w.heap.size ≤ w'.heap.size ∧ Below w.heap.size w w')
      (first | (refine ⟨by simp [go_sem, *], by simp [go_sem, *], by simp [go_sem] <;> omega, by simp [go_sem] <;> omega, (by repeat (first | exact Below.refl _ _ | assumption | refine Below.alloc ?_ (by first | omega | (simp <;> omega)) _ | refine Below.drew ?_ | refine Below.setCell ?_ (by first | omega | (simp <;> omega)) _))⟩) | (go_split_ands; refine ⟨(hbh0.cell (by simp <;> omega)).trans (by assumption), (hbh0.cell (by simp <;> omega)).trans (by assumption), by have := hbh0.size; omega, by have := hbh0.size; omega, Below.trans (by assumption) (hbh0.mono (by omega))⟩) | go_keep)
      (first | (go_at_call 27; go_split_ands; refine (HSAME.out _ (by assumption)).mono ?_; rintro e wh0 ⟨rfl, hbh0⟩) | (go_at_call 15; refine (num_any _ _).mono ?_; rintro e w' ⟨rfl, rfl⟩) | (go_at_call 28; go_split_ands; refine (HAT.out _ (by assumption)).mono ?_; rintro e w' ⟨rfl, rfl⟩))
    rename_i hh
    obtain ⟨_, _, _, hszh, hbh⟩ := hh
    have HBH := Lib.hid (HB.out.trans (hbh.mono HB.out.size))
    have HA1 := Lib.hid (HA1.out.go hbh)
    have HA2 := Lib.hid (HA2.out.go hbh)
    have HA3 := Lib.hid (HA3.out.go hbh)
    clear hszh hbh HB HAT c30 c31 HSAME
    go_wp2_with fail
    refine (spoil_any (some ⟨O1, 0, none⟩) k k _ (fun _ => ⟨O1, rfl, fun j hj => ⟨z j, HA1.out.1 j hj⟩, HA1.out.2.1⟩) (by omega)).mono ?_
    rintro e w10 ⟨rfl, ht⟩
    have HB10 := Lib.hid (HBH.out.trans (ht.below (fun k q => by injection q with q; injection q with q _; have := HN.out.1; omega) HBH.out.size))
    have HA2 := Lib.hid (HA2.out.touch ht (fun q => by injection q with q; injection q with q _; exact HN.out.2.1 q))
    have HA3 := Lib.hid (HA3.out.touch ht (fun q => by injection q with q; injection q with q _; exact HN.out.2.2 q))
    clear ht HBH HA1
    go_wp2_with fail
    refine (same_yes _ _ k k k z z _ HA2.out.rd HA3.out.rd (by omega) (fun _ _ => rfl)).mono ?_
    rintro e w11 ⟨rfl, hb11⟩
    have HB11 := Lib.hid (HB10.out.trans (hb11.mono HB10.out.size))
    clear hb11 HB10
    go_wp2_with fail
    refine (awake_any _).mono ?_
    rintro e w12 ⟨rfl, hb12⟩
    have HB12 := Lib.hid (HB11.out.trans (hb12.mono HB11.out.size))
    clear hb12
    go_wp2_with fail
    go_ret
    exact ⟨rfl, HB12.out⟩
end Go.Proofs.Ytocooplmfkeepaa
