/- ParamsSps. Printed by gen-sps.py. -/
import Derived.Test.YtegfglpaabddlaaDocAB
import Derived.Test.YtegfglpaabddlaaDocCG
import Derived.Test.YtegfglpaabddlaaLawBC
namespace Go.Proofs.Ytegfglpaabddlaa
open Go.RowKit
set_option linter.unusedVariables false
set_option linter.unusedSimpArgs false

theorem finSp_len (f : Nat → Bool) (N : Nat) (p : Sp) (t : St) : (finSp f N p t).1.cy.length ≤ 4 := by
  unfold finSp
  split
  · exact Nat.zero_le _
  · split
    · rename_i h
      exact ((maySp_iff _).1 h).2.2.2.2.2.2.1
    · exact Nat.zero_le _
theorem getSp_len (f : Nat → Bool) (N : Nat) : (getSp f N).1.cy.length ≤ 4 := by
  unfold getSp
  split
  · exact finSp_len _ _ _ _
  · split
    · split
      · exact Nat.zero_le _
      · exact finSp_len _ _ _ _
    · exact finSp_len _ _ _ _
theorem getsp2_is {s : ByteArray} {p : Sp} {e : Int} (hs : s.size ≤ 17592186044416) (h : getSp (sbit s) (8 * s.size) = (p, e)) (w : World) :
    Calls Try.prog 14 #[.string s] w fun r w' => ∃ A c, r = .returned (.tuple #[.agg (spV p A c), .int .i64 e]) ∧ SpAt w' w'.heap.size p A ∧ w'.ownsRow w.heap.size 3 1 (.slice A p.cy.length c) p.cy.length (cyV p.cy) ∧ Below w.heap.size w w' := by
  refine (getsp2_any s w hs).mono ?_
  rintro r w' ⟨v, rfl, ho, hb⟩
  rw [h] at ho ⊢
  obtain ⟨A, c, rfl, _, _, _⟩ := own_slice ho
  exact ⟨A, c, rfl, SpAt.of_own ho, ho, hb⟩
theorem wri_own {w : World} {B n c : Nat} {A : Option Addr} {l : List Int} (h : w.ownsRow B 3 1 (.slice A n c) n (cyV l)) (hl : l.length = n) : 0 < n → ∃ g, A = some ⟨g, 0, none⟩ ∧ Wri w g n := by
  intro hn
  rcases h.2 with ⟨hv, h0⟩ | ⟨g, cap, cur, hv, _⟩
  · omega
  · have hA : A = some ⟨g, 0, none⟩ := by injection hv
    subst hA
    refine ⟨g, rfl, fun j hj => ⟨l.getD j 0, ?_⟩, fun o => h.frozenAt o⟩
    rw [h.cellAt j (by omega)]
    simp [cyV, hl, hj]
theorem Rd.farset {w : World} {g n : Nat} {f : Nat → Value} (h : Rd w w.heap.size (some ⟨g, 0, none⟩) n f) {p : Addr} (hp : g ≠ p.block) (u : Value) : Rd (w.setCell p u) (w.setCell p u).heap.size (some ⟨g, 0, none⟩) n f := fun hn => by
  obtain ⟨ad, e, hb, hc⟩ := h hn
  refine ⟨ad, e, by simpa [World.setCell] using hb, fun k hk => ?_⟩
  have hag : ad = ⟨g, 0, none⟩ := by injection e with e; exact e.symm
  subst hag
  refine (World.cell?_of_block (Below.heap_setCell w p u _ ?_)).trans (hc k hk)
  rw [add_new]
  exact hp
theorem SpAt.lent {w : World} {g : Nat} {p : Sp} (h : Ri w w.heap.size (some ⟨g, 0, none⟩) (p.cy.length + 2) (lentF p.cy.length (fun k => p.cy.getD k 0))) : SpAt w w.heap.size p (some ⟨g, 0, none⟩) :=
  Rd.congr (Rd.less h (by omega)) fun k hk => by simp [lentF, hk]

set_option maxRecDepth 100000 in
set_option maxHeartbeats 6400000 in
theorem sps_all (s0 s1 s2 s3 s4 s5 : Int) (cy : List Int) (A : Option Addr) (c : Nat) (s7 s8 : Int) (t : ByteArray) (w : World) (hs : SpAt w w.heap.size ⟨s0, s1, s2, s3, s4, s5, cy, s7, s8⟩ A) (h0 : A = none → cy.length = 0 ∧ c = 0) (hn : cy.length * 8 ≤ 140737488351232) (ht : t.size ≤ 1048576) :
    Calls Try.prog 3 #[.agg #[.int .i64 s0, .int .i64 s1, .int .i64 s2, .int .i64 s3, .int .i64 s4, .int .i64 s5, .slice A cy.length c, .int .i64 s7, .int .i64 s8], .string t] w fun e w' => e = .returned (.bool true) ∧ Below w.heap.size w w' := by
  obtain ⟨Q, E, hQ⟩ : ∃ Q E, getSp (sbit t) (8 * t.size) = (Q, E) := ⟨_, _, rfl⟩
  have hq4 := getSp_len (sbit t) (8 * t.size)
  rw [hQ] at hq4
  have hq4 : Q.cy.length ≤ 4 := hq4
  have h1 := fun A c w hs => putsp_any ⟨s0, s1, s2, s3, s4, s5, cy, s7, s8⟩ A c w hs (by show cy.length ≤ _; omega)
  have h2 := fun A c w hs => putsp2_any ⟨s0, s1, s2, s3, s4, s5, cy, s7, s8⟩ A c w hs (by show cy.length ≤ _; omega)
  have h3 := getsp_is (s := t) (by omega) hQ
  have h4 := getsp2_is (s := t) (by omega) hQ
  have h5 := fun A c w hs => maysp_any ⟨s0, s1, s2, s3, s4, s5, cy, s7, s8⟩ A c w hs (by show cy.length ≤ _; omega)
  have h6 := fun A c w hs => maysp2_any ⟨s0, s1, s2, s3, s4, s5, cy, s7, s8⟩ A c w hs (by show cy.length ≤ _; omega)
  have h7 := fun A C c d w a b => samesps_yes Q A C c d w a b (by omega)
  generalize putSpS ⟨s0, s1, s2, s3, s4, s5, cy, s7, s8⟩ = U at h1 h2
  generalize putSpE ⟨s0, s1, s2, s3, s4, s5, cy, s7, s8⟩ = UE at h1 h2
  generalize maySp ⟨s0, s1, s2, s3, s4, s5, cy, s7, s8⟩ = MB at h5 h6
  obtain ⟨q0, q1, q2, q3, q4, q5, cq, q7, q8⟩ := Q
  have hq4 : cq.length ≤ 4 := hq4
  simp only [spV] at h1 h2 h3 h4 h5 h6 h7
  have X1 := Lib.hid h1
  have X2 := Lib.hid h2
  have X3 := Lib.hid h3
  have X4 := Lib.hid h4
  have X5 := Lib.hid h5
  have X6 := Lib.hid h6
  have X7 := Lib.hid h7
  have HS := Lib.hid hs
  have H00 := Lib.hid h0
  have HQ4 := Lib.hid hq4
  have HN8 := Lib.hid hn
  clear h1 h2 h3 h4 h5 h6 h7 hQ hs h0
  have HB := Lib.hid (Below.refl w.heap.size w)
  replace HB := Lib.hid (HB.out.alloc HB.out.size (.cells #[.int .i64 s0, .int .i64 s1, .int .i64 s2, .int .i64 s3, .int .i64 s4, .int .i64 s5, .slice A cy.length c, .int .i64 s7, .int .i64 s8] 24))
  have Kp := Lib.hid (Bk.new w 24 #[.int .i64 s0, .int .i64 s1, .int .i64 s2, .int .i64 s3, .int .i64 s4, .int .i64 s5, .slice A cy.length c, .int .i64 s7, .int .i64 s8])
  replace Kp := Lib.hid (Kp.out.alloc (.cells #[.int .i64 s0, .int .i64 s1, .int .i64 s2, .int .i64 s3, .int .i64 s4, .int .i64 s5, .slice A cy.length c, .int .i64 s7, .int .i64 s8] 24))
  replace HB := Lib.hid (HB.out.alloc HB.out.size (.cells #[.int .i64 s0, .int .i64 s1, .int .i64 s2, .int .i64 s3, .int .i64 s4, .int .i64 s5, .slice A cy.length c, .int .i64 s7, .int .i64 s8] 24))
  have Kx := Lib.hid (Bk.new (w.alloc (.cells #[.int .i64 s0, .int .i64 s1, .int .i64 s2, .int .i64 s3, .int .i64 s4, .int .i64 s5, .slice A cy.length c, .int .i64 s7, .int .i64 s8] 24)) 24 #[.int .i64 s0, .int .i64 s1, .int .i64 s2, .int .i64 s3, .int .i64 s4, .int .i64 s5, .slice A cy.length c, .int .i64 s7, .int .i64 s8])
  go_enter Try.func3, Try.ntmps3
  go_wp2_with fail
  refine (lend_any A cy.length c (fun k => cy.getD k 0) _ (show SpAt _ _ ⟨s0, s1, s2, s3, s4, s5, cy, s7, s8⟩ A from Rd.more (Rd.below HS.out HB.out (Nat.le_refl _)) HB.out.size) H00.out (by omega)).mono ?_
  rintro e w1 ⟨v, rfl, ⟨gL, cap, rfl, hc1, hc2, hgB, hgl, hri⟩, hb⟩
  replace Kp := Lib.hid (Kp.out.go hb)
  replace Kx := Lib.hid (Kx.out.go hb)
  replace HB := Lib.hid (HB.out.trans (hb.mono HB.out.size))
  clear hb
  have HL : Hid (Ri w1 w1.heap.size (some ⟨gL, 0, none⟩) (cy.length + 2) (lentF cy.length (fun k => cy.getD k 0))) := Lib.hid hri
  obtain ⟨xb, hxb⟩ : ∃ b, b = w.heap.size + 1 := ⟨_, rfl⟩
  have hxe : (w.alloc (.cells #[.int .i64 s0, .int .i64 s1, .int .i64 s2, .int .i64 s3, .int .i64 s4, .int .i64 s5, .slice A cy.length c, .int .i64 s7, .int .i64 s8] 24)).heap.size = xb := by simp [hxb]
  rw [hxe] at Kx
  have hgx : xb < gL := by
    have e : ((w.alloc (.cells #[.int .i64 s0, .int .i64 s1, .int .i64 s2, .int .i64 s3, .int .i64 s4, .int .i64 s5, .slice A cy.length c, .int .i64 s7, .int .i64 s8] 24)).alloc (.cells #[.int .i64 s0, .int .i64 s1, .int .i64 s2, .int .i64 s3, .int .i64 s4, .int .i64 s5, .slice A cy.length c, .int .i64 s7, .int .i64 s8] 24)).heap.size = xb + 1 := by simp [hxb]
    have := hgB
    omega
  have hpx : w.heap.size ≠ xb := by omega
  have hwx : w.heap.size ≤ xb := by omega
  have HXE := Lib.hid hxe
  have HXB := Lib.hid hxb
  clear hri hgB hxe
  have cx_0 := Kx.out.cell 0
  have cx_1 := Kx.out.cell 1
  have cx_2 := Kx.out.cell 2
  have cx_3 := Kx.out.cell 3
  have cx_4 := Kx.out.cell 4
  have cx_5 := Kx.out.cell 5
  have cx_6 := Kx.out.cell 6
  have cx_7 := Kx.out.cell 7
  have cx_8 := Kx.out.cell 8
  simp at cx_0 cx_1 cx_2 cx_3 cx_4 cx_5 cx_6 cx_7 cx_8
  have fx6 := Kx.out.frozen 6
  rw [hxb] at fx6 cx_0 cx_1 cx_2 cx_3 cx_4 cx_5 cx_6 cx_7 cx_8
  clear hxb
  replace HL := Lib.hid (Rd.farset HL.out (p := ⟨xb, 6, none⟩) (by show gL ≠ xb; omega) (.slice (some ⟨gL, 0, none⟩) cy.length cap))
  replace Kp := Lib.hid (Kp.out.far (p := ⟨xb, 6, none⟩) hpx (.slice (some ⟨gL, 0, none⟩) cy.length cap))
  replace Kx : Hid (Bk (w1.setCell ⟨xb, 6, none⟩ (.slice (some ⟨gL, 0, none⟩) cy.length cap)) xb 24 #[.int .i64 s0, .int .i64 s1, .int .i64 s2, .int .i64 s3, .int .i64 s4, .int .i64 s5, .slice (some ⟨gL, 0, none⟩) cy.length cap, .int .i64 s7, .int .i64 s8]) := Lib.hid (by have kk := Kx.out.set_ 6 (.slice (some ⟨gL, 0, none⟩) cy.length cap); simpa using kk)
  replace HB := Lib.hid (HB.out.setCell (p := ⟨xb, 6, none⟩) hwx (.slice (some ⟨gL, 0, none⟩) cy.length cap))
  rw [HXB.out] at HL Kp Kx HB
  go_wp2_with fail
  clear cx_0 cx_1 cx_2 cx_3 cx_4 cx_5 cx_6 cx_7 cx_8 fx6
  refine (X1.out (some ⟨gL, 0, none⟩) cap _ (SpAt.lent HL.out)).mono ?_
  rintro e w2 ⟨rfl, hb⟩
  replace Kp := Lib.hid (Kp.out.go hb)
  replace Kx := Lib.hid (Kx.out.go hb)
  replace HL := Lib.hid (Rd.go HL.out hb)
  replace HB := Lib.hid (HB.out.trans (hb.mono HB.out.size))
  clear hb
  have cp_0 := Kp.out.cell 0
  have cp_1 := Kp.out.cell 1
  have cp_2 := Kp.out.cell 2
  have cp_3 := Kp.out.cell 3
  have cp_4 := Kp.out.cell 4
  have cp_5 := Kp.out.cell 5
  have cp_6 := Kp.out.cell 6
  have cp_7 := Kp.out.cell 7
  have cp_8 := Kp.out.cell 8
  simp at cp_0 cp_1 cp_2 cp_3 cp_4 cp_5 cp_6 cp_7 cp_8
  go_wp2_with fail
  clear cp_0 cp_1 cp_2 cp_3 cp_4 cp_5 cp_6 cp_7 cp_8
  refine (X2.out A c _ (show SpAt _ _ ⟨s0, s1, s2, s3, s4, s5, cy, s7, s8⟩ A from Rd.more (Rd.below HS.out HB.out (Nat.le_refl _)) HB.out.size)).mono ?_
  rintro e w3 ⟨rfl, hb⟩
  replace Kp := Lib.hid (Kp.out.go hb)
  replace Kx := Lib.hid (Kx.out.go hb)
  replace HL := Lib.hid (Rd.go HL.out hb)
  replace HB := Lib.hid (HB.out.trans (hb.mono HB.out.size))
  clear hb
  go_wp2_with fail
  have HW3 := Lib.hid HB.out.size
  refine (X3.out _).mono ?_
  rintro e w4 ⟨A1, c1, rfl, _, ho, hb⟩
  have O1 := Lib.hid ho
  have hlo1 := fun k hk => ho.lt k hk
  have HLO1 := Lib.hid hlo1
  have hz1 := hb.size
  clear ho hlo1
  replace Kp := Lib.hid (Kp.out.go hb)
  replace Kx := Lib.hid (Kx.out.go hb)
  replace HL := Lib.hid (Rd.go HL.out hb)
  replace HB := Lib.hid (HB.out.trans (hb.mono HB.out.size))
  clear hb
  replace Kp := Lib.hid (Kp.out.alloc (.cells #[.int .i64 q0, .int .i64 q1, .int .i64 q2, .int .i64 q3, .int .i64 q4, .int .i64 q5, .slice A1 cq.length c1, .int .i64 q7, .int .i64 q8] 24))
  replace Kx := Lib.hid (Kx.out.alloc (.cells #[.int .i64 q0, .int .i64 q1, .int .i64 q2, .int .i64 q3, .int .i64 q4, .int .i64 q5, .slice A1 cq.length c1, .int .i64 q7, .int .i64 q8] 24))
  replace HL := Lib.hid (Rd.go HL.out ((Below.refl _ _).alloc (Nat.le_refl _) (.cells #[.int .i64 q0, .int .i64 q1, .int .i64 q2, .int .i64 q3, .int .i64 q4, .int .i64 q5, .slice A1 cq.length c1, .int .i64 q7, .int .i64 q8] 24)))
  replace O1 := Lib.hid (O1.out.alloc (.cells #[.int .i64 q0, .int .i64 q1, .int .i64 q2, .int .i64 q3, .int .i64 q4, .int .i64 q5, .slice A1 cq.length c1, .int .i64 q7, .int .i64 q8] 24))
  replace HB := Lib.hid (HB.out.alloc HB.out.size (.cells #[.int .i64 q0, .int .i64 q1, .int .i64 q2, .int .i64 q3, .int .i64 q4, .int .i64 q5, .slice A1 cq.length c1, .int .i64 q7, .int .i64 q8] 24))
  have Ka := Lib.hid (Bk.new w4 24 #[.int .i64 q0, .int .i64 q1, .int .i64 q2, .int .i64 q3, .int .i64 q4, .int .i64 q5, .slice A1 cq.length c1, .int .i64 q7, .int .i64 q8])
  go_wp2_with fail
  refine (X3.out _).mono ?_
  rintro e w5 ⟨A2, c2, rfl, _, ho, hb⟩
  have O2 := Lib.hid ho
  have hlo2 := fun k hk => ho.lt k hk
  have HLO2 := Lib.hid hlo2
  have hz2 := hb.size
  clear ho hlo2
  replace Kp := Lib.hid (Kp.out.go hb)
  replace Kx := Lib.hid (Kx.out.go hb)
  replace Ka := Lib.hid (Ka.out.go hb)
  replace HL := Lib.hid (Rd.go HL.out hb)
  replace O1 := Lib.hid (own_go O1.out hb)
  replace HB := Lib.hid (HB.out.trans (hb.mono HB.out.size))
  clear hb
  replace Kp := Lib.hid (Kp.out.alloc (.cells #[.int .i64 q0, .int .i64 q1, .int .i64 q2, .int .i64 q3, .int .i64 q4, .int .i64 q5, .slice A2 cq.length c2, .int .i64 q7, .int .i64 q8] 24))
  replace Kx := Lib.hid (Kx.out.alloc (.cells #[.int .i64 q0, .int .i64 q1, .int .i64 q2, .int .i64 q3, .int .i64 q4, .int .i64 q5, .slice A2 cq.length c2, .int .i64 q7, .int .i64 q8] 24))
  replace Ka := Lib.hid (Ka.out.alloc (.cells #[.int .i64 q0, .int .i64 q1, .int .i64 q2, .int .i64 q3, .int .i64 q4, .int .i64 q5, .slice A2 cq.length c2, .int .i64 q7, .int .i64 q8] 24))
  replace HL := Lib.hid (Rd.go HL.out ((Below.refl _ _).alloc (Nat.le_refl _) (.cells #[.int .i64 q0, .int .i64 q1, .int .i64 q2, .int .i64 q3, .int .i64 q4, .int .i64 q5, .slice A2 cq.length c2, .int .i64 q7, .int .i64 q8] 24)))
  replace O1 := Lib.hid (O1.out.alloc (.cells #[.int .i64 q0, .int .i64 q1, .int .i64 q2, .int .i64 q3, .int .i64 q4, .int .i64 q5, .slice A2 cq.length c2, .int .i64 q7, .int .i64 q8] 24))
  replace O2 := Lib.hid (O2.out.alloc (.cells #[.int .i64 q0, .int .i64 q1, .int .i64 q2, .int .i64 q3, .int .i64 q4, .int .i64 q5, .slice A2 cq.length c2, .int .i64 q7, .int .i64 q8] 24))
  replace HB := Lib.hid (HB.out.alloc HB.out.size (.cells #[.int .i64 q0, .int .i64 q1, .int .i64 q2, .int .i64 q3, .int .i64 q4, .int .i64 q5, .slice A2 cq.length c2, .int .i64 q7, .int .i64 q8] 24))
  have Kb := Lib.hid (Bk.new w5 24 #[.int .i64 q0, .int .i64 q1, .int .i64 q2, .int .i64 q3, .int .i64 q4, .int .i64 q5, .slice A2 cq.length c2, .int .i64 q7, .int .i64 q8])
  go_wp2_with fail
  refine (X4.out _).mono ?_
  rintro e w6 ⟨A3, c3, rfl, _, ho, hb⟩
  have O3 := Lib.hid ho
  have hlo3 := fun k hk => ho.lt k hk
  have HLO3 := Lib.hid hlo3
  have hz3 := hb.size
  clear ho hlo3
  replace Kp := Lib.hid (Kp.out.go hb)
  replace Kx := Lib.hid (Kx.out.go hb)
  replace Ka := Lib.hid (Ka.out.go hb)
  replace Kb := Lib.hid (Kb.out.go hb)
  replace HL := Lib.hid (Rd.go HL.out hb)
  replace O1 := Lib.hid (own_go O1.out hb)
  replace O2 := Lib.hid (own_go O2.out hb)
  replace HB := Lib.hid (HB.out.trans (hb.mono HB.out.size))
  clear hb
  replace Kp := Lib.hid (Kp.out.alloc (.cells #[.int .i64 q0, .int .i64 q1, .int .i64 q2, .int .i64 q3, .int .i64 q4, .int .i64 q5, .slice A3 cq.length c3, .int .i64 q7, .int .i64 q8] 24))
  replace Kx := Lib.hid (Kx.out.alloc (.cells #[.int .i64 q0, .int .i64 q1, .int .i64 q2, .int .i64 q3, .int .i64 q4, .int .i64 q5, .slice A3 cq.length c3, .int .i64 q7, .int .i64 q8] 24))
  replace Ka := Lib.hid (Ka.out.alloc (.cells #[.int .i64 q0, .int .i64 q1, .int .i64 q2, .int .i64 q3, .int .i64 q4, .int .i64 q5, .slice A3 cq.length c3, .int .i64 q7, .int .i64 q8] 24))
  replace Kb := Lib.hid (Kb.out.alloc (.cells #[.int .i64 q0, .int .i64 q1, .int .i64 q2, .int .i64 q3, .int .i64 q4, .int .i64 q5, .slice A3 cq.length c3, .int .i64 q7, .int .i64 q8] 24))
  replace HL := Lib.hid (Rd.go HL.out ((Below.refl _ _).alloc (Nat.le_refl _) (.cells #[.int .i64 q0, .int .i64 q1, .int .i64 q2, .int .i64 q3, .int .i64 q4, .int .i64 q5, .slice A3 cq.length c3, .int .i64 q7, .int .i64 q8] 24)))
  replace O1 := Lib.hid (O1.out.alloc (.cells #[.int .i64 q0, .int .i64 q1, .int .i64 q2, .int .i64 q3, .int .i64 q4, .int .i64 q5, .slice A3 cq.length c3, .int .i64 q7, .int .i64 q8] 24))
  replace O2 := Lib.hid (O2.out.alloc (.cells #[.int .i64 q0, .int .i64 q1, .int .i64 q2, .int .i64 q3, .int .i64 q4, .int .i64 q5, .slice A3 cq.length c3, .int .i64 q7, .int .i64 q8] 24))
  replace O3 := Lib.hid (O3.out.alloc (.cells #[.int .i64 q0, .int .i64 q1, .int .i64 q2, .int .i64 q3, .int .i64 q4, .int .i64 q5, .slice A3 cq.length c3, .int .i64 q7, .int .i64 q8] 24))
  replace HB := Lib.hid (HB.out.alloc HB.out.size (.cells #[.int .i64 q0, .int .i64 q1, .int .i64 q2, .int .i64 q3, .int .i64 q4, .int .i64 q5, .slice A3 cq.length c3, .int .i64 q7, .int .i64 q8] 24))
  have Kc := Lib.hid (Bk.new w6 24 #[.int .i64 q0, .int .i64 q1, .int .i64 q2, .int .i64 q3, .int .i64 q4, .int .i64 q5, .slice A3 cq.length c3, .int .i64 q7, .int .i64 q8])
  go_wp2_with fail
  obtain ⟨w7, hw7⟩ : ∃ w7, w7 = (w6.alloc (.cells #[.int .i64 q0, .int .i64 q1, .int .i64 q2, .int .i64 q3, .int .i64 q4, .int .i64 q5, .slice A3 cq.length c3, .int .i64 q7, .int .i64 q8] 24)) := ⟨_, rfl⟩
  have hz7 : w7.heap.size = w6.heap.size + 1 := by rw [hw7]; simp
  rw [← hw7] at HB Kp Kx Ka Kb Kc HL O1 O2 O3
  rw [← hw7]
  clear hw7 X1 X2 X3 X4
  have Y5 := Lib.hid (fun (w' : World) (hb : Below w7.heap.size w7 w') => X5.out (some ⟨gL, 0, none⟩) cap w' ((SpAt.lent (p := ⟨s0, s1, s2, s3, s4, s5, cy, s7, s8⟩) HL.out).go hb))
  have Y6 := Lib.hid (fun (w' : World) (hb : Below w7.heap.size w7 w') => X6.out A c w' (SpAt.go (show SpAt _ _ ⟨s0, s1, s2, s3, s4, s5, cy, s7, s8⟩ A from Rd.more (Rd.below HS.out HB.out (Nat.le_refl _)) HB.out.size) hb))
  have Y7 := Lib.hid (fun (w' : World) (hb : Below w7.heap.size w7 w') => X7.out A1 A3 c1 c3 w' (SpAt.of_own (own_go O1.out hb)) (SpAt.of_own (own_go O3.out hb)))
  have Y8 := Lib.hid (fun (w' : World) (hb : Below w7.heap.size w7 w') => kept_yes gL cap A cy.length c (fun k => cy.getD k 0) w' hc1 hc2 (by have e := (HL.out (by omega)); obtain ⟨ad, e1, e2, _⟩ := e; have := hb.size; have : ad = ⟨gL, 0, none⟩ := (by injection e1 with e1; exact e1.symm); subst this; have : gL < w7.heap.size := e2; omega) (by have := HN8.out; omega) (Rd.go HL.out hb) (SpAt.go (show SpAt _ _ ⟨s0, s1, s2, s3, s4, s5, cy, s7, s8⟩ A from Rd.more (Rd.below HS.out HB.out (Nat.le_refl _)) HB.out.size) hb))
  have cp_0 := Kp.out.cell 0
  have cp_1 := Kp.out.cell 1
  have cp_2 := Kp.out.cell 2
  have cp_3 := Kp.out.cell 3
  have cp_4 := Kp.out.cell 4
  have cp_5 := Kp.out.cell 5
  have cp_6 := Kp.out.cell 6
  have cp_7 := Kp.out.cell 7
  have cp_8 := Kp.out.cell 8
  simp at cp_0 cp_1 cp_2 cp_3 cp_4 cp_5 cp_6 cp_7 cp_8
  have cx_0 := Kx.out.cell 0
  have cx_1 := Kx.out.cell 1
  have cx_2 := Kx.out.cell 2
  have cx_3 := Kx.out.cell 3
  have cx_4 := Kx.out.cell 4
  have cx_5 := Kx.out.cell 5
  have cx_6 := Kx.out.cell 6
  have cx_7 := Kx.out.cell 7
  have cx_8 := Kx.out.cell 8
  simp at cx_0 cx_1 cx_2 cx_3 cx_4 cx_5 cx_6 cx_7 cx_8
  have ca_0 := Ka.out.cell 0
  have ca_1 := Ka.out.cell 1
  have ca_2 := Ka.out.cell 2
  have ca_3 := Ka.out.cell 3
  have ca_4 := Ka.out.cell 4
  have ca_5 := Ka.out.cell 5
  have ca_6 := Ka.out.cell 6
  have ca_7 := Ka.out.cell 7
  have ca_8 := Ka.out.cell 8
  simp at ca_0 ca_1 ca_2 ca_3 ca_4 ca_5 ca_6 ca_7 ca_8
  have cb_0 := Kb.out.cell 0
  have cb_1 := Kb.out.cell 1
  have cb_2 := Kb.out.cell 2
  have cb_3 := Kb.out.cell 3
  have cb_4 := Kb.out.cell 4
  have cb_5 := Kb.out.cell 5
  have cb_6 := Kb.out.cell 6
  have cb_7 := Kb.out.cell 7
  have cb_8 := Kb.out.cell 8
  simp at cb_0 cb_1 cb_2 cb_3 cb_4 cb_5 cb_6 cb_7 cb_8
  have cc_0 := Kc.out.cell 0
  have cc_1 := Kc.out.cell 1
  have cc_2 := Kc.out.cell 2
  have cc_3 := Kc.out.cell 3
  have cc_4 := Kc.out.cell 4
  have cc_5 := Kc.out.cell 5
  have cc_6 := Kc.out.cell 6
  have cc_7 := Kc.out.cell 7
  have cc_8 := Kc.out.cell 8
  simp at cc_0 cc_1 cc_2 cc_3 cc_4 cc_5 cc_6 cc_7 cc_8
  have hltp := Kp.out.lt
  have hltx := Kx.out.lt
  have hlta := Ka.out.lt
  have hltb := Kb.out.lt
  have hltc := Kc.out.lt
  have HSZ := Lib.hid (And.intro hz1 (And.intro hz2 (And.intro hz3 hz7)))
  clear hz1 hz2 hz3 hz7 hc1 hc2 hn hgx hpx hwx hq4
  refine wp_region_class (fun w' => Below w7.heap.size w7 w') (by kernel_rfl) (by kernel_rfl) ((Below.refl w7.heap.size w7).drew) ?_
  repeat (first
    | go_big_quiet_skip
    | (go_big_quiet_want; first
        | (go_big_quiet_op; go_big_quiet_on)
        | (refine qv_val (v := ?_) ?_ ?_; rotate_left 1; (intro w' hw'; obtain ⟨hcc, hff⟩ := bcell hw'; clear hff hw'; go_simp; (try with_reducible rfl)); (try simp only [Act.put, List.setIfInBounds_toArray, List.set_cons_zero, List.set_cons_succ]); go_big_quiet_on)
        | (refine qv_call (v := ?_) (f := ?_) (args := ?_) ?_ ?_ ?_; rotate_left 3; (intro w' hw'; clear hw'; go_simp; (refine ⟨?_, ?_⟩ <;> rfl)); (first | (intro w' hw'; refine (Y5.out w' hw').mono ?_; rintro e wh ⟨rfl, hbh⟩; refine ⟨?_, Below.trans hw' (hbh.mono hw'.size)⟩; skip; rfl) | (intro w' hw'; refine (Y6.out w' hw').mono ?_; rintro e wh ⟨rfl, hbh⟩; refine ⟨?_, Below.trans hw' (hbh.mono hw'.size)⟩; skip; rfl) | (intro w' hw'; refine (num_any _ _).mono ?_; rintro e w'' ⟨rfl, rfl⟩; refine ⟨?_, hw'⟩; skip; rfl) | (intro w' hw'; refine (Y8.out w' hw').mono ?_; rintro e wh ⟨rfl, hbh⟩; refine ⟨?_, Below.trans hw' (hbh.mono hw'.size)⟩; skip; rfl) | (intro w' hw'; refine (Y7.out w' hw').mono ?_; rintro e wh ⟨rfl, hbh⟩; refine ⟨?_, Below.trans hw' (hbh.mono hw'.size)⟩; skip; rfl)); (try simp only [Act.put, List.setIfInBounds_toArray, List.set_cons_zero, List.set_cons_succ]); go_big_quiet_on)))
  with_reducible refine wpQuiet_nil ?_
  intro w8 hw
  clear cp_0 cp_1 cp_2 cp_3 cp_4 cp_5 cp_6 cp_7 cp_8 cx_0 cx_1 cx_2 cx_3 cx_4 cx_5 cx_6 cx_7 cx_8 ca_0 ca_1 ca_2 ca_3 ca_4 ca_5 ca_6 ca_7 ca_8 cb_0 cb_1 cb_2 cb_3 cb_4 cb_5 cb_6 cb_7 cb_8 cc_0 cc_1 cc_2 cc_3 cc_4 cc_5 cc_6 cc_7 cc_8 hltp hltx hlta hltb hltc
  have hb := hw
  clear hw
  replace Kp := Lib.hid (Kp.out.go hb)
  replace Kx := Lib.hid (Kx.out.go hb)
  replace Ka := Lib.hid (Ka.out.go hb)
  replace Kb := Lib.hid (Kb.out.go hb)
  replace Kc := Lib.hid (Kc.out.go hb)
  replace HL := Lib.hid (Rd.go HL.out hb)
  replace O1 := Lib.hid (own_go O1.out hb)
  replace O2 := Lib.hid (own_go O2.out hb)
  replace O3 := Lib.hid (own_go O3.out hb)
  replace HB := Lib.hid (HB.out.trans (hb.mono HB.out.size))
  clear hb
  have ca_0 := Ka.out.cell 0
  have ca_1 := Ka.out.cell 1
  have ca_2 := Ka.out.cell 2
  have ca_3 := Ka.out.cell 3
  have ca_4 := Ka.out.cell 4
  have ca_5 := Ka.out.cell 5
  have ca_6 := Ka.out.cell 6
  have ca_7 := Ka.out.cell 7
  have ca_8 := Ka.out.cell 8
  simp at ca_0 ca_1 ca_2 ca_3 ca_4 ca_5 ca_6 ca_7 ca_8
  go_wp2_with fail
  clear ca_0 ca_1 ca_2 ca_3 ca_4 ca_5 ca_6 ca_7 ca_8
  refine (spoil_any A1 cq.length c1 _ (wri_own O1.out rfl) (by have := HQ4.out; omega)).mono ?_
  rintro e w9 ⟨rfl, tq⟩
  obtain ⟨z1, z2, z3, z7⟩ := HSZ.out
  have hA1 : ∀ k, A1 = some ⟨k, 0, none⟩ → w3.heap.size ≤ k ∧ k < w4.heap.size := fun k e => HLO1.out k (by rw [e]; rfl)
  simp only [World.size_alloc] at z2 z3
  have hbk : (w4.alloc (.cells #[.int .i64 q0, .int .i64 q1, .int .i64 q2, .int .i64 q3, .int .i64 q4, .int .i64 q5, .slice A1 cq.length c1, .int .i64 q7, .int .i64 q8] 24)).heap.size = w4.heap.size + 1 := by simp
  have KB9 := Lib.hid (Kb.out.touch tq (fun e => by have := hA1 _ e; omega))
  have KC9 := Lib.hid (Kc.out.touch tq (fun e => by have := hA1 _ e; omega))
  have O29 := Lib.hid (own_touch O2.out tq (fun k hk e => by have := hA1 _ e; have q := (HLO2.out k hk).1; simp only [World.size_alloc] at q; omega))
  have O39 := Lib.hid (own_touch O3.out tq (fun k hk e => by have := hA1 _ e; have q := (HLO3.out k hk).1; simp only [World.size_alloc] at q; omega))
  have HB9 : Hid (Below w.heap.size w w9) := Lib.hid (Below.touch HB.out tq (fun k hk e => by have := hA1 _ e; have := HW3.out; omega) (Nat.le_refl _))
  clear tq hbk z1 z2 z3 z7 hA1 O1 O2 O3 Kp Kx Ka Kb Kc HL HB
  have Kb := KB9
  have Kc := KC9
  have HB := HB9
  clear KB9 KC9 HB9
  have cb_0 := Kb.out.cell 0
  have cb_1 := Kb.out.cell 1
  have cb_2 := Kb.out.cell 2
  have cb_3 := Kb.out.cell 3
  have cb_4 := Kb.out.cell 4
  have cb_5 := Kb.out.cell 5
  have cb_6 := Kb.out.cell 6
  have cb_7 := Kb.out.cell 7
  have cb_8 := Kb.out.cell 8
  simp at cb_0 cb_1 cb_2 cb_3 cb_4 cb_5 cb_6 cb_7 cb_8
  have cc_0 := Kc.out.cell 0
  have cc_1 := Kc.out.cell 1
  have cc_2 := Kc.out.cell 2
  have cc_3 := Kc.out.cell 3
  have cc_4 := Kc.out.cell 4
  have cc_5 := Kc.out.cell 5
  have cc_6 := Kc.out.cell 6
  have cc_7 := Kc.out.cell 7
  have cc_8 := Kc.out.cell 8
  simp at cc_0 cc_1 cc_2 cc_3 cc_4 cc_5 cc_6 cc_7 cc_8
  go_wp2_with fail
  clear cb_0 cb_1 cb_2 cb_3 cb_4 cb_5 cb_6 cb_7 cb_8 cc_0 cc_1 cc_2 cc_3 cc_4 cc_5 cc_6 cc_7 cc_8
  refine (X7.out A2 A3 c2 c3 _ (SpAt.of_own O29.out) (SpAt.of_own O39.out)).mono ?_
  rintro e wa ⟨rfl, hb⟩
  replace HB := Lib.hid (HB.out.trans (hb.mono HB.out.size))
  clear hb
  go_wp2_with fail
  refine (awake_any _).mono ?_
  rintro e wb ⟨rfl, hb⟩
  replace HB := Lib.hid (HB.out.trans (hb.mono HB.out.size))
  clear hb
  go_wp2_with fail
  go_ret
  exact ⟨rfl, HB.out⟩
theorem walk_ParamsSps (a0_Wide : Int) (a0_High : Int) (a0_FrameBits : Int) (a0_PocType : Int) (a0_PocBits : Int) (a0_NonRef : Int) (a0_Cycle : Option Addr) (len_a0_Cycle cap_a0_Cycle : Nat) (z_a0_Cycle : Nat → Int) (a0_Refs : Int) (a0_Delay : Int) (a1 : ByteArray) (w : World) (w_a0_Wide : (Lit.int .i64 a0_Wide).wf = true) (w_a0_High : (Lit.int .i64 a0_High).wf = true) (w_a0_FrameBits : (Lit.int .i64 a0_FrameBits).wf = true) (w_a0_PocType : (Lit.int .i64 a0_PocType).wf = true) (w_a0_PocBits : (Lit.int .i64 a0_PocBits).wf = true) (w_a0_NonRef : (Lit.int .i64 a0_NonRef).wf = true) (w_a0_Cycle : IntsArg w a0_Cycle len_a0_Cycle cap_a0_Cycle z_a0_Cycle) (w_a0_Refs : (Lit.int .i64 a0_Refs).wf = true) (w_a0_Delay : (Lit.int .i64 a0_Delay).wf = true) (w_a1 : a1.size ≤ 1048576) :
    Calls Try.prog 3 #[.agg #[.int .i64 a0_Wide, .int .i64 a0_High, .int .i64 a0_FrameBits, .int .i64 a0_PocType, .int .i64 a0_PocBits, .int .i64 a0_NonRef, .slice a0_Cycle len_a0_Cycle cap_a0_Cycle, .int .i64 a0_Refs, .int .i64 a0_Delay], .string a1] w fun e w' => e = .returned (.bool true) ∧ Below w.heap.size w w' := by
  obtain ⟨hri, h0, hnc, hc8, _⟩ := w_a0_Cycle
  obtain ⟨cy, hcy⟩ : ∃ l, l = (List.range len_a0_Cycle).map z_a0_Cycle := ⟨_, rfl⟩
  have hs : SpAt w w.heap.size ⟨a0_Wide, a0_High, a0_FrameBits, a0_PocType, a0_PocBits, a0_NonRef, cy, a0_Refs, a0_Delay⟩ a0_Cycle := SpAt.arg hri hcy
  obtain rfl : cy.length = len_a0_Cycle := by rw [hcy]; simp
  exact sps_all _ _ _ _ _ _ cy a0_Cycle cap_a0_Cycle _ _ a1 w hs h0 (by omega) w_a1
end Go.Proofs.Ytegfglpaabddlaa
