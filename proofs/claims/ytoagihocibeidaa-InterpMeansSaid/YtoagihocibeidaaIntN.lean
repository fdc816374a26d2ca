/- The statement Interps: the walk. -/
import Derived.Test.YtoagihocibeidaaIntM
namespace Go.Proofs.Ytoagihocibeidaa
open Go.RowKit
set_option linter.unusedVariables false
set_option linter.unusedSimpArgs false
attribute [local go_sem] ite_max ite_min

def Wr (w : World) (A : Option Addr) (m : Nat) : Prop := 0 < m → ∃ g, A = some ⟨g, 0, none⟩ ∧ g < w.heap.size ∧ Wri w g m
theorem Wr.go {w w' : World} {A : Option Addr} {m : Nat} (h : Wr w A m) (hb : Below w.heap.size w w') : Wr w' A m := fun hm => by
  obtain ⟨g, e, hg, h1, h2⟩ := h hm
  refine ⟨g, e, Nat.lt_of_lt_of_le hg hb.size, fun j hj => ?_, fun o => ?_⟩
  · obtain ⟨x, hx⟩ := h1 j hj
    exact ⟨x, (hb.cell (p := ⟨g, j, none⟩) hg).trans hx⟩
  · exact (hb.frozen (p := ⟨g, o, none⟩) hg).trans (h2 o)
theorem Rd.touch {S : Nat → Prop} {w w' : World} {A : Option Addr} {n : Nat} {f : Nat → Value} (h : Rd w w.heap.size A n f) (ht : Touch S w w') (hs : ∀ a, A = some a → ¬ S a.block) : Rd w' w'.heap.size A n f := fun hn => by
  obtain ⟨ad, e, hb, hc⟩ := h hn
  exact ⟨ad, e, Nat.lt_of_lt_of_le hb ht.size, fun k hk => (ht.cell (p := ad.add k) (by rw [block_add]; exact hb) (by rw [block_add]; exact hs ad e)).trans (hc k hk)⟩

theorem many_le {n : Nat} {W H x y bw bh : Int} : many (fairB n W H x y bw bh) (bw.toNat * bh.toNat) ≤ 256 := by
  unfold many
  split
  · rename_i h
    unfold fairB at h
    rw [decide_eq_true_iff] at h
    exact Nat.le_trans (Nat.mul_le_mul (show bw.toNat ≤ 16 by omega) (show bh.toNat ≤ 16 by omega)) (by omega)
  · omega

/-- what such a call leaves, for the statements -/
theorem gives_at {w w' : World} {m : Nat} {F : Nat → Int} {c : Int} {e : Ending} (h : Gives w m F c e w') :
    ∃ A cp, e = .returned (.tuple #[.slice A m cp, .int .i64 c]) ∧ Ri w' w'.heap.size A m F ∧ (∀ a, A = some a → w.heap.size ≤ a.block ∧ a.block < w'.heap.size) ∧ Wr w' A m ∧ Below w.heap.size w w' := by
  obtain ⟨v, rfl, ho, hb⟩ := h
  obtain ⟨A, cp, rfl, _, _, hr⟩ := Ri.of_own ho
  refine ⟨A, cp, rfl, hr, fun a q => ?_, fun hm => ?_, hb⟩
  · exact ho.lt a.block (by rw [q]; rfl)
  · rcases ho.2 with ⟨q, h0⟩ | ⟨g, cap, cur, q, hbg, hh, hnc, _, _, _⟩
    · omega
    · have hA : A = some ⟨g, 0, none⟩ := by injection q
      refine ⟨g, hA, (Array.getElem?_eq_some_iff.1 hh).1, fun j hj => ⟨F j, ?_⟩, fun o => Bk.frozen (t := 3) hh o⟩
      obtain ⟨ad, q2, _, hc⟩ := hr hm
      rw [hA] at q2
      obtain rfl : (⟨g, 0, none⟩ : Addr) = ad := by injection q2
      have := hc j hj
      rwa [add_new] at this

set_option maxRecDepth 100000 in
set_option maxHeartbeats 6400000 in
theorem walk_Interps (a0 : Option Addr) (n0 c0 : Nat) (z : Nat → Int) (W H x y bw bh : Int) (w : World) (w_a0 : BytesArg w a0 n0 c0 z) (w_a1 : (Lit.int .i64 W).wf = true) (w_a2 : (Lit.int .i64 H).wf = true) (w_a3 : (Lit.int .i64 x).wf = true) (w_a4 : (Lit.int .i64 y).wf = true) (w_a5 : (Lit.int .i64 bw).wf = true) (w_a6 : (Lit.int .i64 bh).wf = true) :
    Calls Try.prog 3 #[.slice a0 n0 c0, .int .i64 W, .int .i64 H, .int .i64 x, .int .i64 y, .int .i64 bw, .int .i64 bh] w fun e w' => e = .returned (.bool true) ∧ Below w.heap.size w w' := by
  obtain ⟨hr0, hnil, hnc, hcm, hz⟩ := w_a0
  have hx := i64_wf w_a3
  have hy := i64_wf w_a4
  clear w_a1 w_a2 w_a3 w_a4 w_a5 w_a6
  have HX := Lib.hid (And.intro hx hy)
  have hn0 : n0 ≤ 140737488351232 := by omega
  by_cases hin : (1 ≤ W ∧ W ≤ 40) ∧ (1 ≤ H ∧ H ≤ 40)
  · obtain ⟨WN, hWN⟩ : ∃ m : Nat, W = (m : Int) := ⟨W.toNat, by omega⟩
    obtain ⟨HN, hHN⟩ : ∃ m : Nat, H = (m : Int) := ⟨H.toNat, by omega⟩
    have hsb := fun k => plane_bd (n := n0) hz WN k
    have HPL := plane_any a0 n0 c0 z WN HN w hr0 (by omega) (by omega) (by omega)
    have hNb : WN * HN ≤ 1600 := Nat.le_trans (Nat.mul_le_mul (show WN ≤ 40 by omega) (show HN ≤ 40 by omega)) (by omega)
    rw [← hWN, ← hHN] at HPL
    have HPL := Lib.hid HPL
    clear hWN hHN
    obtain ⟨hin1, hin2⟩ := hin
    go_enter Try.func3, Try.ntmps3
    go_wp2_with fail
    refine HPL.out.mono ?_
    rintro e w0 ⟨rfl, har, hb⟩
    have BB := Lib.hid hb
    have RP : Hid (Rb w0 (some ⟨w.heap.size, 0, none⟩) (WN * HN) (planeF n0 z WN)) := Lib.hid har.rd
    obtain ⟨A, hA⟩ : ∃ A, A = some (⟨w.heap.size, 0, none⟩ : Addr) := ⟨_, rfl⟩
    have NIL : Hid (A = none → WN * HN = 0 ∧ WN * HN = 0) := Lib.hid (fun q => by rw [hA] at q; cases q)
    rw [← hA] at RP ⊢
    obtain ⟨s, hs⟩ : ∃ s, s = planeF n0 z WN := ⟨_, rfl⟩
    rw [← hs] at hsb RP
    obtain ⟨n, hn⟩ : ∃ n, n = WN * HN := ⟨_, rfl⟩
    rw [← hn] at NIL RP hNb ⊢
    obtain ⟨c, hc⟩ : ∃ c, c = n := ⟨_, rfl⟩
    clear hA hs hn hc har hb hin1 hin2 HPL hnil hr0
    go_wp2_with fail
    refine (lendb_any A n _ s _ RP.out NIL.out (by omega)).mono ?_
    rintro e w1 ⟨v, rfl, ⟨g, cap, rfl, hc1, hc2, hg, hrx⟩, hb⟩
    have BB := Lib.hid (BB.out.trans (hb.mono BB.out.size))
    have RP := Lib.hid (Rd.go RP.out hb)
    clear hb
    have RX := Lib.hid hrx
    clear hrx
    have SB := Lib.hid BB.out.size
    go_wp2_with fail
    refine Calls.mono (luma_any _ n _ s W H x y bw bh _ (Rb.lent RX.out) hsb HX.out.1 HX.out.2) ?_
    rintro e w2 hq
    obtain ⟨A1, p1, rfl, hr, hl, hwr, hb⟩ := gives_at hq
    clear hq
    have BB := Lib.hid (BB.out.trans (hb.mono BB.out.size))
    have RP := Lib.hid (Rd.go RP.out hb)
    have RX := Lib.hid (Rd.go RX.out hb)
    clear hb
    have R1 := Lib.hid hr
    have W1 := Lib.hid hwr
    have L1 := Lib.hid hl
    clear hr hwr hl
    go_wp2_with fail
    refine Calls.mono (luma_any _ n _ s W H x y bw bh _ (Rb.lent RX.out) hsb HX.out.1 HX.out.2) ?_
    rintro e w3 hq
    obtain ⟨A2, p2, rfl, hr, hl, -, hb⟩ := gives_at hq
    clear hq
    have S3 := Lib.hid hb.size
    have BB := Lib.hid (BB.out.trans (hb.mono BB.out.size))
    have RP := Lib.hid (Rd.go RP.out hb)
    have RX := Lib.hid (Rd.go RX.out hb)
    have R1 := Lib.hid (Rd.go R1.out hb)
    have W1 := Lib.hid (Wr.go W1.out hb)
    clear hb
    have R2 := Lib.hid hr
    have L2 := Lib.hid hl
    clear hr hl
    go_wp2_with fail
    refine Calls.mono (luma2_any _ n _ s W H x y bw bh _ RP.out hsb) ?_
    rintro e w4 hq
    obtain ⟨A3, p3, rfl, hr, hl, -, hb⟩ := gives_at hq
    clear hq
    have BB := Lib.hid (BB.out.trans (hb.mono BB.out.size))
    have RP := Lib.hid (Rd.go RP.out hb)
    have RX := Lib.hid (Rd.go RX.out hb)
    have R1 := Lib.hid (Rd.go R1.out hb)
    have W1 := Lib.hid (Wr.go W1.out hb)
    have R2 := Lib.hid (Rd.go R2.out hb)
    clear hb
    have R3 := Lib.hid hr
    have L3 := Lib.hid hl
    clear hr hl
    go_wp2_with fail
    refine Calls.mono (chroma_any _ n _ s W H x y bw bh _ (Rb.lent RX.out) hsb HX.out.1 HX.out.2) ?_
    rintro e w5 hq
    obtain ⟨A4, p4, rfl, hr, -, -, hb⟩ := gives_at hq
    clear hq
    have BB := Lib.hid (BB.out.trans (hb.mono BB.out.size))
    have RP := Lib.hid (Rd.go RP.out hb)
    have RX := Lib.hid (Rd.go RX.out hb)
    have R1 := Lib.hid (Rd.go R1.out hb)
    have W1 := Lib.hid (Wr.go W1.out hb)
    have R2 := Lib.hid (Rd.go R2.out hb)
    have R3 := Lib.hid (Rd.go R3.out hb)
    clear hb
    have R4 := Lib.hid hr
    clear hr
    go_wp2_with fail
    refine Calls.mono (chroma2_any _ n _ s W H x y bw bh _ RP.out hsb) ?_
    rintro e w6 hq
    obtain ⟨A5, p5, rfl, hr, -, -, hb⟩ := gives_at hq
    clear hq
    have BB := Lib.hid (BB.out.trans (hb.mono BB.out.size))
    have RP := Lib.hid (Rd.go RP.out hb)
    have RX := Lib.hid (Rd.go RX.out hb)
    have R1 := Lib.hid (Rd.go R1.out hb)
    have W1 := Lib.hid (Wr.go W1.out hb)
    have R2 := Lib.hid (Rd.go R2.out hb)
    have R3 := Lib.hid (Rd.go R3.out hb)
    have R4 := Lib.hid (Rd.go R4.out hb)
    clear hb
    have R5 := Lib.hid hr
    clear hr
    go_wp2_with fail
    refine (same_yes _ _ _ _ _ _ _ _ R1.out R3.out (Nat.le_trans many_le (by omega)) (fun _ _ => rfl)).mono ?_
    rintro e w7 ⟨rfl, hb⟩
    have BB := Lib.hid (BB.out.trans (hb.mono BB.out.size))
    have RP := Lib.hid (Rd.go RP.out hb)
    have RX := Lib.hid (Rd.go RX.out hb)
    have R1 := Lib.hid (Rd.go R1.out hb)
    have W1 := Lib.hid (Wr.go W1.out hb)
    have R2 := Lib.hid (Rd.go R2.out hb)
    have R3 := Lib.hid (Rd.go R3.out hb)
    have R4 := Lib.hid (Rd.go R4.out hb)
    have R5 := Lib.hid (Rd.go R5.out hb)
    clear hb
    go_wp2_with (go_at_call 16; refine (num_any _ _).mono ?_; rintro e w' ⟨rfl, rfl⟩)
    refine (same_yes _ _ _ _ _ _ _ _ R4.out R5.out (Nat.le_trans many_le (by omega)) (fun _ _ => rfl)).mono ?_
    rintro e w8 ⟨rfl, hb⟩
    have BB := Lib.hid (BB.out.trans (hb.mono BB.out.size))
    have RP := Lib.hid (Rd.go RP.out hb)
    have RX := Lib.hid (Rd.go RX.out hb)
    have R1 := Lib.hid (Rd.go R1.out hb)
    have W1 := Lib.hid (Wr.go W1.out hb)
    have R2 := Lib.hid (Rd.go R2.out hb)
    have R3 := Lib.hid (Rd.go R3.out hb)
    have R4 := Lib.hid (Rd.go R4.out hb)
    have R5 := Lib.hid (Rd.go R5.out hb)
    clear hb
    go_wp2_with (go_at_call 16; refine (num_any _ _).mono ?_; rintro e w' ⟨rfl, rfl⟩)
    refine (keptb_yes g cap _ n _ s _ hc1 hc2 (by omega) RX.out RP.out).mono ?_
    rintro e w' ⟨rfl, rfl⟩
    go_wp2_with fail
    refine (spoil_any A1 _ p1 _ (fun h => by obtain ⟨g, e, _, h2⟩ := W1.out h; exact ⟨g, e, h2⟩) (Nat.le_trans many_le (by omega))).mono ?_
    rintro e w9 ⟨rfl, ht⟩
    have R2 := Lib.hid (Rd.touch R2.out ht fun a q q' => by have h1 := (L1.out _ q').2; have h2 := (L2.out a q).1; simp at h1; omega)
    have R3 := Lib.hid (Rd.touch R3.out ht fun a q q' => by have h1 := (L1.out _ q').2; have h2 := (L3.out a q).1; have := S3.out; simp at h1; omega)
    have BB := Lib.hid (Below.touch BB.out ht (fun i hi q => by have h1 := (L1.out _ q).1; have := SB.out; simp at h1; omega) (Nat.le_refl _))
    clear ht
    go_wp2_with fail
    refine (same_yes _ _ _ _ _ _ _ _ R2.out R3.out (Nat.le_trans many_le (by omega)) (fun _ _ => rfl)).mono ?_
    rintro e w10 ⟨rfl, hb⟩
    have BB := Lib.hid (BB.out.trans (hb.mono BB.out.size))
    have R2 := Lib.hid (Rd.go R2.out hb)
    have R3 := Lib.hid (Rd.go R3.out hb)
    clear hb
    go_wp2_with fail
    refine (awake_any _).mono ?_
    rintro e w11 ⟨rfl, hb⟩
    have BB := Lib.hid (BB.out.trans (hb.mono BB.out.size))
    have R2 := Lib.hid (Rd.go R2.out hb)
    have R3 := Lib.hid (Rd.go R3.out hb)
    clear hb
    go_wp2_with fail
    go_ret
    exact ⟨rfl, BB.out⟩
  · rcases (by omega : W < 1 ∨ (1 ≤ W ∧ 40 < W) ∨ ((1 ≤ W ∧ W ≤ 40) ∧ H < 1) ∨ ((1 ≤ W ∧ W ≤ 40) ∧ (1 ≤ H ∧ 40 < H))) with hin2 | hin2 | hin2 | hin2
    all_goals
      obtain ⟨A, hA⟩ : ∃ A, A = a0 := ⟨_, rfl⟩
      obtain ⟨n, hn⟩ : ∃ n, n = n0 := ⟨_, rfl⟩
      obtain ⟨c, hc⟩ : ∃ c, c = c0 := ⟨_, rfl⟩
      subst hA hn hc
      obtain ⟨s, hs⟩ : ∃ s, s = z := ⟨_, rfl⟩
      subst hs
      have hsb := hz
      have BB := Lib.hid (Below.refl w.heap.size w)
      have RP : Hid (Rb w A n s) := Lib.hid hr0
      have NIL := Lib.hid hnil
      clear hr0 hnil hin
      go_enter Try.func3, Try.ntmps3
      go_wp2_with fail
      refine (lendb_any A n _ s _ RP.out NIL.out (by omega)).mono ?_
      rintro e w1 ⟨v, rfl, ⟨g, cap, rfl, hc1, hc2, hg, hrx⟩, hb⟩
      have BB := Lib.hid (BB.out.trans (hb.mono BB.out.size))
      have RP := Lib.hid (Rd.go RP.out hb)
      clear hb
      have RX := Lib.hid hrx
      clear hrx
      have SB := Lib.hid BB.out.size
      go_wp2_with fail
      refine Calls.mono (luma_any _ n _ s W H x y bw bh _ (Rb.lent RX.out) hsb HX.out.1 HX.out.2) ?_
      rintro e w2 hq
      obtain ⟨A1, p1, rfl, hr, hl, hwr, hb⟩ := gives_at hq
      clear hq
      have BB := Lib.hid (BB.out.trans (hb.mono BB.out.size))
      have RP := Lib.hid (Rd.go RP.out hb)
      have RX := Lib.hid (Rd.go RX.out hb)
      clear hb
      have R1 := Lib.hid hr
      have W1 := Lib.hid hwr
      have L1 := Lib.hid hl
      clear hr hwr hl
      go_wp2_with fail
      refine Calls.mono (luma_any _ n _ s W H x y bw bh _ (Rb.lent RX.out) hsb HX.out.1 HX.out.2) ?_
      rintro e w3 hq
      obtain ⟨A2, p2, rfl, hr, hl, -, hb⟩ := gives_at hq
      clear hq
      have S3 := Lib.hid hb.size
      have BB := Lib.hid (BB.out.trans (hb.mono BB.out.size))
      have RP := Lib.hid (Rd.go RP.out hb)
      have RX := Lib.hid (Rd.go RX.out hb)
      have R1 := Lib.hid (Rd.go R1.out hb)
      have W1 := Lib.hid (Wr.go W1.out hb)
      clear hb
      have R2 := Lib.hid hr
      have L2 := Lib.hid hl
      clear hr hl
      go_wp2_with fail
      refine Calls.mono (luma2_any _ n _ s W H x y bw bh _ RP.out hsb) ?_
      rintro e w4 hq
      obtain ⟨A3, p3, rfl, hr, hl, -, hb⟩ := gives_at hq
      clear hq
      have BB := Lib.hid (BB.out.trans (hb.mono BB.out.size))
      have RP := Lib.hid (Rd.go RP.out hb)
      have RX := Lib.hid (Rd.go RX.out hb)
      have R1 := Lib.hid (Rd.go R1.out hb)
      have W1 := Lib.hid (Wr.go W1.out hb)
      have R2 := Lib.hid (Rd.go R2.out hb)
      clear hb
      have R3 := Lib.hid hr
      have L3 := Lib.hid hl
      clear hr hl
      go_wp2_with fail
      refine Calls.mono (chroma_any _ n _ s W H x y bw bh _ (Rb.lent RX.out) hsb HX.out.1 HX.out.2) ?_
      rintro e w5 hq
      obtain ⟨A4, p4, rfl, hr, -, -, hb⟩ := gives_at hq
      clear hq
      have BB := Lib.hid (BB.out.trans (hb.mono BB.out.size))
      have RP := Lib.hid (Rd.go RP.out hb)
      have RX := Lib.hid (Rd.go RX.out hb)
      have R1 := Lib.hid (Rd.go R1.out hb)
      have W1 := Lib.hid (Wr.go W1.out hb)
      have R2 := Lib.hid (Rd.go R2.out hb)
      have R3 := Lib.hid (Rd.go R3.out hb)
      clear hb
      have R4 := Lib.hid hr
      clear hr
      go_wp2_with fail
      refine Calls.mono (chroma2_any _ n _ s W H x y bw bh _ RP.out hsb) ?_
      rintro e w6 hq
      obtain ⟨A5, p5, rfl, hr, -, -, hb⟩ := gives_at hq
      clear hq
      have BB := Lib.hid (BB.out.trans (hb.mono BB.out.size))
      have RP := Lib.hid (Rd.go RP.out hb)
      have RX := Lib.hid (Rd.go RX.out hb)
      have R1 := Lib.hid (Rd.go R1.out hb)
      have W1 := Lib.hid (Wr.go W1.out hb)
      have R2 := Lib.hid (Rd.go R2.out hb)
      have R3 := Lib.hid (Rd.go R3.out hb)
      have R4 := Lib.hid (Rd.go R4.out hb)
      clear hb
      have R5 := Lib.hid hr
      clear hr
      go_wp2_with fail
      refine (same_yes _ _ _ _ _ _ _ _ R1.out R3.out (Nat.le_trans many_le (by omega)) (fun _ _ => rfl)).mono ?_
      rintro e w7 ⟨rfl, hb⟩
      have BB := Lib.hid (BB.out.trans (hb.mono BB.out.size))
      have RP := Lib.hid (Rd.go RP.out hb)
      have RX := Lib.hid (Rd.go RX.out hb)
      have R1 := Lib.hid (Rd.go R1.out hb)
      have W1 := Lib.hid (Wr.go W1.out hb)
      have R2 := Lib.hid (Rd.go R2.out hb)
      have R3 := Lib.hid (Rd.go R3.out hb)
      have R4 := Lib.hid (Rd.go R4.out hb)
      have R5 := Lib.hid (Rd.go R5.out hb)
      clear hb
      go_wp2_with (go_at_call 16; refine (num_any _ _).mono ?_; rintro e w' ⟨rfl, rfl⟩)
      refine (same_yes _ _ _ _ _ _ _ _ R4.out R5.out (Nat.le_trans many_le (by omega)) (fun _ _ => rfl)).mono ?_
      rintro e w8 ⟨rfl, hb⟩
      have BB := Lib.hid (BB.out.trans (hb.mono BB.out.size))
      have RP := Lib.hid (Rd.go RP.out hb)
      have RX := Lib.hid (Rd.go RX.out hb)
      have R1 := Lib.hid (Rd.go R1.out hb)
      have W1 := Lib.hid (Wr.go W1.out hb)
      have R2 := Lib.hid (Rd.go R2.out hb)
      have R3 := Lib.hid (Rd.go R3.out hb)
      have R4 := Lib.hid (Rd.go R4.out hb)
      have R5 := Lib.hid (Rd.go R5.out hb)
      clear hb
      go_wp2_with (go_at_call 16; refine (num_any _ _).mono ?_; rintro e w' ⟨rfl, rfl⟩)
      refine (keptb_yes g cap _ n _ s _ hc1 hc2 (by omega) RX.out RP.out).mono ?_
      rintro e w' ⟨rfl, rfl⟩
      go_wp2_with fail
      refine (spoil_any A1 _ p1 _ (fun h => by obtain ⟨g, e, _, h2⟩ := W1.out h; exact ⟨g, e, h2⟩) (Nat.le_trans many_le (by omega))).mono ?_
      rintro e w9 ⟨rfl, ht⟩
      have R2 := Lib.hid (Rd.touch R2.out ht fun a q q' => by have h1 := (L1.out _ q').2; have h2 := (L2.out a q).1; simp at h1; omega)
      have R3 := Lib.hid (Rd.touch R3.out ht fun a q q' => by have h1 := (L1.out _ q').2; have h2 := (L3.out a q).1; have := S3.out; simp at h1; omega)
      have BB := Lib.hid (Below.touch BB.out ht (fun i hi q => by have h1 := (L1.out _ q).1; have := SB.out; simp at h1; omega) (Nat.le_refl _))
      clear ht
      go_wp2_with fail
      refine (same_yes _ _ _ _ _ _ _ _ R2.out R3.out (Nat.le_trans many_le (by omega)) (fun _ _ => rfl)).mono ?_
      rintro e w10 ⟨rfl, hb⟩
      have BB := Lib.hid (BB.out.trans (hb.mono BB.out.size))
      have R2 := Lib.hid (Rd.go R2.out hb)
      have R3 := Lib.hid (Rd.go R3.out hb)
      clear hb
      go_wp2_with fail
      refine (awake_any _).mono ?_
      rintro e w11 ⟨rfl, hb⟩
      have BB := Lib.hid (BB.out.trans (hb.mono BB.out.size))
      have R2 := Lib.hid (Rd.go R2.out hb)
      have R3 := Lib.hid (Rd.go R3.out hb)
      clear hb
      go_wp2_with fail
      go_ret
      exact ⟨rfl, BB.out⟩

end Go.Proofs.Ytoagihocibeidaa
