/- The statement BitsReads: the walk. -/
import Derived.Test.YtbahmiiflkgigaaLawA
import Derived.Test.YtbahmiiflkgigaaBitJ
import Derived.Test.YtbahmiiflkgigaaStructs
import Derived.Deep.DeepCutAuto
namespace Go.Proofs.Ytbahmiiflkgigaa
open Go.RowKit
set_option linter.unusedVariables false
set_option linter.unusedSimpArgs false
attribute [local go_sem] and_3

/-- two Readers over one text -/
def RB (w wr : World) (g1 g2 gB : Nat) (s : ByteArray) (a1 a2 : Nat) : Prop :=
  Rr wr g1 s a1 ∧ RR wr g2 gB (8 * s.size) (sbit s) a2 ∧ Below w.heap.size w wr ∧ w.heap.size ≤ g1 ∧ w.heap.size ≤ g2 ∧ gB ≠ g1 ∧ a1 ≤ 8 * s.size ∧ a2 ≤ 8 * s.size
section
variable {w wr w2 : World} {g1 g2 gB : Nat} {s : ByteArray} {a1 a2 c : Nat}
theorem RB.ne (h : RB w wr g1 g2 gB s a1 a2) : g1 ≠ g2 := by
  obtain ⟨cp, hk⟩ := h.2.1.1
  exact Bk.ne_ h.1 hk (by decide)
theorem RB.size (h : RB w wr g1 g2 gB s a1 a2) : w.heap.size ≤ wr.heap.size := h.2.2.1.size
theorem RB.left (h : RB w wr g1 g2 gB s a1 a2) (k : RPost wr g1 s c w2) (hc : c ≤ 8 * s.size) : RB w w2 g1 g2 gB s c a2 := by
  have hn := h.ne
  obtain ⟨h1, ⟨⟨cp, hk⟩, q1, q2, q3⟩, h3, h4, h5, h6, h7, h8⟩ := h
  exact ⟨k.1, ⟨⟨cp, hk.touch k.2 (fun q => hn q.symm)⟩, q1, Nat.lt_of_lt_of_le q2 k.2.size, fun j hj => (k.2.cell (p := ⟨gB, j, none⟩) q2 h6).trans (q3 j hj)⟩, Below.touch h3 k.2 (fun i hi hs => by unfold RS at hs; omega) (Nat.le_refl _), h4, h5, h6, hc, h8⟩
theorem RB.right (h : RB w wr g1 g2 gB s a1 a2) (k : RRPost wr g2 gB (8 * s.size) (sbit s) c w2) (hc : c ≤ 8 * s.size) : RB w w2 g1 g2 gB s a1 c := by
  have hn := h.ne
  obtain ⟨h1, h2, h3, h4, h5, h6, h7, h8⟩ := h
  exact ⟨Bk.touch h1 k.2 hn, k.1, Below.touch h3 k.2 (fun i hi hs => by unfold RS at hs; omega) (Nat.le_refl _), h4, h5, h6, h7, hc⟩
theorem RB.go (h : RB w wr g1 g2 gB s a1 a2) (hb : Below wr.heap.size wr w2) : RB w w2 g1 g2 gB s a1 a2 :=
  ⟨Bk.go h.1 hb, h.2.1.go hb, h.2.2.1.trans (hb.mono h.size), h.2.2.2⟩
end
theorem drewN_below' (w : World) (n : Nat) : Below w.heap.size w (w.drewN n) := ⟨rfl, rfl, rfl, Nat.le_refl _, fun _ _ => rfl⟩
theorem bitsR_le {f : Nat → Bool} {N a : Nat} {n : Int} (h : a ≤ N) : (bitsR f N a n).at_ ≤ N := by
  unfold bitsR
  split
  · exact h
  · split
    · exact h
    · show a + n.toNat ≤ N
      omega
theorem ueR_le {f : Nat → Bool} {N a : Nat} (h : a ≤ N) : (ueR f N a).at_ ≤ N := (ueR_bd f N a h).2.2.2.1
theorem seR_le {f : Nat → Bool} {N a : Nat} (h : a ≤ N) : (seR f N a).at_ ≤ N := (ueR_bd f N a h).2.2.2.1
theorem teR_le {f : Nat → Bool} {N a : Nat} {m : Int} (h : a ≤ N) : (teR f N a m).at_ ≤ N := by
  unfold teR
  split
  · exact h
  · split
    · split
      · exact bitsR_le h
      · exact h
    · split
      · exact h
      · exact ueR_le h
theorem trailR_le {f : Nat → Bool} {N a : Nat} (h : a ≤ N) : (trailR f N a).2 ≤ N := by
  unfold trailR
  split
  · exact Nat.le_refl _
  · exact h

set_option maxRecDepth 100000 in
set_option maxHeartbeats 25600000 in
theorem walk_BitsReads (s : ByteArray) (a0 : Option Addr) (n0 c0 : Nat) (V : Nat → Nat → Value) (zK zX zN : Nat → Int) (w : World) (hs : s.size ≤ 1048576) (w_a0 : RowsOf w a0 n0 c0 3 V) (e_K : ∀ k, k < n0 → V k 0 = .int .i64 (zK k)) (e_X : ∀ k, k < n0 → V k 1 = .int .i64 (zX k)) (e_N : ∀ k, k < n0 → V k 2 = .int .i64 (zN k)) (f_K : ∀ k, (Lit.int .i64 (zK k)).wf = true) (f_X : ∀ k, (Lit.int .i64 (zX k)).wf = true) (f_N : ∀ k, (Lit.int .i64 (zN k)).wf = true) (s_a0 : c0 ≤ 1048576) :
    Calls Try.prog 8 #[.string s, .slice a0 n0 c0] w fun e w' => e = .returned (.bool true) ∧ Below w.heap.size w w' := by
  obtain ⟨hrow, hnil, hnc⟩ := w_a0
  have hn0 : n0 ≤ 1048576 := by omega
  have HROW := Lib.hid hrow
  have HK := Lib.hid e_K
  have HX := Lib.hid e_X
  have HN := Lib.hid e_N
  clear hrow hnil e_K e_X e_N f_K f_X f_N s_a0
  go_enter Try.func8, Try.ntmps8
  go_wp2_with fail
  refine (st_open _ _).mono ?_
  rintro e w1 ⟨rfl, hr⟩
  have HR := Lib.hid hr
  clear hr
  go_wp2_with fail
  refine (openr_any s _ (by omega)).mono ?_
  rintro e w2 ⟨gB, cp, rfl, hg1, hg2, hcell, hb⟩
  have HR1 := Lib.hid HR.out
  have HR := Lib.hid (HR.out.go hb)
  have hsz1 := HR.out.size
  have HC := Lib.hid hcell
  have hs1 : w.heap.size < w1.heap.size := by have := Bk.lt HR1.out.1; omega
  clear hb hcell
  go_wp2_with fail
  have hrb : RB w (w2.alloc (.cells #[.slice (some ⟨gB, 0, none⟩) (8 * s.size) cp, .int .i64 0] 53)) w.heap.size w2.heap.size gB s 0 0 := by
    have hb3 := (Below.refl w2.heap.size w2).alloc (Nat.le_refl _) (.cells #[.slice (some ⟨gB, 0, none⟩) (8 * s.size) cp, .int .i64 0] 53)
    have hr3 := HR.out.go hb3
    exact ⟨hr3.1, ⟨⟨cp, Bk.new _ _ _⟩, by omega, by simp; omega, fun k hk => (hb3.cell (p := ⟨gB, k, none⟩) hg2).trans (HC.out k hk)⟩, hr3.2.2, Nat.le_refl _, HR.out.size, by omega, Nat.zero_le _, Nat.zero_le _⟩
  have HRB := Lib.hid hrb
  clear hrb HC
  obtain ⟨N, hN⟩ : ∃ N, N = 8 * s.size := ⟨_, rfl⟩
  have hNb : N ≤ 8388608 := by omega
  have HNN := Lib.hid hN
  clear hN
  go_loopw [7] (fun t wr => ∃ (i a : Nat), i ≤ n0 ∧ i ≤ 100 ∧ t = .int .i64 i ∧ RB w wr w.heap.size w2.heap.size gB s a a) (fun t _ => 100 - (intOf t).toNat)
  case atStart => exact ⟨0, 0, Nat.zero_le _, by omega, rfl, HRB.out⟩
  case round =>
    clear HRB HR HR1
    obtain ⟨i, a, hi', hi100, rfl, hw⟩ := hrel
    by_cases hlt : i < n0 ∧ i < 100
    · obtain ⟨h1, h2⟩ := hlt
      have hsz := hw.size
      obtain ⟨ad, rfl, hadb, hc⟩ := HROW.out (by omega)
      have hbe := hw.2.2.1
      have cK : wr.cell? (ad.add (i * 3)) = some (.int .i64 (zK i)) := by have := hc i h1 0 (by omega); rw [HK.out i h1, Nat.add_zero] at this; exact (hbe.cell (by rw [block_add]; exact hadb)).trans this
      have cX : wr.cell? ⟨(ad.add (i * 3)).block, (ad.add (i * 3)).off + 1, none⟩ = some (.int .i64 (zX i)) := by rw [← add_off _ _ _ (by omega)]; have := hc i h1 1 (by omega); rw [HX.out i h1] at this; exact (hbe.cell (by rw [block_add]; exact hadb)).trans this
      have cN : wr.cell? ⟨(ad.add (i * 3)).block, (ad.add (i * 3)).off + 2, none⟩ = some (.int .i64 (zN i)) := by rw [← add_off _ _ _ (by omega)]; have := hc i h1 2 (by omega); rw [HN.out i h1] at this; exact (hbe.cell (by rw [block_add]; exact hadb)).trans this
      generalize zK i = K at *
      generalize zX i = X at *
      generalize zN i = N' at *
      have hi0 : (0 : Int) ≤ (i : Int) := Int.natCast_nonneg _
      have hi1 : (i : Int) < (n0 : Int) := by omega
      have hi2 : (i : Int) < 100 := by omega
      have HW := Lib.hid hw
      clear hw hc hbe hadb
      go_upto_block 2 with fail
      clear cK cX cN
      obtain ⟨wa, hwa⟩ : ∃ wa, wa = wr.alloc (.cells #[.int .i64 K, .int .i64 X, .int .i64 N'] 27) := ⟨_, rfl⟩
      have hbk : Bk wa wr.heap.size 27 #[.int .i64 K, .int .i64 X, .int .i64 N'] := by rw [hwa]; exact Bk.new _ _ _
      have HW := Lib.hid (HW.out.go (w2 := wa) (by rw [hwa]; exact (Below.refl _ _).alloc (Nat.le_refl _) _))
      rw [← hwa]
      have kal := hbk.lt
      have HBK := Lib.hid hbk
      clear hwa hbk
      go_cut [9, 10, 11, 12] (fun s9 s10 s11 s12 wx => ∃ (x e : Int) (c : Nat), s9 = .int .i64 x ∧ s10 = .int .i64 e ∧ s11 = .int .i64 x ∧ s12 = .int .i64 e ∧ RB w wx w.heap.size w2.heap.size gB s c c)
      case first =>
        have cK : wa.cell? ⟨wr.heap.size, 0, none⟩ = some (.int .i64 K) := HBK.out.cell 0
        have cX : wa.cell? ⟨wr.heap.size, 1, none⟩ = some (.int .i64 X) := HBK.out.cell 1
        have cN : wa.cell? ⟨wr.heap.size, 2, none⟩ = some (.int .i64 N') := HBK.out.cell 2
        rcases (by omega : K = 0 ∨ K = 1 ∨ K = 2 ∨ K = 3 ∨ (K ≠ 0 ∧ K ≠ 1 ∧ K ≠ 2 ∧ K ≠ 3 ∧ X % 4 = 0) ∨ (K ≠ 0 ∧ K ≠ 1 ∧ K ≠ 2 ∧ K ≠ 3 ∧ X % 4 ≠ 0)) with hk | hk | hk | hk | hk | hk
        · have t0 : (K == 0) = true := by rw [beq_iff_eq]; omega
          have t1 : (K == 1) = false := by rw [beq_eq_false_iff_ne]; omega
          have t2 : (K == 2) = false := by rw [beq_eq_false_iff_ne]; omega
          have t3 : (K == 3) = false := by rw [beq_eq_false_iff_ne]; omega
          clear hk
          have hle : (bitsR (sbit s) (8 * s.size) a N').at_ ≤ 8 * s.size := bitsR_le HW.out.2.2.2.2.2.2.1
          have h1c := rbits_any _ s a N' _ HW.out.1 (by omega) HW.out.2.2.2.2.2.2.1
          obtain ⟨r, hr⟩ : ∃ r, r = bitsR (sbit s) (8 * s.size) a N' := ⟨_, rfl⟩
          rw [← hr] at h1c hle
          have H1C := Lib.hid h1c
          have HR := Lib.hid hr
          clear h1c hr
          go_wp2_with fail
          ((with_reducible refine H1C.out.mono ?_))
          rintro e w3 ⟨rfl, hp⟩
          have HBK := Lib.hid (HBK.out.touch hp.2 (fun q => by have := HW.out.1; exact absurd q (HBK.out.ne_ this (by decide))))
          have HW := Lib.hid (HW.out.left hp hle)
          have h2c := bits2_any _ gB _ _ a N' _ HW.out.2.1 (by omega) HW.out.2.2.2.2.2.2.2
          rw [← HR.out] at h2c
          have H2C := Lib.hid h2c
          clear hp h2c cK cX cN H1C
          have cN : w3.cell? ⟨wr.heap.size, 2, none⟩ = some (.int .i64 N') := HBK.out.cell 2
          have kal3 := HBK.out.lt
          obtain ⟨x, ec, q⟩ := r
          go_wp2_with (first | (go_at_call 12; refine (num_any _ _).mono ?_; rintro e w' ⟨rfl, rfl⟩))
          ((with_reducible refine H2C.out.mono ?_))
          rintro e w4 ⟨rfl, hp⟩
          have HW := Lib.hid (HW.out.right hp hle)
          clear hp H2C cN HBK
          go_wp2_with fail
          go_meet
          exact ⟨_, _, _, rfl, rfl, rfl, rfl, HW.out⟩
        · have t0 : (K == 0) = false := by rw [beq_eq_false_iff_ne]; omega
          have t1 : (K == 1) = true := by rw [beq_iff_eq]; omega
          have t2 : (K == 2) = false := by rw [beq_eq_false_iff_ne]; omega
          have t3 : (K == 3) = false := by rw [beq_eq_false_iff_ne]; omega
          clear hk
          have hle : (ueR (sbit s) (8 * s.size) a).at_ ≤ 8 * s.size := ueR_le HW.out.2.2.2.2.2.2.1
          have h1c := rue_any _ s a _ HW.out.1 (by omega) HW.out.2.2.2.2.2.2.1
          obtain ⟨r, hr⟩ : ∃ r, r = ueR (sbit s) (8 * s.size) a := ⟨_, rfl⟩
          rw [← hr] at h1c hle
          have H1C := Lib.hid h1c
          have HR := Lib.hid hr
          clear h1c hr
          go_wp2_with fail
          ((with_reducible refine H1C.out.mono ?_))
          rintro e w3 ⟨rfl, hp⟩
          have HBK := Lib.hid (HBK.out.touch hp.2 (fun q => by have := HW.out.1; exact absurd q (HBK.out.ne_ this (by decide))))
          have HW := Lib.hid (HW.out.left hp hle)
          have h2c := uer_any _ gB _ _ a _ HW.out.2.1 (by omega) HW.out.2.2.2.2.2.2.2
          rw [← HR.out] at h2c
          have H2C := Lib.hid h2c
          clear hp h2c cK cX cN H1C
          have cN : w3.cell? ⟨wr.heap.size, 2, none⟩ = some (.int .i64 N') := HBK.out.cell 2
          have kal3 := HBK.out.lt
          obtain ⟨x, ec, q⟩ := r
          go_wp2_with (first | (go_at_call 12; refine (num_any _ _).mono ?_; rintro e w' ⟨rfl, rfl⟩))
          ((with_reducible refine H2C.out.mono ?_))
          rintro e w4 ⟨rfl, hp⟩
          have HW := Lib.hid (HW.out.right hp hle)
          clear hp H2C cN HBK
          go_wp2_with fail
          go_meet
          exact ⟨_, _, _, rfl, rfl, rfl, rfl, HW.out⟩
        · have t0 : (K == 0) = false := by rw [beq_eq_false_iff_ne]; omega
          have t1 : (K == 1) = false := by rw [beq_eq_false_iff_ne]; omega
          have t2 : (K == 2) = true := by rw [beq_iff_eq]; omega
          have t3 : (K == 3) = false := by rw [beq_eq_false_iff_ne]; omega
          clear hk
          have hle : (seR (sbit s) (8 * s.size) a).at_ ≤ 8 * s.size := seR_le HW.out.2.2.2.2.2.2.1
          have h1c := rse_any _ s a _ HW.out.1 (by omega) HW.out.2.2.2.2.2.2.1
          obtain ⟨r, hr⟩ : ∃ r, r = seR (sbit s) (8 * s.size) a := ⟨_, rfl⟩
          rw [← hr] at h1c hle
          have H1C := Lib.hid h1c
          have HR := Lib.hid hr
          clear h1c hr
          go_wp2_with fail
          ((with_reducible refine H1C.out.mono ?_))
          rintro e w3 ⟨rfl, hp⟩
          have HBK := Lib.hid (HBK.out.touch hp.2 (fun q => by have := HW.out.1; exact absurd q (HBK.out.ne_ this (by decide))))
          have HW := Lib.hid (HW.out.left hp hle)
          have h2c := ser_any _ gB _ _ a _ HW.out.2.1 (by omega) HW.out.2.2.2.2.2.2.2
          rw [← HR.out] at h2c
          have H2C := Lib.hid h2c
          clear hp h2c cK cX cN H1C
          have cN : w3.cell? ⟨wr.heap.size, 2, none⟩ = some (.int .i64 N') := HBK.out.cell 2
          have kal3 := HBK.out.lt
          obtain ⟨x, ec, q⟩ := r
          go_wp2_with (first | (go_at_call 12; refine (num_any _ _).mono ?_; rintro e w' ⟨rfl, rfl⟩))
          ((with_reducible refine H2C.out.mono ?_))
          rintro e w4 ⟨rfl, hp⟩
          have HW := Lib.hid (HW.out.right hp hle)
          clear hp H2C cN HBK
          go_wp2_with fail
          go_meet
          exact ⟨_, _, _, rfl, rfl, rfl, rfl, HW.out⟩
        · have t0 : (K == 0) = false := by rw [beq_eq_false_iff_ne]; omega
          have t1 : (K == 1) = false := by rw [beq_eq_false_iff_ne]; omega
          have t2 : (K == 2) = false := by rw [beq_eq_false_iff_ne]; omega
          have t3 : (K == 3) = true := by rw [beq_iff_eq]; omega
          clear hk
          have hle : (teR (sbit s) (8 * s.size) a N').at_ ≤ 8 * s.size := teR_le HW.out.2.2.2.2.2.2.1
          have h1c := rte_any _ s a N' _ HW.out.1 (by omega) HW.out.2.2.2.2.2.2.1
          obtain ⟨r, hr⟩ : ∃ r, r = teR (sbit s) (8 * s.size) a N' := ⟨_, rfl⟩
          rw [← hr] at h1c hle
          have H1C := Lib.hid h1c
          have HR := Lib.hid hr
          clear h1c hr
          go_wp2_with fail
          ((with_reducible refine H1C.out.mono ?_))
          rintro e w3 ⟨rfl, hp⟩
          have HBK := Lib.hid (HBK.out.touch hp.2 (fun q => by have := HW.out.1; exact absurd q (HBK.out.ne_ this (by decide))))
          have HW := Lib.hid (HW.out.left hp hle)
          have h2c := ter_any _ gB _ _ a N' _ HW.out.2.1 (by omega) HW.out.2.2.2.2.2.2.2
          rw [← HR.out] at h2c
          have H2C := Lib.hid h2c
          clear hp h2c cK cX cN H1C
          have cN : w3.cell? ⟨wr.heap.size, 2, none⟩ = some (.int .i64 N') := HBK.out.cell 2
          have kal3 := HBK.out.lt
          obtain ⟨x, ec, q⟩ := r
          go_wp2_with (first | (go_at_call 12; refine (num_any _ _).mono ?_; rintro e w' ⟨rfl, rfl⟩))
          ((with_reducible refine H2C.out.mono ?_))
          rintro e w4 ⟨rfl, hp⟩
          have HW := Lib.hid (HW.out.right hp hle)
          clear hp H2C cN HBK
          go_wp2_with fail
          go_meet
          exact ⟨_, _, _, rfl, rfl, rfl, rfl, HW.out⟩
        · have t0 : (K == 0) = false := by rw [beq_eq_false_iff_ne]; omega
          have t1 : (K == 1) = false := by rw [beq_eq_false_iff_ne]; omega
          have t2 : (K == 2) = false := by rw [beq_eq_false_iff_ne]; omega
          have t3 : (K == 3) = false := by rw [beq_eq_false_iff_ne]; omega
          have hx4 : (X % 4 == 0) = true := by rw [beq_iff_eq]; omega
          clear hk
          have h1c := more_any _ s a _ HW.out.1 (by omega)
          obtain ⟨mr, hmr⟩ : ∃ mr, mr = moreR (sbit s) (8 * s.size) a := ⟨_, rfl⟩
          rw [← hmr] at h1c
          have H1C := Lib.hid h1c
          have HMR := Lib.hid hmr
          clear h1c hmr
          go_wp2_with fail
          ((with_reducible refine H1C.out.mono ?_))
          rintro e w3 ⟨rfl, hp⟩
          have HBK := Lib.hid (HBK.out.touch hp.2 (fun q => by have := HW.out.1; exact absurd q (HBK.out.ne_ this (by decide))))
          have HW := Lib.hid (HW.out.left hp HW.out.2.2.2.2.2.2.1)
          have h2c := morer_any _ gB _ _ a _ HW.out.2.1 (by omega) HW.out.2.2.2.2.2.2.2
          rw [← HMR.out] at h2c
          have H2C := Lib.hid h2c
          clear hp h2c cK cX cN H1C
          have cX : w3.cell? ⟨wr.heap.size, 1, none⟩ = some (.int .i64 X) := HBK.out.cell 1
          have kal3 := HBK.out.lt
          go_wp2_with fail
          ((with_reducible refine H2C.out.mono ?_))
          rintro e w' ⟨rfl, rfl⟩
          clear H2C
          have h1c := trail_any _ s a _ HW.out.1 (by omega) HW.out.2.2.2.2.2.2.1
          have hle : (trailR (sbit s) (8 * s.size) a).2 ≤ 8 * s.size := trailR_le HW.out.2.2.2.2.2.2.1
          obtain ⟨r, hr⟩ : ∃ r, r = trailR (sbit s) (8 * s.size) a := ⟨_, rfl⟩
          rw [← hr] at h1c hle
          have H1C := Lib.hid h1c
          have HR := Lib.hid hr
          clear h1c hr
          go_wp2_with fail
          ((with_reducible refine H1C.out.mono ?_))
          rintro e w4 ⟨rfl, hp⟩
          have HW := Lib.hid (HW.out.left hp hle)
          have h2c := trailr_any _ gB _ _ a _ HW.out.2.1 (by omega) HW.out.2.2.2.2.2.2.2
          rw [← HR.out] at h2c
          have H2C := Lib.hid h2c
          clear hp h2c cX HBK H1C
          obtain ⟨ec, q⟩ := r
          go_wp2_with (first | (go_at_call 12; refine (num_any _ _).mono ?_; rintro e w' ⟨rfl, rfl⟩))
          ((with_reducible refine H2C.out.mono ?_))
          rintro e w5 ⟨rfl, hp⟩
          have HW := Lib.hid (HW.out.right hp hle)
          clear hp H2C
          go_wp2_with fail
          go_meet
          exact ⟨0, _, _, rfl, rfl, rfl, rfl, HW.out⟩
        · have t0 : (K == 0) = false := by rw [beq_eq_false_iff_ne]; omega
          have t1 : (K == 1) = false := by rw [beq_eq_false_iff_ne]; omega
          have t2 : (K == 2) = false := by rw [beq_eq_false_iff_ne]; omega
          have t3 : (K == 3) = false := by rw [beq_eq_false_iff_ne]; omega
          have hx4 : (X % 4 == 0) = false := by rw [beq_eq_false_iff_ne]; omega
          clear hk
          have h1c := more_any _ s a _ HW.out.1 (by omega)
          obtain ⟨mr, hmr⟩ : ∃ mr, mr = moreR (sbit s) (8 * s.size) a := ⟨_, rfl⟩
          rw [← hmr] at h1c
          have H1C := Lib.hid h1c
          have HMR := Lib.hid hmr
          clear h1c hmr
          go_wp2_with fail
          ((with_reducible refine H1C.out.mono ?_))
          rintro e w3 ⟨rfl, hp⟩
          have HBK := Lib.hid (HBK.out.touch hp.2 (fun q => by have := HW.out.1; exact absurd q (HBK.out.ne_ this (by decide))))
          have HW := Lib.hid (HW.out.left hp HW.out.2.2.2.2.2.2.1)
          have h2c := morer_any _ gB _ _ a _ HW.out.2.1 (by omega) HW.out.2.2.2.2.2.2.2
          rw [← HMR.out] at h2c
          have H2C := Lib.hid h2c
          clear hp h2c cK cX cN H1C
          have cX : w3.cell? ⟨wr.heap.size, 1, none⟩ = some (.int .i64 X) := HBK.out.cell 1
          have kal3 := HBK.out.lt
          go_wp2_with fail
          ((with_reducible refine H2C.out.mono ?_))
          rintro e w' ⟨rfl, rfl⟩
          clear H2C
          go_wp2_with fail
          go_meet
          exact ⟨0, 0, a, rfl, rfl, rfl, rfl, HW.out⟩
      case rest =>
        obtain ⟨x, ec, c, rfl, rfl, rfl, rfl, hw⟩ := hcut
        have c1 : wc.cell? ⟨w2.heap.size, 1, none⟩ = some (.int .i64 c) := by obtain ⟨⟨cp', hk⟩, hr⟩ := hw.2.1; exact hk.cell 1
        have hat : ∀ n, Calls Try.prog 28 #[.pointer (some ⟨w.heap.size, 0, none⟩)] (wc.drewN n) fun e w' => e = .returned (.int .i64 c) ∧ w' = wc.drewN n := fun n => (at_any _ s c (wc.drewN n) (Bk.drewN hw.1 n)).mono fun e w' q => ⟨q.1, q.2.symm⟩
        have HAT := Lib.hid hat
        have HW := Lib.hid hw
        clear hw hat HBK
        go_wp2_with fail
        go_quiet ((go_at_call 28; exact Calls.quiet_of_same (HAT.out _)))
        go_wp2_with fail
        go_roundw
        case rel => exact ⟨i + 1, c, by omega, by omega, by go_num, HW.out.go (drewN_below' _ _)⟩
        case measure => simp [intOf]; omega
    · have hst : ((n0 : Int) ≤ i ∧ (n0 : Int) ≤ i) ∨ ((i : Int) < n0 ∧ 100 ≤ (i : Int)) := by omega
      have HB := Lib.hid hw.2.2.1
      clear hw hlt
      rcases hst with ⟨h5, h6⟩ | ⟨h5, h6⟩
      all_goals
        go_wp2_with fail
        refine (awake_any _).mono ?_
        rintro e w2 ⟨rfl, hb⟩
        have HB2 := Lib.hid (HB.out.trans (hb.mono HB.out.size))
        clear hb HB
        go_wp2_with fail
        go_ret
        exact ⟨rfl, HB2.out⟩
end Go.Proofs.Ytbahmiiflkgigaa
