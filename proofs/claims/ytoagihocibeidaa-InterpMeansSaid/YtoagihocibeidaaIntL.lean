/- Luma and Chroma of both: every input; Plane; awake. -/
import Derived.Test.YtoagihocibeidaaIntK
namespace Go.Proofs.Ytoagihocibeidaa
open Go.RowKit
set_option linter.unusedVariables false
set_option linter.unusedSimpArgs false
attribute [local go_sem] ite_max ite_min

def many (b : Bool) (n : Nat) : Nat := if b = true then n else 0
theorem Gives.zero {w : World} {F G : Nat → Int} {c : Int} {e : Ending} {w' : World} (h : Gives w 0 F c e w') : Gives w 0 G c e w' := h

theorem fair_nat {n W H x y bw bh : Int} (h : fairB n W H x y bw bh = true) : ((bw.toNat : Nat) : Int) = bw ∧ ((bh.toNat : Nat) : Int) = bh := by
  unfold fairB at h
  rw [decide_eq_true_iff] at h
  omega

set_option maxHeartbeats 1600000 in
theorem luma2_no (A : Option Addr) (n c : Nat) (W H x y bw bh : Int) (w : World) (hf : fairB n W H x y bw bh = false) :
    Calls Try.prog 12 #[.slice A n c, .int .i64 W, .int .i64 H, .int .i64 x, .int .i64 y, .int .i64 bw, .int .i64 bh] w (Gives w 0 (fun _ => 0) 1200) := by
  refine Calls.mono (R := fun e w' => e = .returned (.tuple #[.slice none 0 0, .int .i64 1200]) ∧ w = w') ?_ (fun e w' q => gives_no w _ _ e w' ⟨q.1, q.2 ▸ Below.refl _ _⟩)
  have HM := Lib.hid (fair2 A n c W H x y bw bh w)
  have HF := Lib.hid hf
  clear hf
  go_enter Try.func12, Try.ntmps12
  go_wp2_with fail
  refine HM.out.mono ?_
  rw [HF.out]
  rintro e w' ⟨rfl, rfl⟩
  go_wp2_with fail
  go_ret2
  exact ⟨rfl, rfl⟩
set_option maxHeartbeats 1600000 in
theorem chroma2_no (A : Option Addr) (n c : Nat) (W H x y bw bh : Int) (w : World) (hf : fairB n W H x y bw bh = false) :
    Calls Try.prog 14 #[.slice A n c, .int .i64 W, .int .i64 H, .int .i64 x, .int .i64 y, .int .i64 bw, .int .i64 bh] w (Gives w 0 (fun _ => 0) 1200) := by
  refine Calls.mono (R := fun e w' => e = .returned (.tuple #[.slice none 0 0, .int .i64 1200]) ∧ w = w') ?_ (fun e w' q => gives_no w _ _ e w' ⟨q.1, q.2 ▸ Below.refl _ _⟩)
  have HM := Lib.hid (fair2 A n c W H x y bw bh w)
  have HF := Lib.hid hf
  clear hf
  go_enter Try.func14, Try.ntmps14
  go_wp2_with fail
  refine HM.out.mono ?_
  rw [HF.out]
  rintro e w' ⟨rfl, rfl⟩
  go_wp2_with fail
  go_ret2
  exact ⟨rfl, rfl⟩

section
variable (A : Option Addr) (n c : Nat) (s : Nat → Int) (W H x y bw bh : Int) (w : World) (hr : Rb w A n s) (hs : ∀ k, 0 ≤ s k ∧ s k ≤ 255) (hx : -9223372036854775808 ≤ x ∧ x ≤ 9223372036854775807) (hy : -9223372036854775808 ≤ y ∧ y ≤ 9223372036854775807)
include hr hs hx hy
theorem luma_any : Calls Try.prog 11 #[.slice A n c, .int .i64 W, .int .i64 H, .int .i64 x, .int .i64 y, .int .i64 bw, .int .i64 bh] w (Gives w (many (fairB n W H x y bw bh) (bw.toNat * bh.toNat)) (lumF s W H x y bw.toNat) (fairC n W H x y bw bh)) := by
  unfold many fairC
  cases hk : fairB n W H x y bw bh
  · exact luma_no A n c W H x y bw bh w hk hx hy
  · obtain ⟨h1, h2⟩ := fair_nat hk
    have := luma_yes A n c s W H x y bw.toNat bh.toNat w hr hs (by rw [h1, h2]; exact hk)
    rw [h1, h2] at this
    exact this
theorem chroma_any : Calls Try.prog 13 #[.slice A n c, .int .i64 W, .int .i64 H, .int .i64 x, .int .i64 y, .int .i64 bw, .int .i64 bh] w (Gives w (many (fairB n W H x y bw bh) (bw.toNat * bh.toNat)) (chrF s W H x y bw.toNat) (fairC n W H x y bw bh)) := by
  unfold many fairC
  cases hk : fairB n W H x y bw bh
  · exact chroma_no A n c W H x y bw bh w hk hx hy
  · obtain ⟨h1, h2⟩ := fair_nat hk
    have := chroma_yes A n c s W H x y bw.toNat bh.toNat w hr hs (by rw [h1, h2]; exact hk)
    rw [h1, h2] at this
    exact this
omit hx hy in
theorem luma2_any : Calls Try.prog 12 #[.slice A n c, .int .i64 W, .int .i64 H, .int .i64 x, .int .i64 y, .int .i64 bw, .int .i64 bh] w (Gives w (many (fairB n W H x y bw bh) (bw.toNat * bh.toNat)) (lumF s W H x y bw.toNat) (fairC n W H x y bw bh)) := by
  unfold many fairC
  cases hk : fairB n W H x y bw bh
  · exact luma2_no A n c W H x y bw bh w hk
  · obtain ⟨h1, h2⟩ := fair_nat hk
    have := luma2_yes A n c s W H x y bw.toNat bh.toNat w hr hs (by rw [h1, h2]; exact hk)
    rw [h1, h2] at this
    exact this
omit hx hy in
theorem chroma2_any : Calls Try.prog 14 #[.slice A n c, .int .i64 W, .int .i64 H, .int .i64 x, .int .i64 y, .int .i64 bw, .int .i64 bh] w (Gives w (many (fairB n W H x y bw bh) (bw.toNat * bh.toNat)) (chrF s W H x y bw.toNat) (fairC n W H x y bw bh)) := by
  unfold many fairC
  cases hk : fairB n W H x y bw bh
  · exact chroma2_no A n c W H x y bw bh w hk
  · obtain ⟨h1, h2⟩ := fair_nat hk
    have := chroma2_yes A n c s W H x y bw.toNat bh.toNat w hr hs (by rw [h1, h2]; exact hk)
    rw [h1, h2] at this
    exact this
end

/-- what such a call leaves, opened -/
theorem gives_sl {w w' : World} {m : Nat} {F : Nat → Int} {c : Int} {e : Ending} (h : Gives w m F c e w') :
    ∃ A cp, e = .returned (.tuple #[.slice A m cp, .int .i64 c]) ∧ Ri w' w'.heap.size A m F ∧ (∀ g, A = some ⟨g, 0, none⟩ → w.heap.size ≤ g ∧ g < w'.heap.size) ∧ (0 < m → ∃ g, A = some ⟨g, 0, none⟩ ∧ Wri w' g m) ∧ Below w.heap.size w w' := by
  obtain ⟨v, rfl, ho, hb⟩ := h
  obtain ⟨A, cp, rfl, _, _, hr⟩ := Ri.of_own ho
  refine ⟨A, cp, rfl, hr, fun g q => ?_, fun hm => ?_, hb⟩
  · exact ho.lt g (by rw [q]; rfl)
  · rcases ho.2 with ⟨q, h0⟩ | ⟨g, cap, cur, q, hbg, hh, hnc, _, _, _⟩
    · omega
    · have hA : A = some ⟨g, 0, none⟩ := by injection q
      refine ⟨g, hA, fun j hj => ⟨F j, ?_⟩, fun o => Bk.frozen (t := 3) hh o⟩
      obtain ⟨ad, q2, _, hc⟩ := hr hm
      rw [hA] at q2
      obtain rfl : (⟨g, 0, none⟩ : Addr) = ad := by injection q2
      have := hc j hj
      rwa [add_new] at this

def planeF (n : Nat) (bs : Nat → Int) (W : Nat) (i : Nat) : Int := if 0 < n then bs (i % n) else ((i * 7 + i / W * 31 : Nat) : Int) % 256
theorem plane_bd {n : Nat} {bs : Nat → Int} (hs : ∀ k, 0 ≤ bs k ∧ bs k ≤ 255) (W i : Nat) : 0 ≤ planeF n bs W i ∧ planeF n bs W i ≤ 255 := by
  unfold planeF
  split
  · exact hs _
  · omega

theorem u8_wrap (x : Int) : IntKind.u8.wrap x = x % 256 := by simp [IntKind.wrap, IntKind.signed, IntKind.bits]

set_option maxHeartbeats 3200000 in
theorem plane_any (A : Option Addr) (n c : Nat) (bs : Nat → Int) (W H : Nat) (w : World) (hr : Rb w A n bs) (hn : n ≤ 140737488355328) (hW : 1 ≤ W ∧ W ≤ 40) (hH : 1 ≤ H ∧ H ≤ 40) :
    Calls Try.prog 9 #[.slice A n c, .int .i64 W, .int .i64 H] w fun e w' => e = .returned (.slice (some ⟨w.heap.size, 0, none⟩) (W * H) (W * H)) ∧ Ar w' w.heap.size (W * H) (fun i => .int .u8 (planeF n bs W i)) ∧ Below w.heap.size w w' := by
  obtain ⟨i0, hi, hz0, hz1, hz2⟩ := info_parts u8_info
  obtain ⟨N, hN⟩ : ∃ N, N = W * H := ⟨_, rfl⟩
  have hNb : N ≤ 1600 := by rw [hN]; exact Nat.le_trans (Nat.mul_le_mul (show W ≤ 40 by omega) (show H ≤ 40 by omega)) (by omega)
  have hmk := run_make_one (P := Try.prog) 22 5 i0 (.int .u8 0) Try.underlying22 hi hz0 hz1 rfl N (by rw [hz2]; omega) (by omega)
  have HR := Lib.hid hr
  have E1 := Lib.hid (show wrap64 ((W : Int) * (H : Int)) = (N : Int) by rw [← Int.natCast_mul, ← hN]; unfold wrap64; omega)
  rw [← hN]
  clear hN hr
  have e1 := E1.out
  go_enter Try.func9, Try.ntmps9
  go_wp2_with fail
  rw [e1]
  clear e1 hmk
  go_loopw [8] (fun t wr => ∃ k : Nat, k ≤ N ∧ t = .int .i64 k ∧ Ar wr w.heap.size N (fun i => if i < k then .int .u8 (planeF n bs W i) else .int .u8 0) ∧ Below w.heap.size w wr) (fun t _ => N - (intOf t).toNat)
  case atStart => exact ⟨0, Nat.zero_le _, rfl, (Ar.made _ _ _ _).congr fun i hi => by rw [if_neg (by omega)], (Below.refl _ _).alloc (Nat.le_refl _) _⟩
  case round =>
    obtain ⟨k, hk, rfl, har, hbl⟩ := hrel
    have HA := Lib.hid har
    have BB := Lib.hid hbl
    by_cases hlt : k < N
    · have c1 := har.1 k hlt
      have c2 := har.2.1 k
      simp only [Nat.lt_irrefl, if_false] at c1
      have kl := har.2.2
      obtain ⟨q, hq⟩ : ∃ q, q = k / W := ⟨_, rfl⟩
      have hqb : q ≤ 1600 := by rw [hq]; exact Nat.le_trans (Nat.div_le_self _ _) (by omega)
      have t1 : (k : Int) / (W : Int) = (q : Int) := by rw [hq, Int.natCast_ediv]
      have t2 : (k : Int).tdiv (W : Int) = (q : Int) := by rw [hq, Int.natCast_ediv, Int.tdiv_eq_ediv_of_nonneg (by omega)]
      have hW0 : ¬ W = 0 := by omega
      have hW1 : ((W : Int) == 0) = false := by simp; omega
      have hi0 : (0 : Int) ≤ (k : Int) := Int.natCast_nonneg _
      have hi1 : (k : Int) < (N : Int) := by omega
      have hpf := u8_wrap ((k : Int) * 7 + (q : Int) * 31)
      have HQ := Lib.hid hq
      clear har hbl hq
      by_cases h0 : 0 < n
      · obtain ⟨r, hr0⟩ : ∃ r, r = k % n := ⟨_, rfl⟩
        have hrb : r < n := by rw [hr0]; exact Nat.mod_lt _ h0
        obtain ⟨ad, rfl, hb, hc⟩ := HR.out.at_ hrb
        have hc1 : wr.cell? (ad.add r) = some (.int .u8 (bs r)) := (BB.out.cell (by rw [block_add]; exact hb)).trans hc
        have hne : ad.block ≠ w.heap.size := by omega
        have hc2 : ∀ x, (wr.setCell ⟨w.heap.size, k, none⟩ (.int .u8 x)).cell? (ad.add r) = some (.int .u8 (bs r)) := fun x => (World.cell?_setCell_other _ _ _ _ (fun e => hne (by rw [← block_add ad r, ← e]))).trans hc1
        have t3 : (k : Int) % (n : Int) = (r : Int) := by rw [hr0, Int.natCast_emod]
        have t4 : (k : Int).tmod (n : Int) = (r : Int) := by rw [hr0, Int.natCast_emod, Int.tmod_eq_emod_of_nonneg (by omega)]
        have hn0 : ¬ n = 0 := by omega
        have hn1 : ((n : Int) == 0) = false := by simp; omega
        have hr1 : (0 : Int) ≤ (r : Int) := Int.natCast_nonneg _
        have hr2 : (r : Int) < (n : Int) := by omega
        have HR0 := Lib.hid hr0
        clear hr0 hb hc hc1
        go_wp2_with fail
        go_roundw
        case rel =>
          refine ⟨k + 1, by omega, by go_num, ((HA.out.set_ hlt _).set_ hlt (.int .u8 (bs r))).congr fun i hi => ?_, (BB.out.setCell (Nat.le_refl _) _).setCell (Nat.le_refl _) _⟩
          by_cases hik : i = k
          · subst hik
            show (if i = i then _ else _) = if i < i + 1 then _ else _
            rw [if_pos rfl, if_pos (by omega)]
            unfold planeF
            rw [if_pos h0, HR0.out]
          · show (if i = k then _ else (if i = k then _ else _)) = if i < k + 1 then _ else _
            rw [if_neg hik, if_neg hik]
            by_cases h5 : i < k
            · rw [if_pos h5, if_pos (by omega)]
            · rw [if_neg h5, if_neg (by omega)]
        case measure => simp [intOf]; omega
      · go_wp2_with fail
        go_roundw
        case rel =>
          refine ⟨k + 1, by omega, by go_num, (HA.out.set_ hlt _).congr fun i hi => ?_, BB.out.setCell (Nat.le_refl _) _⟩
          by_cases hik : i = k
          · subst hik
            show (if i = i then _ else _) = if i < i + 1 then _ else _
            rw [if_pos rfl, if_pos (by omega)]
            unfold planeF
            rw [if_neg h0, ← HQ.out]
            first | rfl | (congr 1; omega) | (simp; omega)
          · show (if i = k then _ else _) = if i < k + 1 then _ else _
            rw [if_neg hik]
            by_cases h5 : i < k
            · rw [if_pos h5, if_pos (by omega)]
            · rw [if_neg h5, if_neg (by omega)]
        case measure => simp [intOf]; omega
    · obtain rfl : k = N := by omega
      clear har hbl
      go_wp2_with fail
      go_ret
      exact ⟨rfl, HA.out.congr fun i hi => if_pos hi, BB.out⟩

end Go.Proofs.Ytoagihocibeidaa
