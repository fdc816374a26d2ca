/- The document's Reader: More, Trail; Open. -/
import Derived.Test.YtegfglpaabddlaaBitI
namespace Go.Proofs.Ytegfglpaabddlaa
open Go.RowKit
set_option linter.unusedVariables false
set_option linter.unusedSimpArgs false
set_option maxRecDepth 100000 in
set_option maxHeartbeats 1600000 in
theorem trailr_any (g gB N : Nat) (f : Nat → Bool) (a : Nat) (w : World) (h : RR w g gB N f a) (hN : N ≤ 1125899906842624) (ha : a ≤ N) :
    Calls Try.prog 47 #[.pointer (some ⟨g, 0, none⟩)] w fun e w' => e = .returned (.int .i64 (trailR f N a).1) ∧ RRPost w g gB N f (trailR f N a).2 w' := by
  have H := Lib.hid h
  obtain ⟨⟨cp, hk⟩, hr⟩ := h
  have c0 : w.cell? ⟨g, 0, none⟩ = some (.slice (some ⟨gB, 0, none⟩) N cp) := hk.cell 0
  have c1 : w.cell? ⟨g, 1, none⟩ = some (.int .i64 a) := hk.cell 1
  have f1 := hk.frozen 1
  clear hk hr
  have hb := lastI_bd f N
  have e1 : IntKind.i64.wrap ((N : Int) - a) = (N : Int) - a := wr_in (by omega)
  have hno : lastI f N ≠ a → trailR f N a = (101, a) := fun q => by unfold trailR; rw [if_neg (fun h => q h.1)]
  by_cases h1 : (N : Int) - a < 1
  · have HT := Lib.hid (hno (by omega))
    have h1' : decide ((N : Int) - a < 1) = true := by simpa using h1
    clear hno hb
    go_enter Try.func47, Try.ntmps47
    go_wp2_with fail
    go_quiet (fail)
    go_wp2_with fail
    go_quiet (fail)
    go_wp2_with fail
    go_ret
    rw [HT.out]
    exact ⟨rfl, by (try simp only [World.drewN_drewN]); exact RRPost.drew H.out⟩
  have h1' : decide ((N : Int) - a < 1) = false := by simpa using h1
  by_cases h2 : 8 < (N : Int) - a
  · have HT := Lib.hid (show trailR f N a = (101, a) by unfold trailR; rw [if_neg (fun h => by have := h.2; omega)])
    have h2' : decide (8 < (N : Int) - a) = true := by simpa using h2
    clear hno hb h1
    go_enter Try.func47, Try.ntmps47
    go_wp2_with fail
    go_quiet (fail)
    go_wp2_with fail
    go_quiet (fail)
    go_wp2_with fail
    go_ret
    rw [HT.out]
    exact ⟨rfl, by (try simp only [World.drewN_drewN]); exact RRPost.drew H.out⟩
  have h2' : decide (8 < (N : Int) - a) = false := by simpa using h2
  have haN : a < N := by omega
  have haN8 : N ≤ a + 8 := by omega
  have haN2 : (a : Int) < N := by omega
  have ha0 : (0 : Int) ≤ a := Int.natCast_nonneg _
  have c2 : w.cell? ⟨gB, a, none⟩ = some (.int .u8 (bu (f a))) := H.out.2.2.2 a haN
  by_cases hf : f a = true
  · rw [hf] at c2
    have c2 : w.cell? ⟨gB, a, none⟩ = some (.int .u8 1) := c2
    have HF := Lib.hid hf
    have HNO := Lib.hid hno
    clear hno hb h1 h2 hf
    go_enter Try.func47, Try.ntmps47
    go_wp2_with fail
    go_quiet (fail)
    go_wp2_with fail
    go_quiet (fail)
    go_wp2_with fail
    clear c2 h1' h2' e1
    go_loop [4] (fun t => ∃ i : Nat, a < i ∧ i ≤ N ∧ t = .int .i64 i ∧ ∀ j, a < j → j < i → f j = false) (fun t => N - (intOf t).toNat)
    case atStart => exact ⟨a + 1, by omega, by omega, by go_num, fun j h1 h2 => by omega⟩
    case round =>
      obtain ⟨i, hi1, hi2, rfl, hall⟩ := hrel
      have HA := Lib.hid hall
      clear hall
      by_cases hlt : i < N
      · have c2 : w.cell? ⟨gB, i, none⟩ = some (.int .u8 (bu (f i))) := H.out.2.2.2 i hlt
        have hi0 : (0 : Int) ≤ i := Int.natCast_nonneg _
        have hiN : (i : Int) < N := by omega
        by_cases hb : f i = true
        · have hl := lastI_le f N i hlt hb
          have HT := Lib.hid (HNO.out (by omega))
          rw [hb] at c2
          have c2 : w.cell? ⟨gB, i, none⟩ = some (.int .u8 1) := c2
          clear hb hl
          go_wp2_with fail
          go_ret
          rw [HT.out]
          exact ⟨rfl, by (try simp only [World.drewN_drewN]); exact RRPost.drew H.out⟩
        · have hb0 : f i = false := by simpa using hb
          rw [hb0] at c2
          have c2 : w.cell? ⟨gB, i, none⟩ = some (.int .u8 0) := c2
          have HB := Lib.hid hb0
          clear hb hb0
          go_wp2_with fail
          go_round
          case rel =>
            refine ⟨i + 1, by omega, by omega, by go_num, fun j h1 h2 => ?_⟩
            by_cases hji : j = i
            · subst hji; exact HB.out
            · exact HA.out j h1 (by omega)
          case measure => simp [intOf]; omega
      · obtain rfl : i = N := by omega
        have ht : trailR f i a = (0, i) := by
          unfold trailR
          rw [if_pos ⟨(lastI_at f i a).2 ⟨by omega, HF.out, HA.out⟩, by omega⟩]
        have HT := Lib.hid ht
        clear ht
        go_wp2_with fail
        go_ret
        rw [HT.out]
        refine ⟨rfl, ?_⟩
        simp only [World.drewN_drewN]
        exact RRPost.then (RRPost.drew H.out) ((H.out.drewN _).set i)
  · have hf0 : f a = false := by simpa using hf
    have HT := Lib.hid (hno (fun q => by have := ((lastI_at f N a).1 q).2.1; rw [hf0] at this; cases this))
    rw [hf0] at c2
    have c2 : w.cell? ⟨gB, a, none⟩ = some (.int .u8 0) := c2
    clear hno hb h1 h2 hf hf0
    go_enter Try.func47, Try.ntmps47
    go_wp2_with fail
    go_quiet (fail)
    go_wp2_with fail
    go_quiet (fail)
    go_wp2_with fail
    go_ret
    rw [HT.out]
    exact ⟨rfl, by (try simp only [World.drewN_drewN]); exact RRPost.drew H.out⟩

theorem and1_u8 (a : Nat) (ha : a < 256) : bits .and .u8 (a : Int) 1 = ((a % 2 : Nat) : Int) := by
  show IntKind.u8.wrap ((BitVec.ofInt 8 (a : Int) &&& BitVec.ofInt 8 1).toNat : Int) = _
  rw [BitVec.toNat_and, BitVec.ofInt_natCast, BitVec.toNat_ofNat, Nat.mod_eq_of_lt (show a < 2 ^ 8 from ha)]
  rw [show (BitVec.ofInt 8 1).toNat = 1 from by decide, Nat.and_one_is_mod, u8_wrap]
  omega
theorem bitsV_map (F : Nat → Bool) (n : Nat) : bitsV ((List.range n).map F) = (List.range n).map fun k => .int .u8 (bu (F k)) := by simp [bitsV]
def OpenR (w : World) (s : ByteArray) (e : Ending) (w' : World) : Prop := ∃ gB cp, e = .returned (.slice (some ⟨gB, 0, none⟩) (8 * s.size) cp) ∧ w.heap.size ≤ gB ∧ gB < w'.heap.size ∧ (∀ k, k < 8 * s.size → w'.cell? ⟨gB, k, none⟩ = some (.int .u8 (bu (sbit s k)))) ∧ Below w.heap.size w w'

set_option maxRecDepth 100000 in
set_option maxHeartbeats 1600000 in
theorem openr_any (s : ByteArray) (w : World) (hs : s.size ≤ 17592186044416) :
    Calls Try.prog 44 #[.string s] w (OpenR w s) := by
  obtain ⟨i0, hi, hz0, hz1, hz2⟩ := info_parts u8_info
  obtain ⟨N, hN⟩ : ∃ N, N = 8 * s.size := ⟨_, rfl⟩
  have hNi : 8 * (s.size : Int) = N := by omega
  have hNb : N ≤ 140737488355328 := by omega
  have hmk := run_make_cap (P := Try.prog) 56 5 i0 (.int .u8 0) Try.underlying56 hi hz0 hz1 rfl N (by rw [hz2]; omega) (by omega) w
  have ho : (w.alloc (.cells (Array.replicate N (.int .u8 0)) 5)).ownsRow w.heap.size 5 1 (.slice (some ⟨w.heap.size, 0, none⟩) 0 N) 0 (bitsV ((List.range 0).map (sbit s))) :=
    ⟨rfl, .inr ⟨w.heap.size, N, _, rfl, Nat.le_refl _, heap_alloc_new w _, Nat.zero_le _, by unfold maxLen; omega, by simp, rfl⟩⟩
  have hb := (Below.refl w.heap.size w).alloc (Nat.le_refl _) (.cells (Array.replicate N (.int .u8 0)) 5)
  obtain ⟨w1, hw1⟩ : ∃ w1, w1 = w.alloc (.cells (Array.replicate N (.int .u8 0)) 5) := ⟨_, rfl⟩
  have hw1s : w.heap.size < w1.heap.size := by rw [hw1]; simp
  rw [← hw1] at hmk ho hb
  have HO := Lib.hid ho
  have HB := Lib.hid hb
  have HN := Lib.hid hN
  clear hw1 ho hb hN
  go_enter Try.func44, Try.ntmps44
  go_wp2_with fail
  clear hmk hNi
  go_loopw [3, 4] (fun v t wr => ∃ i : Nat, i ≤ s.size ∧ t = .int .i64 i ∧ wr.ownsRow w.heap.size 5 1 v (8 * i) (bitsV ((List.range (8 * i)).map (sbit s))) ∧ Below w.heap.size w wr ∧ (i = 0 → v = .slice (some ⟨w.heap.size, 0, none⟩) 0 N ∧ w.heap.size < wr.heap.size)) (fun _ t _ => s.size - (intOf t).toNat)
  case atStart => exact ⟨0, Nat.zero_le _, rfl, HO.out, HB.out, fun _ => ⟨rfl, hw1s⟩⟩
  case round =>
    obtain ⟨i, hi', rfl, ho, hb, h0⟩ := hrel
    have HB := Lib.hid hb
    have HO := Lib.hid ho
    by_cases hlt : i < s.size
    · have hi1 : (i : Int) < s.size := by omega
      clear ho hb h0
      go_wp2_with fail
      go_loopw [3, 5] (fun v t wr => ∃ j : Nat, j ≤ 8 ∧ t = .int .i64 (7 - (j : Int)) ∧ wr.ownsRow w.heap.size 5 1 v (8 * i + j) (bitsV ((List.range (8 * i + j)).map (sbit s))) ∧ Below w.heap.size w wr) (fun _ t _ => (intOf t + 1).toNat)
      case atStart => exact ⟨0, by omega, by go_num, HO.out, HB.out⟩
      case round =>
        clear HB HO
        obtain ⟨j, hj, rfl, ho, hb⟩ := hrel
        have HB := Lib.hid hb
        have HO := Lib.hid ho
        have hsz := hb.size
        clear ho hb
        by_cases hj8 : j < 8
        · obtain ⟨k, hk⟩ : ∃ k : Nat, (7 : Int) - j = k := ⟨7 - j, by omega⟩
          rw [hk]
          have hk8 : k ≤ 7 := by omega
          have hg := gS_at s i hlt
          have h255 := gS_lt s i
          obtain ⟨y, hy⟩ : ∃ y : Nat, y = gS s i := ⟨_, rfl⟩
          rw [← hy] at hg h255
          have hbit : bits .and .u8 ((y : Int) / 2 ^ k) 1 = bu (sbit s (8 * i + j)) := by
            have e : (y : Int) / 2 ^ k = ((y / 2 ^ k : Nat) : Int) := by simp
            rw [e, and1_u8 _ (Nat.lt_of_le_of_lt (Nat.div_le_self _ _) h255)]
            unfold bu sbit bitOf
            rw [show (8 * i + j) / 8 = i by omega, show 7 - (8 * i + j) % 8 = k by omega, Nat.testBit_eq_decide_div_mod_eq, ← hy]
            have : y / 2 ^ k % 2 = 0 ∨ y / 2 ^ k % 2 = 1 := by omega
            rcases this with h | h <;> simp [h]
          have hbit2 : bits .and .u8 ((y : Int) / 2 ^ min k 8) 1 = bu (sbit s (8 * i + j)) := by rw [Nat.min_eq_left (by omega)]; exact hbit
          obtain ⟨t, ht⟩ : ∃ t, t = bu (sbit s (8 * i + j)) := ⟨_, rfl⟩
          rw [← ht] at hbit hbit2
          have HT := Lib.hid ht
          have hk0 : (0 : Int) ≤ k := Int.natCast_nonneg _
          obtain ⟨n, hn⟩ : ∃ n, n = 8 * i + j := ⟨_, rfl⟩
          rw [← hn] at HO HT
          have hnb : n < 140737488355328 := by omega
          have HNN := Lib.hid hn
          have HK := Lib.hid hk
          clear hy ht hk hn
          go_wp2_with (at_builtin; refine wpList_append_own (P := Try.prog) _ rfl (.tmp 20) (.tmp 27) 56 rfl w.heap.size 5 i0 (.int .u8 0) 1 1 Try.underlying56 hi hz0 hz1 hz2 rfl (by decide) _ n _ rfl (HO.out.alloc _) ⟨wr.heap.size, 0, none⟩ 1 1 [.int .u8 t] rfl rfl ?c1 ?c2 (by unfold maxLen; omega) (by omega) (by simp; omega) ?_)
          case c1 =>
            intro j u hj
            rw [add_new]
            match j, hj with
            | 0, hj => simp at hj; subst hj; simp
          case c2 => intro u hu; simp at hu; subst hu; rfl
          intro v2 w2 hown2 hg2 _
          have hb2 : Below w.heap.size w w2 := (HB.out.alloc hsz _).grown hg2 (by simp; omega) (fun k hk => (HO.out.lt k hk).1)
          have ho2 : w2.ownsRow w.heap.size 5 1 v2 (8 * i + (j + 1)) (bitsV ((List.range (8 * i + (j + 1))).map (sbit s))) := by
            have e1 := HNN.out
            rw [show 8 * i + (j + 1) = n + 1 by omega, List.range_succ, List.map_append, bitsV_append]
            rw [HT.out] at hown2
            exact hown2
          have HB := Lib.hid hb2
          have HO := Lib.hid ho2
          clear hown2 hg2 hb2 ho2 hg hbit hbit2
          go_wp2_with fail
          go_roundw
          case rel => exact ⟨j + 1, by omega, by have := HK.out; congr 1; omega, HO.out, HB.out⟩
          case measure => simp [intOf]
        · obtain rfl : j = 8 := by omega
          have e0 : (7 : Int) - ((8 : Nat) : Int) = -1 := by omega
          rw [e0]
          clear e0
          go_wp2_with fail
          go_roundw
          case rel => exact ⟨i + 1, by omega, by go_num, by rw [show 8 * (i + 1) = 8 * i + 8 by omega]; exact HO.out, HB.out, fun q => by omega⟩
          case measure => simp [intOf]; omega
    · obtain rfl : i = s.size := by omega
      have hform : ∃ gB cp, u3 = .slice (some ⟨gB, 0, none⟩) (8 * s.size) cp ∧ w.heap.size ≤ gB ∧ gB < wr.heap.size ∧ ∀ k, k < 8 * s.size → wr.cell? ⟨gB, k, none⟩ = some (.int .u8 (bu (sbit s k))) := by
        rcases Nat.eq_zero_or_pos s.size with hz | hp
        · obtain ⟨rfl, hlt⟩ := h0 hz
          exact ⟨w.heap.size, N, by rw [hz], Nat.le_refl _, hlt, fun k hk => by omega⟩
        · obtain ⟨gB, cp, rfl, _, _, h1, h2⟩ := own_form ho (by omega)
          refine ⟨gB, cp, rfl, h1, h2, fun k hk => ?_⟩
          rw [ho.cellAt k (by omega), bitsV_map]
          simp [hk]
      obtain ⟨gB, cp, rfl, h1, h2, h3⟩ := hform
      have H3 := Lib.hid h3
      clear ho hb h0 h3
      go_wp2_with fail
      go_ret
      exact ⟨gB, cp, rfl, h1, h2, H3.out, HB.out⟩
end Go.Proofs.Ytegfglpaabddlaa
