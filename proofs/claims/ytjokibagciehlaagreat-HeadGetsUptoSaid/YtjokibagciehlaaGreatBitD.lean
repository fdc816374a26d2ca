/- The program's Reader. -/
import Derived.Test.YtjokibagciehlaaGreatBitP
import Derived.Test.YtjokibagciehlaaGreatMask
import Derived.Test.YtjokibagciehlaaGreatTouch
namespace Go.Proofs.YtjokibagciehlaaGreat
open Go.RowKit
set_option linter.unusedVariables false
set_option linter.unusedSimpArgs false
attribute [local go_sem] and_1

/-- a text's byte, its bit -/
def gS (s : ByteArray) (i : Nat) : Nat := (s.data.getD i 0).toNat
theorem gS_at (s : ByteArray) (k : Nat) (h : k < s.size) : (s[k]'h).toNat = gS s k := by
  unfold gS
  rw [Array.getD_eq_getD_getElem?, Array.getElem?_eq_getElem (by exact h)]
  rfl
theorem gS_lt (s : ByteArray) (k : Nat) : gS s k < 256 := UInt8.toNat_lt _
def sbit (s : ByteArray) (a : Nat) : Bool := bitOf (gS s) a

def Rr (w : World) (g : Nat) (s : ByteArray) (a : Nat) : Prop := Bk w g 103 #[.string s, .int .i64 a]
def RS (g : Nat) (k : Nat) : Prop := k = g

theorem bit_any (g : Nat) (s : ByteArray) (a : Nat) (w : World) (c0 : w.cell? ⟨g, 0, none⟩ = some (.string s)) (hs : s.size ≤ 140737488351232) (ha : a < 8 * s.size) :
    Calls Tryz.prog 89 #[.pointer (some ⟨g, 0, none⟩), .int .i64 a] w fun e w' => e = .returned (.int .i64 (((sbit s a).toNat : Nat) : Int)) ∧ w = w' := by
  obtain ⟨q, hq⟩ : ∃ q : Nat, (a : Int) / 8 = q := ⟨a / 8, by omega⟩
  obtain ⟨r, hr⟩ : ∃ r : Nat, (a : Int) % 8 = r := ⟨a % 8, by omega⟩
  have hql : q < s.size := by omega
  have hr8 : r < 8 := by omega
  obtain ⟨t, ht⟩ : ∃ t : Nat, 7 - (r : Int) = t := ⟨7 - r, by omega⟩
  have ht8 : t < 8 := by omega
  have hb : ((gS s q : Nat) : Int) / 2 ^ t % 2 = (((sbit s a).toNat : Nat) : Int) := by
    unfold sbit bitOf
    rw [show a / 8 = q by omega, show 7 - a % 8 = t by omega, Nat.testBit_eq_decide_div_mod_eq]
    have e : ((gS s q : Nat) : Int) / 2 ^ t = ((gS s q / 2 ^ t : Nat) : Int) := by simp
    rw [e]
    have : gS s q / 2 ^ t % 2 = 0 ∨ gS s q / 2 ^ t % 2 = 1 := by omega
    rcases this with h | h
    · simp [h]; omega
    · simp [h]; omega
  have hg := gS_at s q hql
  have h255 := gS_lt s q
  obtain ⟨y, hy⟩ : ∃ y : Nat, y = gS s q := ⟨_, rfl⟩
  rw [← hy] at hb hg h255
  obtain ⟨z, hz⟩ : ∃ z : Nat, (y : Int) / 2 ^ t = z := ⟨y / 2 ^ t, by simp⟩
  have hz2 : z ≤ y := by
    have : z = y / 2 ^ t := by have e : (y : Int) / 2 ^ t = ((y / 2 ^ t : Nat) : Int) := by simp
                               omega
    rw [this]; exact Nat.div_le_self _ _
  rw [hz] at hb
  have HBB := Lib.hid hb
  clear hb hy
  go_enter Tryz.func89, Tryz.ntmps89
  go_wp2_with fail
  go_ret
  exact ⟨ret_int HBB.out, rfl⟩

theorem Rr.s {w : World} {g : Nat} {s : ByteArray} {a : Nat} (h : Rr w g s a) : w.cell? ⟨g, 0, none⟩ = some (.string s) := Bk.cell h 0
theorem Rr.a {w : World} {g : Nat} {s : ByteArray} {a : Nat} (h : Rr w g s a) : w.cell? ⟨g, 1, none⟩ = some (.int .i64 a) := Bk.cell h 1

theorem left_any (g : Nat) (s : ByteArray) (a : Nat) (w : World) (h : Rr w g s a) (hs : s.size ≤ 140737488351232) (ha : a ≤ 8 * s.size) :
    Calls Tryz.prog 56 #[.pointer (some ⟨g, 0, none⟩)] w fun e w' => e = .returned (.int .i64 (8 * s.size - a)) ∧ ∃ n, w' = w.drewN n := by
  have c0 := h.s
  have c1 := h.a
  have e1 : IntKind.i64.wrap (8 * (s.size : Int)) = 8 * s.size := wr_in (by omega)
  have e2 : IntKind.i64.wrap (8 * (s.size : Int) - a) = 8 * s.size - a := wr_in (by omega)
  clear h
  go_enter Tryz.func56, Tryz.ntmps56
  go_wp2_with fail
  go_quiet (fail)
  go_wp2_with fail
  go_ret
  exact ⟨rfl, _, rfl⟩

def RPost (w : World) (g : Nat) (s : ByteArray) (a : Nat) (w' : World) : Prop := Rr w' g s a ∧ Touch (RS g) w w'
theorem RPost.drew {w : World} {g : Nat} {s : ByteArray} {a n : Nat} (h : Rr w g s a) : RPost w g s a (w.drewN n) := ⟨Bk.drewN h n, (Touch.refl _ _).drewN n⟩
theorem RPost.then {w w1 w2 : World} {g : Nat} {s : ByteArray} {a b : Nat} (h : RPost w g s a w1) (k : RPost w1 g s b w2) : RPost w g s b w2 := ⟨k.1, h.2.trans k.2⟩

set_option maxRecDepth 100000 in
set_option maxHeartbeats 800000 in
theorem take_any (g : Nat) (s : ByteArray) (a n : Nat) (w : World) (h : Rr w g s a) (hs : s.size ≤ 140737488351232) (hn : n ≤ 62) (ha : a + n ≤ 8 * s.size) :
    Calls Tryz.prog 57 #[.pointer (some ⟨g, 0, none⟩), .int .i64 n] w fun e w' => e = .returned (.int .i64 (val (sbit s) a n)) ∧ RPost w g s (a + n) w' := by
  have H := Lib.hid h
  clear h
  go_enter Tryz.func57, Tryz.ntmps57
  go_wp2_with fail
  go_loopw [5, 7] (fun t u wr => ∃ j : Nat, j ≤ n ∧ t = .int .i64 ((val (sbit s) a j : Nat) : Int) ∧ u = .int .i64 j ∧ RPost w g s (a + j) wr) (fun _ u _ => n - (intOf u).toNat)
  case atStart => exact ⟨0, Nat.zero_le _, rfl, rfl, H.out, Touch.refl _ _⟩
  case round =>
    obtain ⟨j, hj, rfl, rfl, hp⟩ := hrel
    have HP := Lib.hid hp
    by_cases hlt : j < n
    · have c0 := hp.1.s
      have c1 := hp.1.a
      have f1 := Bk.frozen hp.1 1
      have hv := val_lt (sbit s) a j
      have h62 : (2 : Nat) ^ j ≤ 2 ^ 61 := Nat.pow_le_pow_right (by omega) (by omega)
      obtain ⟨x, hx⟩ : ∃ x, x = val (sbit s) a j := ⟨_, rfl⟩
      obtain ⟨p, hp'⟩ : ∃ p, p = a + j := ⟨_, rfl⟩
      have hxb : x < 2305843009213693952 := by omega
      rw [← hp'] at c1
      rw [← hx]
      have hps : p < 8 * s.size := by omega
      have hpb : p ≤ 1125899906809856 := by omega
      have HC := bit_any g s p wr c0 hs hps
      obtain ⟨y, hy⟩ : ∃ y, y = (sbit s p).toNat := ⟨_, rfl⟩
      rw [← hy] at HC
      have hy1 : y ≤ 1 := by rw [hy]; have := Bool.toNat_lt (sbit s p); omega
      have HC := Lib.hid HC
      have HX := Lib.hid hx
      have HY := Lib.hid hy
      have HPP := Lib.hid hp'
      have HS := Lib.hid hs
      have HA := Lib.hid ha
      have HPS := Lib.hid hps
      clear hp hv h62 hx hy hp' hs ha hps
      go_wp2_with fail
      refine HC.out.mono ?_
      rintro e w' ⟨rfl, rfl⟩
      go_wp2_with fail
      go_roundw
      case rel =>
        refine ⟨j + 1, by omega, ?_, by go_num, ?_⟩
        · rw [val, ← HX.out, ← HPP.out, ← HY.out]
          go_num
        · have h1 := HP.out
          have h2 := HPP.out
          refine ⟨?_, h1.2.setCell (p := ⟨g, 1, none⟩) (fun _ => rfl) _⟩
          have h3 := Bk.set_ h1.1 1 (.int .i64 ((p : Int) + 1))
          have e : ((a + (j + 1) : Nat) : Int) = (p : Int) + 1 := by omega
          show Bk _ g _ #[.string s, .int .i64 ((a + (j + 1) : Nat) : Int)]
          rw [e]
          exact h3
      case measure => simp [intOf]; omega
    · obtain rfl : j = n := by omega
      clear hp
      go_wp2_with fail
      go_ret
      exact ⟨rfl, HP.out⟩

theorem rbits_any (g : Nat) (s : ByteArray) (a : Nat) (n : Int) (w : World) (h : Rr w g s a) (hs : s.size ≤ 140737488351232) (ha : a ≤ 8 * s.size) :
    Calls Tryz.prog 20 #[.pointer (some ⟨g, 0, none⟩), .int .i64 n] w fun e w' => e = .returned (.tuple #[.int .i64 (bitsR (sbit s) (8 * s.size) a n).x, .int .i64 (bitsR (sbit s) (8 * s.size) a n).e]) ∧ RPost w g s (bitsR (sbit s) (8 * s.size) a n).at_ w' := by
  unfold bitsR
  have H := Lib.hid h
  by_cases h1 : n < 0
  · rw [if_pos (.inl h1)]
    clear h
    go_enter Tryz.func20, Tryz.ntmps20
    go_wp2_with fail
    go_ret2
    exact ⟨rfl, H.out, Touch.refl _ _⟩
  by_cases h2 : 32 < n
  · rw [if_pos (.inr h2)]
    clear h
    go_enter Tryz.func20, Tryz.ntmps20
    go_wp2_with fail
    go_ret2
    exact ⟨rfl, H.out, Touch.refl _ _⟩
  rw [if_neg (by omega)]
  have HL := Lib.hid (left_any g s a w h hs ha)
  by_cases h3 : ((8 * s.size : Nat) : Int) - a < n
  · rw [if_pos h3]
    have h4 : 8 * (s.size : Int) - a < n := by omega
    clear h h3
    go_enter Tryz.func20, Tryz.ntmps20
    go_wp2_with fail
    refine HL.out.mono ?_
    rintro e w' ⟨rfl, m, hm⟩
    subst hm
    go_wp2_with fail
    go_ret2
    exact ⟨rfl, RPost.drew H.out⟩
  · rw [if_neg h3]
    have h4 : ¬ 8 * (s.size : Int) - a < n := by omega
    obtain ⟨N, rfl⟩ : ∃ N : Nat, n = N := ⟨n.toNat, by omega⟩
    have HT := Lib.hid (fun (m : Nat) => take_any g s a N (w.drewN m) (Bk.drewN h m) hs (by omega) (by omega))
    clear h h3
    go_enter Tryz.func20, Tryz.ntmps20
    go_wp2_with fail
    refine HL.out.mono ?_
    rintro e w' ⟨rfl, m, hm⟩
    subst hm
    go_wp2_with fail
    refine (HT.out m).mono ?_
    rintro e w2 ⟨rfl, hp⟩
    have HP := Lib.hid ((RPost.drew H.out).then hp)
    clear hp
    go_wp2_with fail
    go_ret2
    exact ⟨rfl, HP.out⟩
end Go.Proofs.YtjokibagciehlaaGreat
