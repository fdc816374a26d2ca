/- Blocks of coefficients: places, te, Size of both. -/
import Derived.Test.YtocooplmfkeepaaLevP
import Derived.Test.YtocooplmfkeepaaBitG
import Derived.Test.YtocooplmfkeepaaRow
import Derived.Test.YtocooplmfkeepaaInts
namespace Go.Proofs.Ytocooplmfkeepaa
open Go.RowKit
set_option linter.unusedVariables false
set_option linter.unusedSimpArgs false

def natV (l : List Nat) : List Value := l.map fun n : Nat => .int .i64 (n : Int)
theorem natV_len (l : List Nat) : (natV l).length = l.length := by simp [natV]
theorem natV_append (a b : List Nat) : natV (a ++ b) = natV a ++ natV b := by simp [natV]

theorem size_any (k : Nat) (w : World) : Calls Try.prog 34 #[.int .i64 k] w fun e w' => e = .returned (.bool (sizeOk k)) ∧ w = w' := by
  have e4 : ((k : Int) == 4) = (k == 4) := by rw [Bool.eq_iff_iff]; simp; omega
  have e15 : ((k : Int) == 15) = (k == 15) := by rw [Bool.eq_iff_iff]; simp; omega
  have e16 : ((k : Int) == 16) = (k == 16) := by rw [Bool.eq_iff_iff]; simp; omega
  unfold sizeOk
  cases h4 : (k == 4) <;> cases h15 : (k == 15) <;> cases h16 : (k == 16)
  all_goals
    rw [h4] at e4
    rw [h15] at e15
    rw [h16] at e16
    clear h4 h15 h16
    go_enter Try.func34, Try.ntmps34
    go_wp2_with fail
    go_ret
    exact ⟨rfl, rfl⟩
theorem size2_any (k : Nat) (w : World) : Calls Try.prog 37 #[.int .i64 k] w fun e w' => e = .returned (.bool (sizeOk k)) ∧ w = w' := by
  have e4 : ((k : Int) == 4) = (k == 4) := by rw [Bool.eq_iff_iff]; simp; omega
  have e15 : ((k : Int) == 15) = (k == 15) := by rw [Bool.eq_iff_iff]; simp; omega
  have e16 : ((k : Int) == 16) = (k == 16) := by rw [Bool.eq_iff_iff]; simp; omega
  unfold sizeOk
  cases h4 : (k == 4) <;> cases h15 : (k == 15) <;> cases h16 : (k == 16)
  all_goals
    rw [h4] at e4
    rw [h15] at e15
    rw [h16] at e16
    clear h4 h15 h16
    go_enter Try.func37, Try.ntmps37
    go_wp2_with fail
    go_ret
    exact ⟨rfl, rfl⟩

set_option maxHeartbeats 1600000 in
theorem places_any (A : Option Addr) (k c : Nat) (z : Nat → Int) (w : World) (h : Ri w w.heap.size A k z) (hk : k ≤ 16) :
    Calls Try.prog 35 #[.slice A k c] w fun e w' => ∃ v, e = .returned v ∧ w'.ownsRow w.heap.size 3 1 v (atL z k).length (natV (atL z k)) ∧ Below w.heap.size w w' := by
  obtain ⟨i0, hi, hz0, hz1, hz2⟩ := info_parts int_info
  have HR := Lib.hid h
  clear h
  go_enter Try.func35, Try.ntmps35
  go_wp2_with fail
  go_loopw [3, 4] (fun s t wr => ∃ (j : Nat) (l : List Nat), j ≤ k ∧ t = .int .i64 ((j : Int) - 1) ∧ l ++ atL z j = atL z k ∧ l.length ≤ 16 ∧ wr.ownsRow w.heap.size 3 1 s l.length (natV l) ∧ Below w.heap.size w wr) (fun _ t _ => (intOf t + 1).toNat)
  case atStart => exact ⟨k, [], Nat.le_refl _, rfl, rfl, by simp, World.ownsRow_nil _ _ _ _, Below.refl _ _⟩
  case round =>
    obtain ⟨j, l, hj, rfl, hl, hll, ho, hb⟩ := hrel
    have HO := Lib.hid ho
    have HB := Lib.hid hb
    have HL := Lib.hid hl
    rcases j with _ | j
    · have e0 : ((0 : Nat) : Int) - 1 = -1 := rfl
      rw [e0]
      clear e0 ho hb hl
      go_wp2_with fail
      go_ret
      have hl0 := HL.out
      rw [show atL z 0 = [] from rfl, List.append_nil] at hl0
      exact ⟨_, rfl, by rw [← hl0]; exact HO.out, HB.out⟩
    · have e1 : ((j + 1 : Nat) : Int) - 1 = (j : Int) := by omega
      rw [e1]
      have hjk : j < k := by omega
      obtain ⟨ad, rfl, hab, hc⟩ := Rd.at_ HR.out hjk
      have hc1 : wr.cell? (ad.add j) = some (.int .i64 (z j)) := (hb.cell (by rw [block_add]; exact hab)).trans hc
      have hs := hb.size
      have hlen : l.length + (atL z (j + 1)).length = (atL z k).length := by rw [← List.length_append, hl]
      have hkl := atL_len z k
      have hj0 : (0 : Int) ≤ (j : Int) := Int.natCast_nonneg _
      have hjk' : (j : Int) < (k : Int) := by omega
      clear e1 ho hb hl hc hab
      by_cases hz : z j = 0
      · have hz' : (z j != 0) = false := by simp [hz]
        have hx : l ++ atL z j = atL z k := by rw [← HL.out, show atL z (j + 1) = atL z j from if_pos hz]
        have HX := Lib.hid hx
        clear hx hz hlen
        go_wp2_with fail
        go_roundw
        case rel => exact ⟨j, l, by omega, by go_num, HX.out, hll, HO.out, HB.out⟩
        case measure => simp [intOf]
      · have hz' : (z j != 0) = true := by simp [hz]
        have hx : atL z (j + 1) = j :: atL z j := if_neg hz
        have hlen2 : l.length + 1 ≤ 16 := by rw [hx] at hlen; simp only [List.length_cons] at hlen; omega
        have hx2 : (l ++ [j]) ++ atL z j = atL z k := by rw [← HL.out, hx]; simp
        have HX := Lib.hid hx2
        clear hx hx2 hz hlen
        go_wp2_with (at_builtin; refine wpList_append_own _ rfl _ _ 22 rfl w.heap.size 3 i0 (.int .i64 0) 1 8 Try.underlying22 hi hz0 hz1 hz2 rfl (by decide) _ l.length (natV l) rfl (HO.out.alloc _) ⟨wr.heap.size, 0, none⟩ 1 1 [.int .i64 j] rfl rfl ?c1 ?c2 (by unfold maxLen; omega) (by omega) (by simp; omega) ?_)
        case c1 =>
          intro i u hi
          rw [add_new]
          match i, hi with
          | 0, hi => simp at hi; subst hi; simp
        case c2 => intro u hu; simp at hu; subst hu; rfl
        intro v1 w1 hown1 hg1 _
        have hb1 : Below w.heap.size w w1 := (HB.out.alloc hs _).grown hg1 (by simp; omega) (fun i hi => (HO.out.lt i hi).1)
        have HO1 := Lib.hid hown1
        have HB1 := Lib.hid hb1
        clear hown1 hg1 hb1
        go_wp2_with fail
        go_roundw
        case rel => exact ⟨j, l ++ [j], by omega, by go_num, HX.out, by simp; omega, by rw [natV_append, List.length_append]; exact HO1.out, HB1.out⟩
        case measure => simp [intOf]

theorem lte_any (base g : Nat) (v : Value) (b : List Bool) (x most : Nat) (w : World) (h : Wr w base g v b) (hb : b.length ≤ 1000000) (h1 : x ≤ most) (h2 : most ≤ 2147483646) (hbs : base ≤ w.heap.size) :
    Calls Try.prog 36 #[.pointer (some ⟨g, 0, none⟩), .int .i64 x, .int .i64 most] w fun e w' => e = .returned (.tuple #[]) ∧ PutPost w base g v (b ++ teZ x most) w' := by
  rcases Nat.eq_zero_or_pos most with h0 | h0
  · subst h0
    have hq : PutPost w base g v (b ++ teZ x 0) w := by
      unfold teZ
      rw [if_pos rfl, List.append_nil]
      exact PutPost.same h
    have HQ := Lib.hid hq
    clear hq h
    go_enter Try.func36, Try.ntmps36
    go_wp2_with fail
    go_end0
    exact ⟨rfl, HQ.out⟩
  · have hp := te_yes base g v b x most w h hb (by omega) (by omega) (by omega) (by omega) hbs
    have ht : teZ x most = teL x most := if_neg (by omega)
    have HP := Lib.hid hp
    have HT := Lib.hid ht
    have h0' : (0 : Int) < (most : Int) := by omega
    clear hp ht h hbs
    go_enter Try.func36, Try.ntmps36
    go_wp2_with fail
    refine HP.out.mono ?_
    rintro e w1 ⟨rfl, hq⟩
    have HQ := Lib.hid hq
    clear hq HP
    go_wp2_with fail
    go_end0
    exact ⟨rfl, by rw [HT.out]; exact HQ.out⟩
/-- a row of ints outside of S -/
def Far (w : World) (S : Nat → Prop) (A : Option Addr) (n : Nat) (z : Nat → Int) : Prop :=
  0 < n → ∃ ad, A = some ad ∧ ad.block < w.heap.size ∧ ¬ S ad.block ∧ ∀ k, k < n → w.cell? (ad.add k) = some (.int .i64 (z k))
theorem Far.ri {w : World} {S : Nat → Prop} {A : Option Addr} {n : Nat} {z : Nat → Int} (h : Far w S A n z) : Ri w w.heap.size A n z := fun hn => by
  obtain ⟨ad, e, hb, _, hc⟩ := h hn
  exact ⟨ad, e, hb, hc⟩
theorem Far.go {w w1 : World} {S : Nat → Prop} {A : Option Addr} {n : Nat} {z : Nat → Int} (h : Far w S A n z) (hb : Below w.heap.size w w1) : Far w1 S A n z := fun hn => by
  obtain ⟨ad, e, hl, hw, hc⟩ := h hn
  exact ⟨ad, e, Nat.lt_of_lt_of_le hl hb.size, hw, fun k hk => (hb.cell (by rw [block_add]; exact hl)).trans (hc k hk)⟩
theorem Far.touch {w w1 : World} {S : Nat → Prop} {A : Option Addr} {n : Nat} {z : Nat → Int} (h : Far w S A n z) (ht : Touch S w w1) {k : Nat} (hk : k < n) : ∃ ad, A = some ad ∧ w1.cell? (ad.add k) = some (.int .i64 (z k)) := by
  obtain ⟨ad, e, hl, hw, hc⟩ := h (by omega)
  exact ⟨ad, e, (ht.cell (by rw [block_add]; exact hl) (by rw [block_add]; exact hw)).trans (hc k hk)⟩
theorem Far.at_ {w w1 : World} {S : Nat → Prop} {ad : Addr} {n : Nat} {z : Nat → Int} (h : Far w S (some ad) n z) (ht : Touch S w w1) {k : Nat} (hk : k < n) : w1.cell? (ad.add k) = some (.int .i64 (z k)) := by
  obtain ⟨ad', e, hc⟩ := h.touch ht hk
  obtain rfl : ad = ad' := by injection e
  exact hc
theorem Far.some_ {w : World} {S : Nat → Prop} {A : Option Addr} {n : Nat} {z : Nat → Int} (h : Far w S A n z) (hn : 0 < n) : ∃ ad, A = some ad := by
  obtain ⟨ad, e, _⟩ := h hn
  exact ⟨ad, e⟩
end Go.Proofs.Ytocooplmfkeepaa
