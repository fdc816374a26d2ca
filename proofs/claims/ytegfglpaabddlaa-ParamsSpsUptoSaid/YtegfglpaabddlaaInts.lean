/- SameInts, CopyInts, LendInts, KeptInts, SpoilInts. -/
import Derived.Test.YtegfglpaabddlaaStr
import Derived.Test.YtegfglpaabddlaaAppend
import Derived.Test.YtegfglpaabddlaaTouch
namespace Go.Proofs.Ytegfglpaabddlaa
open Go.RowKit
set_option linter.unusedVariables false
set_option linter.unusedSimpArgs false

theorem int_info : (Try.prog.info? 3).map (fun i => (i.zero, i.size, i.bytes)) = some (some (.int .i64 0), 1, 8) := by kernel_rfl
def sameB (n m : Nat) (z y : Nat → Int) : Bool := decide (n = m ∧ ∀ k, k < n → z k = y k)

set_option maxRecDepth 100000 in
set_option maxHeartbeats 1600000 in
theorem same_any (A C : Option Addr) (n m c d : Nat) (z y : Nat → Int) (w : World) (h : Ri w w.heap.size A n z) (g : Ri w w.heap.size C m y) (hn : n ≤ 1152921504606846976) (hm : m ≤ 1152921504606846976) :
    Calls Try.prog 51 #[.slice A n c, .slice C m d] w fun e w' => e = .returned (.bool (sameB n m z y)) ∧ Below w.heap.size w w' := by
  by_cases hnm : n = m
  · subst hnm
    go_enter Try.func51, Try.ntmps51
    go_wp2_with fail
    go_loopw [5] (fun i wr => ∃ k : Nat, k ≤ n ∧ i = .int .i64 k ∧ (∀ j, j < k → z j = y j) ∧ Below w.heap.size w wr) (fun i _ => n - (intOf i).toNat)
    case atStart => exact ⟨0, Nat.zero_le _, rfl, fun j hj => absurd hj (by omega), Below.refl _ _⟩
    case round =>
      obtain ⟨k, hk, rfl, hall, hbl⟩ := hrel
      have HA := Lib.hid hall
      clear hall
      by_cases hlt : k < n
      · obtain ⟨ad, rfl, hb, hc⟩ := Rd.at_ h hlt
        obtain ⟨ad', rfl, hb', hc'⟩ := Rd.at_ g hlt
        have hc1 : wr.cell? (ad.add k) = some (.int .i64 (z k)) := (hbl.cell (by rw [block_add]; exact hb)).trans hc
        have hc2 : wr.cell? (ad'.add k) = some (.int .i64 (y k)) := (hbl.cell (by rw [block_add]; exact hb')).trans hc'
        have HB := Lib.hid hbl
        have HX := Lib.hid h
        have HY := Lib.hid g
        clear hbl h g hc hc' hb hb'
        have hi0 : (0 : Int) ≤ (k : Int) := Int.natCast_nonneg _
        have hi1 : (k : Int) < (n : Int) := by omega
        by_cases he : z k = y k
        · have he' : (z k != y k) = false := by simp [he]
          have HE := Lib.hid he
          clear he
          go_wp2_with fail
          go_quiet (fail)
          go_wp2_with fail
          go_roundw
          case rel =>
            refine ⟨k + 1, by omega, by go_num, fun j hj => ?_, ?_⟩
            · by_cases hjk : j = k
              · subst hjk; exact HE.out
              · exact HA.out j (by omega)
            · have hq := HB.out
              exact ⟨hq.os, hq.tape, hq.output, hq.size, hq.block⟩
          case measure => simp [intOf]; omega
        · have he' : (z k != y k) = true := by simp [he]
          go_wp2_with fail
          go_quiet (fail)
          go_wp2_with fail
          go_ret
          refine ⟨ret_bool ?_, ?_⟩
          · symm
            exact decide_eq_false fun q => he (q.2 k hlt)
          · have hq := HB.out
            exact ⟨hq.os, hq.tape, hq.output, hq.size, hq.block⟩
      · go_wp2_with fail
        go_ret
        refine ⟨ret_bool ?_, hbl⟩
        symm
        exact decide_eq_true ⟨rfl, fun j hj => HA.out j (by omega)⟩
  · have hne : ((n : Int) != (m : Int)) = true := by simp; omega
    have HN := Lib.hid hnm
    clear hnm
    go_enter Try.func51, Try.ntmps51
    go_wp2_with fail
    go_ret
    refine ⟨ret_bool ?_, Below.refl _ _⟩
    symm
    exact decide_eq_false fun q => HN.out q.1

theorem same_yes (A C : Option Addr) (n c d : Nat) (z y : Nat → Int) (w : World) (h : Ri w w.heap.size A n z) (g : Ri w w.heap.size C n y) (hn : n ≤ 1152921504606846976) (he : ∀ k, k < n → z k = y k) :
    Calls Try.prog 51 #[.slice A n c, .slice C n d] w fun e w' => e = .returned (.bool true) ∧ Below w.heap.size w w' :=
  (same_any A C n n c d z y w h g hn hn).mono fun _ _ q => ⟨q.1.trans (ret_bool (decide_eq_true ⟨rfl, he⟩)), q.2⟩

set_option maxRecDepth 100000 in
set_option maxHeartbeats 800000 in
theorem copy_any (A : Option Addr) (n c : Nat) (z : Nat → Int) (w : World) (h : Ri w w.heap.size A n z) (h0 : A = none → n = 0 ∧ c = 0) (hn : n * 8 ≤ 140737488355328) :
    Calls Try.prog 28 #[.slice A n c] w fun e w' => ∃ v, e = .returned v ∧ w'.ownsRow w.heap.size 3 1 v n ((List.range n).map fun k => .int .i64 (z k)) ∧ Below w.heap.size w w' := by
  obtain ⟨i0, hi, hz0, hz1, hz2⟩ := info_parts int_info
  have hl := World.ownsRow_lit (base := w.heap.size) (e := 3) (size := 1) w #[] 0 (Nat.le_refl _) (Nat.zero_le _) rfl
  go_enter Try.func28, Try.ntmps28
  go_wp2_with (at_builtin; refine wpList_append_rd _ rfl _ _ 22 rfl w.heap.size 3 i0 (.int .i64 0) 8 Try.underlying22 hi hz0 hz1 hz2 rfl _ 0 _ rfl hl w.heap.size A n c (fun k => .int .i64 (z k)) rfl (Rd.alloc h (Nat.le_refl _) _) h0 (fun k => rfl) (by unfold maxLen; omega) (by omega) (by simp) ?_; intro v' w1 hown1 hg1)
  go_ret
  refine ⟨v', rfl, by simpa using hown1, ?_⟩
  exact ((Below.refl _ _).alloc (Nat.le_refl _) _).grown hg1 (by simp) (fun k hk => (hl.lt k hk).1)

/-- A slice with room behind it: the n ints of z, and behind them -7777 and -8888. -/
def Lent (w : World) (B : Nat) (v : Value) (n : Nat) (z : Nat → Int) : Prop :=
  ∃ g cap, v = .slice (some ⟨g, 0, none⟩) n cap ∧ n + 2 ≤ cap ∧ cap ≤ maxLen ∧ B ≤ g ∧ g < w.heap.size ∧ Ri w w.heap.size (some ⟨g, 0, none⟩) (n + 2) (fun k => if k < n then z k else if k = n then -7777 else -8888)

theorem lent_list (n : Nat) (z : Nat → Int) : ((List.range n).map fun k => Value.int .i64 (z k)) ++ [.int .i64 (-7777), .int .i64 (-8888)] = (List.range (n + 2)).map fun k => .int .i64 (if k < n then z k else if k = n then -7777 else -8888) := by
  rw [show n + 2 = (n + 1) + 1 from rfl, range_snoc, range_snoc]
  simp only [List.append_assoc, List.singleton_append]
  congr 1
  · apply List.map_congr_left
    intro k hk
    rw [if_pos (List.mem_range.1 hk)]
  · simp
    intro hh
    omega

set_option maxRecDepth 100000 in
set_option maxHeartbeats 800000 in
theorem lend_any (A : Option Addr) (n c : Nat) (z : Nat → Int) (w : World) (h : Ri w w.heap.size A n z) (h0 : A = none → n = 0 ∧ c = 0) (hn : (n + 2) * 8 ≤ 140737488355328) :
    Calls Try.prog 10 #[.slice A n c] w fun e w' => ∃ v, e = .returned v ∧ Lent w' w.heap.size v n z ∧ Below w.heap.size w w' := by
  obtain ⟨i0, hi, hz0, hz1, hz2⟩ := info_parts int_info
  go_enter Try.func10, Try.ntmps10
  go_wp2_with fail
  refine (copy_any A n c z w h h0 (by omega)).mono ?_
  rintro e w1 ⟨v, rfl, hown, hb⟩
  have hs := hb.size
  go_wp2_with (at_builtin; refine wpList_append_own _ rfl _ _ 22 rfl w.heap.size 3 i0 (.int .i64 0) 1 8 Try.underlying22 hi hz0 hz1 hz2 rfl (by decide) _ n _ rfl (hown.alloc _) ⟨w1.heap.size, 0, none⟩ 2 2 [.int .i64 (-7777), .int .i64 (-8888)] rfl rfl ?c1 ?c2 (by unfold maxLen; omega) (by omega) (by simp; omega) ?_)
  case c1 =>
    intro j u hj
    rw [add_new]
    match j, hj with
    | 0, hj => simp at hj; subst hj; simp
    | 1, hj => simp at hj; subst hj; simp
  case c2 => intro u hu; simp at hu; rcases hu with rfl | rfl <;> rfl
  intro v' w2 hown2 hg2 _
  obtain ⟨g, cap, hv, hnc, hcm, hbg, hgl⟩ := own_form hown2 (by omega)
  have hb2 : Below w.heap.size w w2 := ((hb.alloc hs _).grown hg2 (by simp; omega) (fun k hk => (hown.lt k hk).1))
  rw [lent_list] at hown2
  obtain ⟨A', c', hv', hnc', hcm', hrd⟩ := Ri.of_own hown2
  rw [hv] at hv'
  obtain ⟨rfl, rfl⟩ : A' = some ⟨g, 0, none⟩ ∧ c' = cap := by
    injection hv' with h1 h2 h3
    exact ⟨h1.symm, h3.symm⟩
  subst hv
  clear hv' hown2 hg2 hown
  have HB := Lib.hid hb2
  have HR := Lib.hid hrd
  clear hb2 hrd hb h
  have hn0 : (0 : Int) ≤ (n : Int) := Int.natCast_nonneg _
  have hn1 : (n : Int) ≤ (c' : Int) := by omega
  go_wp2_with fail
  go_ret
  exact ⟨_, rfl, ⟨g, c', rfl, hnc, hcm, hbg, hgl, HR.out⟩, HB.out⟩

def lentF (n : Nat) (z : Nat → Int) (k : Nat) : Int := if k < n then z k else if k = n then -7777 else -8888

set_option maxRecDepth 100000 in
set_option maxHeartbeats 800000 in
theorem kept_yes (g cap : Nat) (A : Option Addr) (n c : Nat) (z : Nat → Int) (w : World) (hc : n + 2 ≤ cap) (hc' : cap ≤ maxLen) (hg : g < w.heap.size) (hn : n ≤ 1152921504606846976)
    (h : Ri w w.heap.size (some ⟨g, 0, none⟩) (n + 2) (lentF n z)) (ha : Ri w w.heap.size A n z) :
    Calls Try.prog 18 #[.slice (some ⟨g, 0, none⟩) n cap, .slice A n c] w fun e w' => e = .returned (.bool true) ∧ Below w.heap.size w w' := by
  unfold maxLen at hc'
  have hn0 : (0 : Int) ≤ (n : Int) := Int.natCast_nonneg _
  have hn1 : (n : Int) + 2 ≤ (cap : Int) := by omega
  have hn2 : (n : Int) ≤ 1152921504606846976 := by omega
  have K1 : w.cell? ⟨g, n, none⟩ = some (.int .i64 (-7777)) := by
    obtain ⟨ad, e, hb, hcell⟩ := h (by omega)
    obtain rfl : (⟨g, 0, none⟩ : Addr) = ad := by injection e
    have := hcell n (by omega)
    rw [add_new] at this
    rw [this]
    simp [lentF]
  have K2 : w.cell? ⟨g, n + 1, none⟩ = some (.int .i64 (-8888)) := by
    obtain ⟨ad, e, hb, hcell⟩ := h (by omega)
    obtain rfl : (⟨g, 0, none⟩ : Addr) = ad := by injection e
    have := hcell (n + 1) (by omega)
    rw [add_new] at this
    rw [this]
    simp [lentF]
    intro hh
    omega
  have HH : Ri w w.heap.size (some ⟨g, 0, none⟩) n (lentF n z) := Rd.less h (by omega)
  have HS := Lib.hid (same_yes (some ⟨g, 0, none⟩) A n cap c (lentF n z) z w HH ha hn (fun k hk => by unfold lentF; rw [if_pos hk]))
  clear h ha HH
  go_enter Try.func18, Try.ntmps18
  go_wp2_with fail
  refine HS.out.mono ?_
  rintro e w1 ⟨rfl, hb⟩
  have k1 : w1.cell? ⟨g, n, none⟩ = some (.int .i64 (-7777)) := (hb.cell hg).trans K1
  have k2 : w1.cell? ⟨g, n + 1, none⟩ = some (.int .i64 (-8888)) := (hb.cell hg).trans K2
  clear K1 K2
  go_wp2_with fail
  go_ret
  exact ⟨rfl, hb⟩

def Wri (w : World) (g n : Nat) : Prop := (∀ j, j < n → ∃ x, w.cell? ⟨g, j, none⟩ = some (.int .i64 x)) ∧ ∀ o, w.frozen? ⟨g, o, none⟩ = false
theorem Wri.set_ {w : World} {g n k : Nat} (h : Wri w g n) (hk : k < n) (x : Int) : Wri (w.setCell ⟨g, k, none⟩ (.int .i64 x)) g n := by
  refine ⟨fun j hj => ?_, fun o => ?_⟩
  · obtain ⟨y, hy⟩ := h.1 j hj
    by_cases hjk : j = k
    · subst hjk
      exact ⟨x, World.cell?_setCell_same _ _ _ hy⟩
    · exact ⟨y, (World.cell?_setCell_other _ _ _ _ (fun q => hjk (by injection q with _ q _; omega))).trans hy⟩
  · rw [World.frozen?_setCell]
    exact h.2 o

set_option maxRecDepth 100000 in
set_option maxHeartbeats 1600000 in
theorem spoil_any (A : Option Addr) (n c : Nat) (w : World) (h : 0 < n → ∃ g, A = some ⟨g, 0, none⟩ ∧ Wri w g n) (hn : n ≤ 1000) :
    Calls Try.prog 20 #[.slice A n c] w fun e w' => e = .returned (.tuple #[]) ∧ Touch (fun k => A = some ⟨k, 0, none⟩) w w' := by
  go_enter Try.func20, Try.ntmps20
  go_wp2_with fail
  go_loopw [2] (fun i wr => ∃ k : Nat, k ≤ n ∧ i = .int .i64 k ∧ Touch (fun k => A = some ⟨k, 0, none⟩) w wr ∧ (0 < n → ∃ g, A = some ⟨g, 0, none⟩ ∧ Wri wr g n)) (fun i _ => n - (intOf i).toNat)
  case atStart => exact ⟨0, Nat.zero_le _, rfl, Touch.refl _ _, h⟩
  case round =>
    clear h
    obtain ⟨k, hk, rfl, ht, hp⟩ := hrel
    by_cases hlt : k < n
    · obtain ⟨g, rfl, hpo⟩ := hp (by omega)
      obtain ⟨x, hx⟩ := hpo.1 k hlt
      have hfr := hpo.2 k
      have HP := Lib.hid hpo
      have HT := Lib.hid ht
      clear hp hpo ht
      have hi0 : (0 : Int) ≤ (k : Int) := Int.natCast_nonneg _
      have hi1 : (k : Int) < (n : Int) := by omega
      go_wp2_with fail
      go_roundw
      case rel => exact ⟨k + 1, by omega, by go_num, HT.out.setCell (fun _ => rfl) _, fun _ => ⟨g, rfl, HP.out.set_ hlt _⟩⟩
      case measure => simp [intOf]; omega
    · have HT := Lib.hid ht
      clear hp ht
      go_wp2_with fail
      go_end0
      exact ⟨rfl, HT.out⟩

end Go.Proofs.Ytegfglpaabddlaa
