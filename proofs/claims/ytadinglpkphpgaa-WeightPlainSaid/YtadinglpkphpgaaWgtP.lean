/- The statement WeightOffsets: the walk. -/
import Derived.Test.YtadinglpkphpgaaWgtO
import Derived.Test.YtadinglpkphpgaaMask
import Derived.Test.YtadinglpkphpgaaRow
import Derived.IntWalk
namespace Go.Proofs.Ytadinglpkphpgaa
open Go.RowKit
set_option linter.unusedVariables false
set_option linter.unusedSimpArgs false
attribute [local go_sem] ite_max ite_min and_7 and_255

theorem oneL_plain (o l x : Int) (hl : 0 ≤ l ∧ l ≤ 6) : oneL (IntKind.i64.wrap (2 ^ l.toNat)) o l x = clip (x + o) := by
  unfold oneL oneF
  have : l = 0 ∨ l = 1 ∨ l = 2 ∨ l = 3 ∨ l = 4 ∨ l = 5 ∨ l = 6 := by omega
  rcases this with rfl | rfl | rfl | rfl | rfl | rfl | rfl <;> (rw [IntKind.wrap_i64]; simp <;> (congr 1; omega))
theorem pow_bd (l : Int) (hl : 0 ≤ l ∧ l ≤ 6) : 1 ≤ IntKind.i64.wrap (2 ^ l.toNat) ∧ IntKind.i64.wrap (2 ^ l.toNat) ≤ 64 := by
  have : l = 0 ∨ l = 1 ∨ l = 2 ∨ l = 3 ∨ l = 4 ∨ l = 5 ∨ l = 6 := by omega
  rcases this with rfl | rfl | rfl | rfl | rfl | rfl | rfl <;> decide
theorem wrapEq (x : Int) : IntKind.i64.wrap x = wrap64 x := by rw [IntKind.wrap_i64]; unfold wrap64; omega
theorem one_plain (A : Option Addr) (n c : Nat) (z : Nat → Int) (s o l : Int) (w : World) (h : Ri w w.heap.size A n z) (hn : n * 8 ≤ 140737488355328) (hz : ∀ k, 0 ≤ z k ∧ z k ≤ 255) (ho : -128 ≤ o ∧ o ≤ 127) (hl : 0 ≤ l ∧ l ≤ 6) (hs : s = wrap64 (2 ^ l.toNat)) :
    Calls Try.prog 9 #[.slice A n c, .int .i64 s, .int .i64 o, .int .i64 l] w (Gives w n (fun k => clip (z k + o)) 0) := by
  have hs' : s = IntKind.i64.wrap (2 ^ l.toNat) := hs.trans (wrapEq _).symm
  have hp := pow_bd l hl
  rw [← hs'] at hp
  have hok : oneOk s o l n z = true := by
    unfold oneOk allS
    simp only [Bool.and_eq_true, decide_eq_true_iff]
    exact ⟨by omega, fun k _ => hz k⟩
  have he : (fun k => oneL s o l (z k)) = fun k => clip (z k + o) := funext fun k => by rw [hs']; exact oneL_plain o l (z k) hl
  have := one_any A n c z s o l w h hn
  rw [hok, he] at this
  exact this

set_option maxHeartbeats 1600000 in
theorem walk_WeightOffsets (a0 : Option Addr) (n c : Nat) (z : Nat → Int) (a1 : Int) (a2 : Int) (w : World) (h0 : IntsArg w a0 n c z) (_ : (Lit.int .i64 a1).wf = true) (_ : (Lit.int .i64 a2).wf = true) :
    Calls Try.prog 6 #[.slice a0 n c, .int .i64 a1, .int .i64 a2] w fun e w' => e = .returned (.bool true) ∧ Below w.heap.size w w' := by
  obtain ⟨i0, hi, hz0, hz1, hz2⟩ := info_parts int_info
  obtain ⟨hr, hnil, hnc, hcm, hwf⟩ := h0
  have b1 := tmod_bd a1 128 (by omega)
  have b2 : 0 ≤ a2 % 8 ∧ a2 % 8 < 8 := by omega
  go_enter Try.func6, Try.ntmps6
  go_wp2_with fail
  refine (awake_any _).mono ?_
  rintro e w1 ⟨rfl, hb1⟩
  have B1 := Lib.hid hb1
  clear hb1
  go_wp2_with fail
  go_loopw [9, 10] (fun v i wr => ∃ k : Nat, k ≤ n ∧ i = .int .i64 k ∧ wr.ownsRow w1.heap.size 3 1 v k ((List.range k).map fun j => .int .i64 (z j % 256)) ∧ Below w1.heap.size w1 wr) (fun _ i _ => n - (intOf i).toNat)
  case atStart => exact ⟨0, Nat.zero_le _, rfl, World.ownsRow_nil _ _ _ _, Below.refl _ _⟩
  case round =>
    obtain ⟨k, hk, rfl, hown, hbl⟩ := hrel
    have hsz := hbl.size
    have hsz1 := B1.out.size
    by_cases hlt : k < n
    · obtain ⟨ad, rfl, hb, hc⟩ := Rd.at_ hr hlt
      have hc1 : wr.cell? (ad.add k) = some (.int .i64 (z k)) := (hbl.cell (by rw [block_add]; omega)).trans ((B1.out.cell (by rw [block_add]; omega)).trans hc)
      have HB := Lib.hid hbl
      have HX := Lib.hid hr
      have HO := Lib.hid hown
      clear hbl hr hc hb hown
      go_wp2_with (at_builtin; refine wpList_append_own _ rfl _ _ 22 rfl w1.heap.size 3 i0 (.int .i64 0) 1 8 Try.underlying22 hi hz0 hz1 hz2 rfl (by decide) _ k _ rfl (HO.out.alloc _) ⟨wr.heap.size, 0, none⟩ 1 1 [.int .i64 (z k % 256)] rfl rfl ?c1 ?c2 (by unfold maxLen; omega) (by omega) (by simp; omega) ?_)
      case c1 =>
        intro j u hj
        rw [add_new]
        match j, hj with
        | 0, hj => simp at hj; subst hj; simp
      case c2 => intro u hu; simp at hu; subst hu; rfl
      intro v' w2 hown1 hg1 _
      have hb1 : Below w1.heap.size w1 w2 := (HB.out.alloc hsz _).grown hg1 (by simp; omega) (fun j hj => (HO.out.lt j hj).1)
      rw [← range_snoc (fun j => Value.int .i64 (z j % 256)) k] at hown1
      have H1 := Lib.hid hown1
      have H2 := Lib.hid hb1
      clear hown1 hb1 hg1 hc1
      go_wp2_with fail
      go_roundw
      case rel => exact ⟨k + 1, by omega, by go_num, H1.out, H2.out⟩
      case measure => simp [intOf]; omega
    · obtain rfl : k = n := by omega
      obtain ⟨A, cp, rfl, hcp, hcm2, hrd⟩ := Ri.of_own hown
      have hsz2 : wr.heap.size ≤ wr.heap.size := Nat.le_refl _
      have B2 := Lib.hid hbl
      have HO := Lib.hid hown
      clear hbl hown hr
      go_wp2_with fail
      refine (one_plain A k cp (fun k => z k % 256) _ _ _ wr hrd (by omega) (fun k => by omega) (by omega) (by omega) ?hs).mono ?_
      case hs => rfl
      rintro e w3 hg
      obtain ⟨A3, cp3, rfl, hs, hb3⟩ := gives_sl hg
      clear hg
      have hx : Ri w3 w3.heap.size A k fun k => z k % 256 := Rd.go hrd hb3
      have B3 := Lib.hid hb3
      clear hb3 hrd HO
      go_wp2_with (go_at_call 16; refine (num_any _ _).mono ?_; rintro e w' ⟨rfl, rfl⟩)
      go_loopw [13] (fun i wr => ∃ j : Nat, j ≤ k ∧ i = .int .i64 j ∧ Below w3.heap.size w3 wr) (fun i _ => k - (intOf i).toNat)
      case atStart => exact ⟨0, Nat.zero_le _, rfl, Below.refl _ _⟩
      case round =>
        obtain ⟨j, hj, rfl, hbl⟩ := hrel
        by_cases hlt : j < k
        · obtain ⟨ad, rfl, hb, hc⟩ := Rd.at_ hx hlt
          obtain ⟨ad', rfl, hb', hc'⟩ := Rd.at_ hs hlt
          have hc1 := (hbl.cell (by rw [block_add]; exact hb)).trans hc
          have hc2 := (hbl.cell (by rw [block_add]; exact hb')).trans hc'
          have hw1 := Nat.lt_of_lt_of_le hb hbl.size
          have hw2 := Nat.lt_of_lt_of_le hb' hbl.size
          have HB := Lib.hid hbl
          have hi0 : (0 : Int) ≤ (j : Int) := Int.natCast_nonneg _
          have hi1 : (j : Int) < (k : Int) := by omega
          have e1 : IntKind.i64.wrap (z j % 256 + a1.tmod 128) = z j % 256 + a1.tmod 128 := IntWalk.i64_in _ (by omega)
          have e2 : (clip (z j % 256 + a1.tmod 128) != max 0 (min 255 (z j % 256 + a1.tmod 128))) = false := by unfold clip; simp; omega
          have HX := Lib.hid hx
          have HS := Lib.hid hs
          clear hx hs hb hb' hc hc' hbl
          go_wp2_with fail
          go_quiet (fail)
          go_wp2_with fail
          go_roundw
          case rel => exact ⟨j + 1, by omega, by go_num, ⟨HB.out.os, HB.out.tape, HB.out.output, HB.out.size, HB.out.block⟩⟩
          case measure => simp [intOf]; omega
        · have p2 := B1.out.trans (B2.out.mono hsz1)
          have HB := Lib.hid ((p2.trans (B3.out.mono p2.size)).trans (hbl.mono (p2.trans (B3.out.mono p2.size)).size))
          clear hx hs hbl p2
          go_wp2_with fail
          go_ret
          exact ⟨rfl, HB.out⟩

end Go.Proofs.Ytadinglpkphpgaa
