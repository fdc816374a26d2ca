/- The statement NalZeros: the walk. -/
import Derived.Test.YtndlmhpbnaohpaaLawB
import Derived.Test.YtndlmhpbnaohpaaMask
namespace Go.Proofs.Ytndlmhpbnaohpaa
open Go.RowKit
set_option linter.unusedVariables false
set_option linter.unusedSimpArgs false
attribute [local go_sem] and_63 ite_max ite_min

def zs (k : Nat) : List Nat := List.replicate k 0
theorem zs_facts : ∀ k : Fin 64, ((esc (zs k)).all fun b => b == 0 || b == 3) = true ∧ (esc (zs k)).length = k + (esc (zs k)).count 3 ∧ (esc (zs k)).count 3 = (k - 1) / 2 := by decide +kernel
theorem run_zs {w : World} (k : Nat) (t : TypeId) : (convert 51 9 (.slice (some ⟨w.heap.size, 0, none⟩) k k)).run Try.prog (w.alloc (.cells (Array.replicate k (.int .u8 0)) t)) = .ok (.string (txt (zs k))) (w.alloc (.cells (Array.replicate k (.int .u8 0)) t)) := by
  have hr : Rd (w.alloc (.cells (Array.replicate k (.int .u8 0)) t)) (w.heap.size + 1) (some ⟨w.heap.size, 0, none⟩) k fun _ => .int .u8 0 := fun _ => ⟨_, rfl, Nat.lt_succ_self _, fun j hj => by
    rw [add_new, World.cell?_alloc_at _ _ _ _ rfl]
    simp [hj]⟩
  rw [run_str Try.underlying51 Try.underlying5 Try.underlying9 hr]
  unfold txt zs
  congr 3
  apply List.ext_getElem
  · simp
  · intro i h1 h2
    simp

set_option maxRecDepth 100000 in
set_option maxHeartbeats 6400000 in
theorem walk_NalZeros (x : Int) (w : World) (hx : (Lit.int .i64 x).wf = true) (w_sh : w.ShapedOpen Try.prog) :
    Calls Try.prog 8 #[.int .i64 x] w fun e w' => e = .returned (.bool true) ∧ Below w.heap.size w w' := by
  have HP := Lib.hid (Up.of_shaped w_sh)
  clear w_sh hx
  obtain ⟨i0, hi, hz0, hz1, hz2⟩ := info_parts u8_info
  obtain ⟨k, hk⟩ : ∃ k : Nat, x % 64 = k := ⟨(x % 64).toNat, by omega⟩
  have hk64 : k < 64 := by omega
  obtain ⟨f1, f2, f3⟩ := zs_facts ⟨k, hk64⟩
  simp only at f1 f2 f3
  have hzb : bl (txt (zs k)) = zs k := bl_txt _ (fun b hb => by have := List.eq_of_mem_replicate hb; omega)
  have hSz : (txt (zs k)).size = k := by rw [txt_size]; exact List.length_replicate
  have hTs : (txt (esc (zs k))).size = (esc (zs k)).length := txt_size _
  have hE := fun W => esc_any (txt (zs k)) W (by omega)
  have hV := fun W => une_any (txt (esc (zs k))) W (by omega)
  have hu := unS_esc (txt (zs k))
  have hTb : bl (txt (esc (zs k))) = esc (zs k) := bl_txt _ (by have := esc_bytes (bl (txt (zs k))) (bl_lt _); rw [hzb] at this; exact this)
  rw [hzb] at hE hu
  rw [hu.1, hu.2] at hV
  clear hu hzb
  obtain ⟨l, hl⟩ : ∃ l, l = esc (zs k) := ⟨_, rfl⟩
  obtain ⟨T, hT⟩ : ∃ T, T = txt (esc (zs k)) := ⟨_, rfl⟩
  obtain ⟨S, hS⟩ : ∃ S, S = txt (zs k) := ⟨_, rfl⟩
  rw [← hT] at hE hV hTs hTb
  rw [← hS] at hE hV hSz
  rw [← hl] at hTs hTb f1 f2 f3
  have HE := Lib.hid hE
  have HV := Lib.hid hV
  have HTB := Lib.hid hTb
  have HF := Lib.hid f1
  have hll : l.length = T.size := hTs.symm
  have hat : ∀ j (h : j < T.size), (T[j]'h).toNat = l.getD j 0 := fun j h => by rw [List.getD_eq_getElem?_getD, List.getElem?_eq_getElem (by omega)]; subst hTb; exact (bl_at T j h).symm
  have HAT := Lib.hid hat
  have HL := Lib.hid hll
  have hT128 : T.size ≤ 128 := by omega
  clear hE hV hTb hTs f1 hl hT hat hll
  have hmk := fun W => run_make_one (P := Try.prog) 51 5 i0 (.int .u8 0) Try.underlying51 hi hz0 hz1 rfl k (by rw [hz2]; omega) (by omega) W
  go_enter Try.func8, Try.ntmps8
  go_wp2_with fail
  refine (awake_up HP.out).mono ?_
  rintro e w0 ⟨rfl, hb0⟩
  have HB := Lib.hid hb0
  have hz0 := hb0.size
  have hcv := run_zs (w := w0) k 5
  rw [← hS] at hcv
  clear hb0 hS
  go_wp2_with fail
  refine (HE.out _).mono ?_
  rintro e w1 ⟨rfl, hb⟩
  have HB := Lib.hid ((HB.out.alloc hz0 (.cells (Array.replicate k (.int .u8 0)) 5)).trans (hb.mono (by simp; omega)))
  clear hb HE hcv hmk
  go_wp2_with fail
  go_loopw [6, 7] (fun z t wr => ∃ i : Nat, i ≤ T.size ∧ t = .int .i64 i ∧ z = .int .i64 ((l.take i).count 3 : Nat) ∧ wr = w1) (fun _ t _ => T.size - (intOf t).toNat)
  case atStart => exact ⟨0, Nat.zero_le _, rfl, rfl, rfl⟩
  case round =>
    obtain ⟨i, hi', rfl, rfl, rfl⟩ := hrel
    by_cases hlt : i < T.size
    · have hil : i < l.length := by rw [HL.out]; exact hlt
      have hg : (T[i]'hlt).toNat = l[i] := (HAT.out i hlt).trans (by rw [List.getD_eq_getElem?_getD, List.getElem?_eq_getElem hil]; rfl)
      have hb : l[i] = 0 ∨ l[i] = 3 := by
        have := List.all_eq_true.1 HF.out l[i] (List.getElem_mem hil)
        simpa using this
      have hnx : (l.take (i + 1)).count 3 = (l.take i).count 3 + if l[i] = 3 then 1 else 0 := by
        rw [List.take_add_one, List.getElem?_eq_getElem hil, List.count_append]
        simp [List.count_singleton]
      have hcl : (l.take i).count 3 ≤ i := Nat.le_trans List.count_le_length (by simp; omega)
      obtain ⟨c, hc⟩ : ∃ c, c = (l.take i).count 3 := ⟨_, rfl⟩
      rw [← hc] at hnx hcl ⊢
      have hlt' : (i : Int) < (T.size : Int) := by omega
      have hi0 : (0 : Int) ≤ (i : Int) := Int.natCast_nonneg _
      clear hc f2 f3
      rcases hb with hb | hb
      · rw [hb] at hg hnx
        rw [if_neg (by omega)] at hnx
        have HNX := Lib.hid hnx
        clear hnx hb hil
        go_wp2_with fail
        go_roundw
        case rel => exact ⟨i + 1, by omega, by go_num, by rw [HNX.out]; go_num, trivial⟩
        case measure => simp [intOf]; omega
      · rw [hb] at hg hnx
        rw [if_pos rfl] at hnx
        have HNX := Lib.hid hnx
        clear hnx hb hil
        go_wp2_with fail
        go_roundw
        case rel => exact ⟨i + 1, by omega, by go_num, by rw [HNX.out]; go_num, trivial⟩
        case measure => simp [intOf]; omega
    · obtain rfl : i = T.size := by omega
      have hall : (l.take T.size).count 3 = (k - 1) / 2 := by rw [List.take_of_length_le (by rw [HL.out]; exact Nat.le_refl _)]; exact f3
      rw [hall]
      have hlen : T.size = k + (k - 1) / 2 := by rw [← HL.out, f2, f3]
      obtain ⟨c, hc⟩ : ∃ c, c = (k - 1) / 2 := ⟨_, rfl⟩
      rw [← hc] at hlen ⊢
      have hl1 : ((T.size : Int) == (k : Int) + (c : Int)) = true := by rw [beq_iff_eq]; omega
      have hl2 : ((c : Int) == max ((k : Int) - 1) 0 / 2) = true := by rw [beq_iff_eq]; omega
      have hl3 : (T.size : Int) = (k : Int) + (c : Int) := by omega
      have hl4 : max ((k : Int) - 1) 0 / 2 = (c : Int) := by omega
      clear hall f2 f3
      go_wp2_with fail
      refine (HV.out _).mono ?_
      rintro e w2 ⟨rfl, hb⟩
      have HB := Lib.hid (HB.out.trans (hb.mono HB.out.size))
      clear hb
      go_wp2_with (go_at_call 15; refine (num_any _ _).mono ?_; rintro e w' ⟨rfl, rfl⟩)
      go_ret
      exact ⟨rfl, HB.out⟩
end Go.Proofs.Ytndlmhpbnaohpaa
