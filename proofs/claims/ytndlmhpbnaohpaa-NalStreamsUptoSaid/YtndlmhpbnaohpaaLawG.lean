/- The statement NalTypes: the walk. -/
import Derived.Test.YtndlmhpbnaohpaaLawC
import Derived.Test.YtndlmhpbnaohpaaMask
import Derived.Deep.RegionHeld3
namespace Go.Proofs.Ytndlmhpbnaohpaa
open Go.RowKit
set_option linter.unusedVariables false
set_option linter.unusedSimpArgs false
attribute [local go_sem] and_1 and_3

theorem up_empty : upV ⟨#[]⟩ = .agg #[.int .i64 0, .int .i64 0, .string ByteArray.empty] ∧ upE ⟨#[]⟩ = 202 := ⟨upV_no (by decide), rfl⟩
theorem up_high (b : Nat) (h : 128 ≤ b) (hb : b < 256) : upV (txt [b]) = .agg #[.int .i64 0, .int .i64 0, .string ByteArray.empty] ∧ upE (txt [b]) = 200 := by
  have hl : bl (txt [b]) = [b] := bl_txt _ (by intro x hx; simp at hx; omega)
  have hno : ¬ upOk (txt [b]) = true := by
    unfold upOk first
    rw [hl]
    simp
    intro _ h1
    omega
  refine ⟨upV_no hno, ?_⟩
  unfold upE
  rw [txt_size, if_neg (by simp), if_neg hno]
theorem fit_no (r t : Int) (h : r < 0 ∨ 3 < r ∨ t < 1 ∨ 31 < t) : fitB r t = false := by
  unfold fitB
  rw [decide_eq_false_iff_not]
  omega
theorem fit_yes (r t : Int) (h : 0 ≤ r ∧ r ≤ 3 ∧ 1 ≤ t ∧ t ≤ 31) : fitB r t = true := by
  unfold fitB
  rw [decide_eq_true_iff]
  exact h
theorem txt_cons_at (b : Nat) (l : List Nat) (hb : b < 256) (h : 0 < (txt (b :: l)).size) : ((txt (b :: l))[0]'h).toNat = b := by
  have h1 := bl_at (txt (b :: l)) 0 h
  have h2 : bl (txt (b :: l)) = b % 256 :: bl (txt l) := by
    unfold bl txt strOfNums
    simp
  rw [← h1]
  simp only [h2, List.getElem_cons_zero]
  omega
theorem txt_cons_tail (b : Nat) (l : List Nat) : (txt (b :: l)).extract 1 (txt (b :: l)).size = txt l := by
  have hs := txt_size (b :: l)
  apply ByteArray.ext
  rw [ByteArray.data_extract]
  unfold txt strOfNums
  simp
  exact List.take_of_length_le (by simp [ByteArray.size])

set_option maxRecDepth 100000 in
set_option maxHeartbeats 6400000 in
theorem walk_NalTypes (a0 a1 : Int) (a2 : ByteArray) (w : World) (w0 : (Lit.int .i64 a0).wf = true) (w1 : (Lit.int .i64 a1).wf = true) (hs : a2.size ≤ 1048576) (w_sh : w.ShapedOpen Try.prog) :
    Calls Try.prog 7 #[.int .i64 a0, .int .i64 a1, .string a2] w fun e w' => e = .returned (.bool true) ∧ Below w.heap.size w w' := by
  have HP := Lib.hid (Up.of_shaped w_sh)
  clear w_sh w0 w1
  have hu := u64_tmod_bd a1 31 (by omega)
  obtain ⟨b, hb⟩ : ∃ b, b = (IntKind.u64.wrap a1).tmod 31 := ⟨_, rfl⟩
  obtain ⟨a, ha⟩ : ∃ a, a = a0 % 4 := ⟨_, rfl⟩
  rw [← hb] at hu
  have ha1 : 0 ≤ a ∧ a ≤ 3 := by omega
  obtain ⟨hu0, hu1⟩ := hu
  obtain ⟨ha0, ha3⟩ := ha1
  go_enter Try.func7, Try.ntmps7
  go_wp2_with fail
  refine (awake_up HP.out).mono ?_
  rintro e w1 ⟨rfl, hb1⟩
  have HB := Lib.hid hb1
  have hz := hb1.size
  clear hb1
  go_wp2_with fail
  rw [← ha, ← hb]
  have HA := Lib.hid ha
  have HBB := Lib.hid hb
  have hsz : a2.size ≤ 4194304 := by omega
  have HPK := Lib.hid (fun w => pack0_yes a (1 + b) a2 w (fit_yes _ _ (by omega)) hsz)
  have HN1 := Lib.hid (fun w => pack0_no (4 + a) (1 + b) ⟨#[]⟩ w (fit_no _ _ (by omega)))
  have HN2 := Lib.hid (fun w => pack0_no a (32 * (a1 % 2)) ⟨#[]⟩ w (fit_no _ _ (by omega)))
  have he := fun w => esc_any a2 w hsz
  have hb256 : (32 * a + (1 + b)).toNat < 256 := by omega
  have hl1 := esc_len (bl a2)
  rw [bl_len] at hl1
  obtain ⟨E, hE⟩ : ∃ E, E = txt (esc (bl a2)) := ⟨_, rfl⟩
  have hes : E.size = (esc (bl a2)).length := by rw [hE, txt_size]
  have hsx : (txt (packL a (1 + b) (bl a2))).size = E.size + 1 := by rw [txt_size, hes]; rfl
  have hx0 : ∀ h, ((txt (packL a (1 + b) (bl a2)))[0]'h).toNat = (32 * a + (1 + b)).toNat := fun h => txt_cons_at _ _ hb256 h
  have hxt : (txt (packL a (1 + b) (bl a2))).extract 1 (txt (packL a (1 + b) (bl a2))).size = E := by rw [hE]; exact txt_cons_tail _ _
  obtain ⟨X, hX⟩ : ∃ X, X = txt (packL a (1 + b) (bl a2)) := ⟨_, rfl⟩
  rw [← hX] at hsx hx0 hxt HPK
  rw [← hE] at he
  have HE := Lib.hid he
  have hx00 : 0 < X.size := by omega
  have hx0' := hx0 hx00
  have hxi : (((X[0]'hx00).toNat : Nat) : Int) = 32 * a + (1 + b) := by rw [hx0']; omega
  have hgt : (a2.size : Int) < (X.size : Int) := by omega
  have h1x : (1 : Int) ≤ (X.size : Int) := by omega
  have h0x : (0 : Int) < (X.size : Int) := by omega
  have HU0 := Lib.hid (fun w => up0 ⟨#[]⟩ w (by decide))
  rw [up_empty.1, up_empty.2] at HU0
  obtain ⟨m, hm⟩ : ∃ m : Nat, (m : Int) = 128 + a := ⟨(128 + a).toNat, by omega⟩
  have hup := up_high m (by omega) (by omega)
  have hv := fun w => up0 (txt [m]) w (by rw [txt_size]; simp)
  rw [hup.1, hup.2] at hv
  have hcv : ∀ B w', w'.cell? ⟨B, 0, none⟩ = some (.int .u8 (m : Int)) → (convert 51 9 (.slice (some ⟨B, 0, none⟩) 1 1)).run Try.prog w' = .ok (.string (txt [m])) w' := fun B w' h => one_txt m B w' h
  generalize txt [m] = M at hv hcv
  have HV := Lib.hid hv
  have HM := Lib.hid hm
  have hm8 : IntKind.u8.wrap (128 + a) = (m : Int) := by
    have : IntKind.u8.wrap (128 + a) = (128 + a) % 256 := by simp [IntKind.wrap, IntKind.signed, IntKind.bits]
    rw [this]
    omega
  clear ha hb he hes hE hX hx0 hx0' hup hv hm hl1 hsx hb256 hsz hs
  refine (HPK.out _).mono ?_
  rintro e w2 ⟨rfl, hb⟩
  have HB := Lib.hid (HB.out.trans (hb.mono hz))
  have hz := HB.out.size
  clear hb HPK
  go_wp2_with fail
  refine (HN1.out _).mono ?_
  rintro e w3 ⟨rfl, hb⟩
  have HB := Lib.hid (HB.out.trans (hb.mono hz))
  have hz := HB.out.size
  clear hb HN1
  go_wp2_with fail
  refine (HN2.out _).mono ?_
  rintro e w4 ⟨rfl, hb⟩
  have HB := Lib.hid (HB.out.trans (hb.mono hz))
  have hz := HB.out.size
  clear hb HN2
  go_wp2_with fail
  refine (HU0.out _).mono ?_
  rintro e w5 ⟨rfl, hb⟩
  have HB := Lib.hid (HB.out.trans (hb.mono hz))
  have hz := HB.out.size
  clear hb HU0
  go_wp2_with fail
  refine (HV.out _).mono ?_
  rintro e w6 ⟨rfl, hb⟩
  have hb5 := HB.out
  have hB6 : Below w.heap.size w w6 := Below.trans (by repeat (first | exact Below.refl _ _ | assumption | refine Below.alloc ?_ (by first | omega | (simp <;> omega)) _ | refine Below.drew ?_ | refine Below.setCell ?_ (by first | omega | (simp <;> omega)) _)) (hb.mono (by simp [go_sem] <;> omega))
  have HB := Lib.hid hB6
  have hz := hB6.size
  clear hb hb5 HV hcv hm8 hB6
  have hmul : IntKind.i64.wrap (32 * a) = 32 * a := (IntWalk.i64_left _).trans (IntWalk.wrap64_in (32 * a) ⟨by omega, by omega⟩)
  have hsum : IntKind.i64.wrap (32 * a + (1 + b)) = 32 * a + (1 + b) := (IntWalk.i64_left _).trans (IntWalk.wrap64_in (32 * a + (1 + b)) ⟨by omega, by omega⟩)
  go_wp2_with fail
  have hB := HB.out
  clear HB
  go_region_held3 (fun w' => w.heap.size ≤ w'.heap.size ∧ Below w.heap.size w w')
    (first | (refine ⟨by simp [go_sem] <;> omega, (by repeat (first | exact Below.refl _ _ | assumption | refine Below.alloc ?_ (by first | omega | (simp <;> omega)) _ | refine Below.drew ?_ | refine Below.setCell ?_ (by first | omega | (simp <;> omega)) _))⟩) | (go_split_ands; refine ⟨by have := hbh1.size; omega, Below.trans (by assumption) (hbh1.mono (by omega))⟩) | go_keep)
    (first | (go_at_call 15; refine (num_any _ _).mono ?_; rintro e w' ⟨rfl, rfl⟩) | (go_at_call 13; refine (HE.out _).mono ?_; rintro e wh1 ⟨rfl, hbh1⟩))
  rename_i hh
  obtain ⟨_, hbe⟩ := hh
  go_wp2_with fail
  go_ret
  exact ⟨rfl, hbe⟩
end Go.Proofs.Ytndlmhpbnaohpaa
