/- Bytes as a unit. -/
import Derived.Test.YtndlmhpbnaohpaaNalC
import Derived.Deep.RegionWith
namespace Go.Proofs.Ytndlmhpbnaohpaa
open Go.RowKit
set_option linter.unusedVariables false
set_option linter.unusedSimpArgs false

/-- what stands behind a unit's first byte -/
def tl (s : ByteArray) : ByteArray := s.extract 1 s.size
def first (s : ByteArray) : Nat := (bl s).getD 0 0
def upOk (s : ByteArray) : Bool := decide (s.size ≠ 0) && decide (first s < 128) && decide (first s % 32 ≠ 0) && unOk (tl s)
def upR (s : ByteArray) : Int := if upOk s = true then (first s / 32 : Nat) else 0
def upT (s : ByteArray) : Int := if upOk s = true then (first s % 32 : Nat) else 0
def upS (s : ByteArray) : ByteArray := if upOk s = true then txt (une (bl (tl s))) else ByteArray.empty
def upE (s : ByteArray) : Int := if s.size = 0 then 202 else if upOk s = true then 0 else 200
def upV (s : ByteArray) : Value := .agg #[.int .i64 (upR s), .int .i64 (upT s), .string (upS s)]
theorem upV_no {s : ByteArray} (h : ¬ upOk s = true) : upV s = .agg #[.int .i64 0, .int .i64 0, .string ByteArray.empty] := by unfold upV upR upT upS; rw [if_neg h, if_neg h, if_neg h]
theorem upV_yes {s : ByteArray} (h : upOk s = true) : upV s = .agg #[.int .i64 (first s / 32 : Nat), .int .i64 (first s % 32 : Nat), .string (txt (une (bl (tl s))))] := by unfold upV upR upT upS; rw [if_pos h, if_pos h, if_pos h]
theorem tl_size (s : ByteArray) : (tl s).size = s.size - 1 := by unfold tl; simp

set_option maxRecDepth 100000 in
set_option maxHeartbeats 1600000 in
theorem up0 (s : ByteArray) (w : World) (hs : s.size ≤ 4194304) :
    Calls Try.prog 19 #[.string s] w fun e w' => e = .returned (.tuple #[upV s, .int .i64 (upE s)]) ∧ Below w.heap.size w w' := by
  rcases Nat.eq_zero_or_pos s.size with h0 | h0
  · have hno : ¬ upOk s = true := by unfold upOk; simp [h0]
    have HV := Lib.hid (upV_no hno)
    have HE : Hid (upE s = 202) := Lib.hid (if_pos h0)
    have hse : s = ⟨#[]⟩ := by
      apply ByteArray.ext
      exact Array.eq_empty_of_size_eq_zero h0
    clear hno
    have HSE := Lib.hid hse
    have hq : s.toList.isEmpty = true := by rw [ByteArray.toList_eq, hse]; rfl
    clear hse
    go_enter Try.func19, Try.ntmps19
    go_wp2_with fail
    refine bodyPost_ret (v := .tuple #[.agg #[.int .i64 0, .int .i64 0, .string ⟨#[]⟩], .int .i64 202]) (by simp [results, Try.results19, go_sem]) rfl ⟨by rw [HV.out, HE.out]; try rfl, (Below.refl _ _).alloc (Nat.le_refl _) _⟩
  · have hl : (bl s).length = s.size := bl_len s
    have hat : (s[0]'h0).toNat = first s := by
      unfold first
      rw [List.getD_eq_getElem?_getD, List.getElem?_eq_getElem (by omega)]
      exact (bl_at s 0 h0).symm
    have hlt : first s < 256 := by rw [← hat]; exact UInt8.toNat_lt _
    have hne : s.toList.isEmpty = false := by
      rw [ByteArray.toList_eq, List.isEmpty_eq_false_iff]
      intro q
      have : s.data.toList.length = 0 := by rw [q]; rfl
      have h3 : s.size = s.data.toList.length := rfl
      omega
    have h0' : (0 : Int) < (s.size : Int) := by omega
    obtain ⟨b, hb⟩ : ∃ b, b = first s := ⟨_, rfl⟩
    rw [← hb] at hat hlt
    have HB := Lib.hid hb
    have hw3 : ¬ upOk s = true → Hid (upV s = .agg #[.int .i64 0, .int .i64 0, .string ByteArray.empty]) ∧ Hid (upE s = 200) := fun h => ⟨Lib.hid (upV_no h), Lib.hid (by unfold upE; rw [if_neg (by omega), if_neg h])⟩
    by_cases hc : b < 128 ∧ b % 32 ≠ 0
    · obtain ⟨hc1, hc2⟩ := hc
      have hc3 : (((b : Nat) : Int) % 32 == 0) = false := by rw [beq_eq_false_iff_ne]; omega
      have hc4 : (b : Int) < 128 := by omega
      have h1' : (1 : Int) ≤ (s.size : Int) := by omega
      by_cases hok : unOk (tl s) = true
      · have hup : upOk s = true := by
          unfold upOk
          rw [← hb]
          simp only [Bool.and_eq_true, decide_eq_true_eq]
          exact ⟨⟨⟨by omega, hc1⟩, hc2⟩, hok⟩
        have HV := Lib.hid (upV_yes hup)
        have HE : Hid (upE s = 0) := Lib.hid (by unfold upE; rw [if_neg (by omega), if_pos hup])
        have hU := fun w => une_any (tl s) w (by rw [tl_size]; omega)
        have hu1 : unS (tl s) = txt (une (bl (tl s))) := by unfold unS; rw [if_pos hok]
        have hu2 : unE (tl s) = 0 := by unfold unE; rw [if_pos hok]
        rw [hu1, hu2] at hU
        rw [← hb] at HV
        obtain ⟨U, hUU⟩ : ∃ U, U = txt (une (bl (tl s))) := ⟨_, rfl⟩
        rw [← hUU] at hU HV
        unfold tl at hU
        have HU := Lib.hid hU
        obtain ⟨qq, hqq⟩ : ∃ qq : Int, qq = ((b / 32 : Nat) : Int) := ⟨_, rfl⟩
        obtain ⟨mm, hmm⟩ : ∃ mm : Int, mm = ((b % 32 : Nat) : Int) := ⟨_, rfl⟩
        have HV : Hid (upV s = .agg #[.int .i64 qq, .int .i64 mm, .string U]) := Lib.hid (by rw [HV.out, hqq, hmm])
        have hq1 : IntKind.u8.wrap ((b : Int) / 32) = qq := by
          rw [hqq]
          simp [IntKind.wrap, IntKind.signed, IntKind.bits]
          omega
        have hq2 : ((b : Int).tmod 32) = mm := by
          rw [hmm, Int.tmod_eq_emod_of_nonneg (by omega)]
          omega
        have hq3 : IntKind.i64.wrap qq = qq := (IntWalk.i64_left _).trans (IntWalk.wrap64_in qq ⟨by omega, by omega⟩)
        have hq4 : IntKind.i64.wrap mm = mm := (IntWalk.i64_left _).trans (IntWalk.wrap64_in mm ⟨by omega, by omega⟩)
        have hc3' : (mm == 0) = false := by rw [beq_eq_false_iff_ne]; omega
        clear hqq hmm
        clear hU hUU hu1 hu2 hb hok hup hw3 hc1 hc2
        go_enter Try.func19, Try.ntmps19
        go_wp2_with fail
        refine (HU.out _).mono ?_
        rintro e w2 ⟨rfl, hbb⟩
        have hs2 := hbb.size
        have c0 := hbb.cell (p := ⟨w.heap.size, 0, none⟩) (by simp)
        have c1 := hbb.cell (p := ⟨w.heap.size, 1, none⟩) (by simp)
        have c2 := hbb.cell (p := ⟨w.heap.size, 2, none⟩) (by simp)
        have f0 := hbb.frozen (p := ⟨w.heap.size, 0, none⟩) (by simp)
        have f1 := hbb.frozen (p := ⟨w.heap.size, 1, none⟩) (by simp)
        have f2 := hbb.frozen (p := ⟨w.heap.size, 2, none⟩) (by simp)
        simp [go_sem] at c0 c1 c2 f0 f1 f2
        go_wp2_with fail
        go_region_with (fail)
        all_goals
          go_wp2_with fail
          have hb0 : Below w.heap.size w w2 := ((Below.refl _ _).alloc (Nat.le_refl _) _).trans (hbb.mono (by simp))
          refine bodyPost_ret (v := .tuple #[.agg #[.int .i64 qq, .int .i64 mm, .string U], .int .i64 0]) (by simp [results, Try.results19, go_sem, c0, c1, c2]) rfl ⟨by rw [HV.out, HE.out]; try rfl, (by repeat (first | exact Below.refl _ _ | assumption | refine Below.alloc ?_ (by first | omega | (simp <;> omega)) _ | refine Below.drew ?_ | refine Below.setCell ?_ (by first | omega | (simp <;> omega)) _))⟩
      · have hup : ¬ upOk s = true := by
          unfold upOk
          simp [hok]
        obtain ⟨HV, HE⟩ := hw3 hup
        have hU := fun w => une_any (tl s) w (by rw [tl_size]; omega)
        have hu2 : unE (tl s) = 200 := by unfold unE; rw [if_neg hok]
        rw [hu2] at hU
        obtain ⟨U, hUU⟩ : ∃ U, U = unS (tl s) := ⟨_, rfl⟩
        rw [← hUU] at hU
        unfold tl at hU
        have HU := Lib.hid hU
        clear hU hUU hu2 hb hok hup hw3 hc1 hc2
        go_enter Try.func19, Try.ntmps19
        go_wp2_with fail
        refine (HU.out _).mono ?_
        rintro e w2 ⟨rfl, hbb⟩
        have hs2 := hbb.size
        have c0 := hbb.cell (p := ⟨w.heap.size, 0, none⟩) (by simp)
        have c1 := hbb.cell (p := ⟨w.heap.size, 1, none⟩) (by simp)
        have c2 := hbb.cell (p := ⟨w.heap.size, 2, none⟩) (by simp)
        have f0 := hbb.frozen (p := ⟨w.heap.size, 0, none⟩) (by simp)
        have f1 := hbb.frozen (p := ⟨w.heap.size, 1, none⟩) (by simp)
        have f2 := hbb.frozen (p := ⟨w.heap.size, 2, none⟩) (by simp)
        simp [go_sem] at c0 c1 c2 f0 f1 f2
        go_wp2_with fail
        have hb0 : Below w.heap.size w w2 := ((Below.refl _ _).alloc (Nat.le_refl _) _).trans (hbb.mono (by simp))
        refine bodyPost_ret (v := .tuple #[.agg #[.int .i64 0, .int .i64 0, .string ⟨#[]⟩], .int .i64 200]) (by simp [results, Try.results19, go_sem, c0, c1, c2]) rfl ⟨by rw [HV.out, HE.out]; try rfl, (by repeat (first | exact Below.refl _ _ | assumption | refine Below.alloc ?_ (by first | omega | (simp <;> omega)) _ | refine Below.drew ?_ | refine Below.setCell ?_ (by first | omega | (simp <;> omega)) _))⟩
    · have hno : ¬ upOk s = true := by
        unfold upOk
        rw [← hb]
        simp
        intro _ h1 h2
        omega
      obtain ⟨HV, HE⟩ := hw3 hno
      have hways : (128 : Int) ≤ (b : Int) ∨ ((b : Int) < 128 ∧ (((b : Nat) : Int) % 32 == 0) = true) := by
        rcases Nat.lt_or_ge b 128 with h | h
        · exact .inr ⟨by omega, by rw [beq_iff_eq]; omega⟩
        · exact .inl (by omega)
      clear hb hno hc hw3
      rcases hways with h | ⟨h, h'⟩
      all_goals
        go_enter Try.func19, Try.ntmps19
        go_wp2_with fail
        refine bodyPost_ret (v := .tuple #[.agg #[.int .i64 0, .int .i64 0, .string ⟨#[]⟩], .int .i64 200]) (by simp [results, Try.results19, go_sem]) rfl ⟨by rw [HV.out, HE.out]; try rfl, (Below.refl _ _).alloc (Nat.le_refl _) _⟩
set_option maxRecDepth 100000 in
set_option maxHeartbeats 1600000 in
theorem up1 (s : ByteArray) (w : World) (hs : s.size ≤ 4194304) :
    Calls Try.prog 20 #[.string s] w fun e w' => e = .returned (.tuple #[upV s, .int .i64 (upE s)]) ∧ Below w.heap.size w w' := by
  rcases Nat.eq_zero_or_pos s.size with h0 | h0
  · have hno : ¬ upOk s = true := by unfold upOk; simp [h0]
    have HV := Lib.hid (upV_no hno)
    have HE : Hid (upE s = 202) := Lib.hid (if_pos h0)
    have hse : s = ⟨#[]⟩ := by
      apply ByteArray.ext
      exact Array.eq_empty_of_size_eq_zero h0
    clear hno
    have HSE := Lib.hid hse
    have hq : s.toList.isEmpty = true := by rw [ByteArray.toList_eq, hse]; rfl
    clear hse
    go_enter Try.func20, Try.ntmps20
    go_wp2_with fail
    refine bodyPost_ret (v := .tuple #[.agg #[.int .i64 0, .int .i64 0, .string ⟨#[]⟩], .int .i64 202]) (by simp [results, Try.results20, go_sem]) rfl ⟨by rw [HV.out, HE.out]; try rfl, (Below.refl _ _).alloc (Nat.le_refl _) _⟩
  · have hl : (bl s).length = s.size := bl_len s
    have hat : (s[0]'h0).toNat = first s := by
      unfold first
      rw [List.getD_eq_getElem?_getD, List.getElem?_eq_getElem (by omega)]
      exact (bl_at s 0 h0).symm
    have hlt : first s < 256 := by rw [← hat]; exact UInt8.toNat_lt _
    have hne : s.toList.isEmpty = false := by
      rw [ByteArray.toList_eq, List.isEmpty_eq_false_iff]
      intro q
      have : s.data.toList.length = 0 := by rw [q]; rfl
      have h3 : s.size = s.data.toList.length := rfl
      omega
    have h0' : (0 : Int) < (s.size : Int) := by omega
    obtain ⟨b, hb⟩ : ∃ b, b = first s := ⟨_, rfl⟩
    rw [← hb] at hat hlt
    have HB := Lib.hid hb
    have hw3 : ¬ upOk s = true → Hid (upV s = .agg #[.int .i64 0, .int .i64 0, .string ByteArray.empty]) ∧ Hid (upE s = 200) := fun h => ⟨Lib.hid (upV_no h), Lib.hid (by unfold upE; rw [if_neg (by omega), if_neg h])⟩
    by_cases hc : b < 128 ∧ b % 32 ≠ 0
    · obtain ⟨hc1, hc2⟩ := hc
      have hc3 : (((b : Nat) : Int) % 32 == 0) = false := by rw [beq_eq_false_iff_ne]; omega
      have hc4 : (b : Int) < 128 := by omega
      have h1' : (1 : Int) ≤ (s.size : Int) := by omega
      by_cases hok : unOk (tl s) = true
      · have hup : upOk s = true := by
          unfold upOk
          rw [← hb]
          simp only [Bool.and_eq_true, decide_eq_true_eq]
          exact ⟨⟨⟨by omega, hc1⟩, hc2⟩, hok⟩
        have HV := Lib.hid (upV_yes hup)
        have HE : Hid (upE s = 0) := Lib.hid (by unfold upE; rw [if_neg (by omega), if_pos hup])
        have hU := fun w => une2_any (tl s) w (by rw [tl_size]; omega)
        have hu1 : unS (tl s) = txt (une (bl (tl s))) := by unfold unS; rw [if_pos hok]
        have hu2 : unE (tl s) = 0 := by unfold unE; rw [if_pos hok]
        rw [hu1, hu2] at hU
        rw [← hb] at HV
        obtain ⟨U, hUU⟩ : ∃ U, U = txt (une (bl (tl s))) := ⟨_, rfl⟩
        rw [← hUU] at hU HV
        unfold tl at hU
        have HU := Lib.hid hU
        obtain ⟨qq, hqq⟩ : ∃ qq : Int, qq = ((b / 32 : Nat) : Int) := ⟨_, rfl⟩
        obtain ⟨mm, hmm⟩ : ∃ mm : Int, mm = ((b % 32 : Nat) : Int) := ⟨_, rfl⟩
        have HV : Hid (upV s = .agg #[.int .i64 qq, .int .i64 mm, .string U]) := Lib.hid (by rw [HV.out, hqq, hmm])
        have hq1 : IntKind.u8.wrap ((b : Int) / 32) = qq := by
          rw [hqq]
          simp [IntKind.wrap, IntKind.signed, IntKind.bits]
          omega
        have hq2 : ((b : Int).tmod 32) = mm := by
          rw [hmm, Int.tmod_eq_emod_of_nonneg (by omega)]
          omega
        have hq3 : IntKind.i64.wrap qq = qq := (IntWalk.i64_left _).trans (IntWalk.wrap64_in qq ⟨by omega, by omega⟩)
        have hq4 : IntKind.i64.wrap mm = mm := (IntWalk.i64_left _).trans (IntWalk.wrap64_in mm ⟨by omega, by omega⟩)
        have hc3' : (mm == 0) = false := by rw [beq_eq_false_iff_ne]; omega
        clear hqq hmm
        clear hU hUU hu1 hu2 hb hok hup hw3 hc1 hc2
        go_enter Try.func20, Try.ntmps20
        go_wp2_with fail
        refine (HU.out _).mono ?_
        rintro e w2 ⟨rfl, hbb⟩
        have hs2 := hbb.size
        have c0 := hbb.cell (p := ⟨w.heap.size, 0, none⟩) (by simp)
        have c1 := hbb.cell (p := ⟨w.heap.size, 1, none⟩) (by simp)
        have c2 := hbb.cell (p := ⟨w.heap.size, 2, none⟩) (by simp)
        have f0 := hbb.frozen (p := ⟨w.heap.size, 0, none⟩) (by simp)
        have f1 := hbb.frozen (p := ⟨w.heap.size, 1, none⟩) (by simp)
        have f2 := hbb.frozen (p := ⟨w.heap.size, 2, none⟩) (by simp)
        simp [go_sem] at c0 c1 c2 f0 f1 f2
        go_wp2_with fail
        go_region_with (fail)
        all_goals
          go_wp2_with fail
          have hb0 : Below w.heap.size w w2 := ((Below.refl _ _).alloc (Nat.le_refl _) _).trans (hbb.mono (by simp))
          refine bodyPost_ret (v := .tuple #[.agg #[.int .i64 qq, .int .i64 mm, .string U], .int .i64 0]) (by simp [results, Try.results20, go_sem, c0, c1, c2]) rfl ⟨by rw [HV.out, HE.out]; try rfl, (by repeat (first | exact Below.refl _ _ | assumption | refine Below.alloc ?_ (by first | omega | (simp <;> omega)) _ | refine Below.drew ?_ | refine Below.setCell ?_ (by first | omega | (simp <;> omega)) _))⟩
      · have hup : ¬ upOk s = true := by
          unfold upOk
          simp [hok]
        obtain ⟨HV, HE⟩ := hw3 hup
        have hU := fun w => une2_any (tl s) w (by rw [tl_size]; omega)
        have hu2 : unE (tl s) = 200 := by unfold unE; rw [if_neg hok]
        rw [hu2] at hU
        obtain ⟨U, hUU⟩ : ∃ U, U = unS (tl s) := ⟨_, rfl⟩
        rw [← hUU] at hU
        unfold tl at hU
        have HU := Lib.hid hU
        clear hU hUU hu2 hb hok hup hw3 hc1 hc2
        go_enter Try.func20, Try.ntmps20
        go_wp2_with fail
        refine (HU.out _).mono ?_
        rintro e w2 ⟨rfl, hbb⟩
        have hs2 := hbb.size
        have c0 := hbb.cell (p := ⟨w.heap.size, 0, none⟩) (by simp)
        have c1 := hbb.cell (p := ⟨w.heap.size, 1, none⟩) (by simp)
        have c2 := hbb.cell (p := ⟨w.heap.size, 2, none⟩) (by simp)
        have f0 := hbb.frozen (p := ⟨w.heap.size, 0, none⟩) (by simp)
        have f1 := hbb.frozen (p := ⟨w.heap.size, 1, none⟩) (by simp)
        have f2 := hbb.frozen (p := ⟨w.heap.size, 2, none⟩) (by simp)
        simp [go_sem] at c0 c1 c2 f0 f1 f2
        go_wp2_with fail
        have hb0 : Below w.heap.size w w2 := ((Below.refl _ _).alloc (Nat.le_refl _) _).trans (hbb.mono (by simp))
        refine bodyPost_ret (v := .tuple #[.agg #[.int .i64 0, .int .i64 0, .string ⟨#[]⟩], .int .i64 200]) (by simp [results, Try.results20, go_sem, c0, c1, c2]) rfl ⟨by rw [HV.out, HE.out]; try rfl, (by repeat (first | exact Below.refl _ _ | assumption | refine Below.alloc ?_ (by first | omega | (simp <;> omega)) _ | refine Below.drew ?_ | refine Below.setCell ?_ (by first | omega | (simp <;> omega)) _))⟩
    · have hno : ¬ upOk s = true := by
        unfold upOk
        rw [← hb]
        simp
        intro _ h1 h2
        omega
      obtain ⟨HV, HE⟩ := hw3 hno
      have hways : (128 : Int) ≤ (b : Int) ∨ ((b : Int) < 128 ∧ (((b : Nat) : Int) % 32 == 0) = true) := by
        rcases Nat.lt_or_ge b 128 with h | h
        · exact .inr ⟨by omega, by rw [beq_iff_eq]; omega⟩
        · exact .inl (by omega)
      clear hb hno hc hw3
      rcases hways with h | ⟨h, h'⟩
      all_goals
        go_enter Try.func20, Try.ntmps20
        go_wp2_with fail
        refine bodyPost_ret (v := .tuple #[.agg #[.int .i64 0, .int .i64 0, .string ⟨#[]⟩], .int .i64 200]) (by simp [results, Try.results20, go_sem]) rfl ⟨by rw [HV.out, HE.out]; try rfl, (Below.refl _ _).alloc (Nat.le_refl _) _⟩
end Go.Proofs.Ytndlmhpbnaohpaa
