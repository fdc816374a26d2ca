/- A strings.Builder of the call's own: WriteString, String. -/
import Derived.Test.YtfignfohcalcfaaGreatDoorNalA
import Derived.Test.YtfignfohcalcfaaGreatDoorShelf
import Derived.Lib.Builder
import Derived.Lib.AppendStr
import Derived.Lib.UnsafeStr
import Derived.Laws.Externs
namespace Go.Proofs.YtfignfohcalcfaaGreatDoor
open Go.RowKit
set_option linter.unusedVariables false
set_option linter.unusedSimpArgs false

theorem size_builder : (Tryz.prog.info? 63).map (·.size) = some 2 := by kernel_rfl
theorem lies_builder : liesAt Tryz.prog Tryz.prog.depth 63 (2 / Tryz.prog.cellsOf 63) 0 63 1 = true := by kernel_rfl

set_option maxHeartbeats 1000000 in
set_option maxRecDepth 100000 in
theorem check_used (b : Nat) (w : World) (h0 : w.cell? ⟨b, 0, none⟩ = some (.pointer (some ⟨b, 0, none⟩))) :
    Calls Tryz.prog 31 #[.pointer (some ⟨b, 0, none⟩)] w fun e w' => e = .returned (.tuple #[]) ∧ w = w' := by
  obtain ⟨j, hj, _⟩ := Option.map_eq_some_iff.1 size_builder
  go_enter Tryz.func31, Tryz.ntmps31
  go_wp2
  rw [Lib.run_neq_ptr_same w _ Tryz.underlying60 hj]
  go_wp2
  go_end0
  exact ⟨rfl, rfl⟩

set_option maxHeartbeats 1000000 in
set_option maxRecDepth 100000 in
theorem check_fresh (b : Nat) (w : World) (h0 : w.cell? ⟨b, 0, none⟩ = some (.pointer none)) (hsh : w.shape? b = some (63, 2)) (hfz : w.frozen? ⟨b, 0, none⟩ = false) :
    Calls Tryz.prog 31 #[.pointer (some ⟨b, 0, none⟩)] w fun e w' => e = .returned (.tuple #[]) ∧ w.setCell ⟨b, 0, none⟩ (.pointer (some ⟨b, 0, none⟩)) = w' := by
  obtain ⟨j, hj, hjs⟩ := Option.map_eq_some_iff.1 size_builder
  go_enter Tryz.func31, Tryz.ntmps31
  go_wp2
  rw [Lib.run_to_unsafe w ⟨b, 0, none⟩ Tryz.underlying60 Tryz.underlying102 hj (by rw [hjs]; decide) hsh (Nat.zero_lt_succ 1)]
  simp only [Result.andThen]
  rw [Oper.upon_value]
  go_wp2
  rw [run_callFunc_extern Tryz.func45 (by kernel_rfl) (by kernel_rfl) (by kernel_rfl) (e := Extern.AbiNoEscape.same) (by kernel_rfl)]
  rw [Lib.run_noEscape]
  simp only [Result.andThen]
  rw [Oper.upon_value]
  go_wp2
  rw [Lib.run_from_unsafe w ⟨b, 0, none⟩ Tryz.underlying102 Tryz.underlying60 hj hsh lies_builder]
  simp only [Result.andThen]
  rw [Oper.upon_value]
  go_wp2
  go_end0
  exact ⟨rfl, rfl⟩

/-- the builder of block b holds these bytes -/
def SB (w : World) (B b : Nat) (l : List Nat) : Prop := Lib.IsBuilder 63 5 B b (bV l) w
theorem strCells_eq (s : ByteArray) : Lib.strCells s = bV (bl s) := by
  unfold Lib.strCells bV bl
  rw [List.map_map]
  rfl
theorem check_any (B b : Nat) (bs : List Value) (w : World) (h : Lib.IsBuilder 63 5 B b bs w) :
    Calls Tryz.prog 31 #[.pointer (some ⟨b, 0, none⟩)] w fun e w' => e = .returned (.tuple #[]) ∧ (Lib.BuilderAt 63 5 B b (.pointer (some ⟨b, 0, none⟩)) bs w' ∧ Below B w w') := by
  rcases h with h | h
  · refine (check_fresh b w h.cell0 h.shape h.frozen0).mono ?_
    rintro e w' ⟨rfl, rfl⟩
    exact ⟨rfl, h.used _, (Below.refl B w).setCell (p := ⟨b, 0, none⟩) h.1 _⟩
  · refine (check_used b w h.cell0).mono ?_
    rintro e w' ⟨rfl, rfl⟩
    exact ⟨rfl, h, Below.refl B _⟩

set_option maxHeartbeats 1000000 in
set_option maxRecDepth 100000 in
theorem write_any (B b : Nat) (l : List Nat) (s : ByteArray) (w : World) (h : SB w B b l) (hlen : l.length + s.size ≤ 140737488355328) (hBw : B ≤ w.heap.size) :
    Calls Tryz.prog 22 #[.pointer (some ⟨b, 0, none⟩), .string s] w fun e w' => e = .returned (.tuple #[.int .i64 s.size, .nilIface]) ∧ SB w' B b (l ++ bl s) ∧ Below B w w' := by
  obtain ⟨i0, hi, hz0, hz1, hz2⟩ := info_parts u8_info
  have hbl : (bV l).length = l.length := bV_len l
  have HC := Lib.hid (check_any B b (bV l) w h)
  have HBL := Lib.hid hbl
  have hss : s.size ≤ 140737488355328 := by omega
  clear h hbl
  go_enter Tryz.func22, Tryz.ntmps22
  go_wp2_with fail
  refine HC.out.mono ?_
  rintro e w1 ⟨rfl, h1, hb1⟩
  obtain ⟨hB, v, hbk, hown, hne⟩ := h1
  have hs1 := hb1.size
  have hbk1 : Bk w1 b 63 #[.pointer (some ⟨b, 0, none⟩), v] := hbk
  have c0 := hbk1.cell 0
  have c1 : w1.cell? ⟨b, 1, none⟩ = some v := hbk1.cell 1
  have HO := Lib.hid hown
  have HB1 := Lib.hid hb1
  have HBK := Lib.hid hbk1
  have HNE := Lib.hid hne
  clear hown hb1 hbk hbk1 hne HC
  go_wp2_with (at_builtin; refine Lib.wpList_append_own_string _ rfl _ _ 61 9 rfl B 5 i0 Tryz.underlying61 Tryz.underlying9 hi hz0 hz1 hz2 _ _ _ rfl HO.out s rfl (by unfold maxLen; rw [HBL.out]; omega) (by rw [HBL.out]; omega) (by omega) ?_)
  intro v' w2 hown' hgrow _
  have hb2 := HBK.out.grown hgrow (fun e => HNE.out e.symm)
  have f1 := hb2.frozen 1
  have d1 : w2.cell? ⟨b, 1, none⟩ = some v := hb2.cell 1
  obtain ⟨ao, n', cap, rfl⟩ : ∃ ao n' cap, v' = .slice ao n' cap := by
    rcases hown'.2 with ⟨hv, _⟩ | ⟨g, cap, cur, hv, _⟩
    · exact ⟨_, _, _, hv⟩
    · exact ⟨_, _, _, hv⟩
  have HO2 := Lib.hid hown'
  have HG := Lib.hid hgrow
  have HB2 := Lib.hid hb2
  clear hown' hgrow hb2 c0 c1
  go_wp2
  go_ret2
  refine ⟨rfl, .inr ?_, ?_⟩
  · have ho := HO2.out
    rw [strCells_eq, ← bV_append] at ho
    have hl : (bV l).length + s.size = (bV (l ++ bl s)).length := by rw [bV_len, bV_len, List.length_append, bl_len]
    rw [hl] at ho
    exact Lib.BuilderAt.put hB HB2.out ho (by decide)
  · exact (HB1.out.grown HG.out (by omega) (fun k hk => (HO.out.lt k hk).1)).setCell (p := ⟨b, 1, none⟩) hB _
theorem sbString_any (B b : Nat) (l : List Nat) (w : World) (h : SB w B b l) (hl : ∀ x ∈ l, x < 256) (hBw : B ≤ w.heap.size) :
    Calls Tryz.prog 24 #[.pointer (some ⟨b, 0, none⟩)] w fun e w' => e = .returned (.string (txt l)) ∧ Below B w w' := by
  have e1 : bV l = Lib.byteCells (l.map UInt8.ofNat) := by
    unfold bV Lib.byteCells
    rw [List.map_map]
    apply List.map_congr_left
    intro x hx
    have := hl x hx
    simp
    omega
  have e2 : txt l = ⟨(l.map UInt8.ofNat).toArray⟩ := by
    unfold txt strOfNums
    rw [List.map_map]
    congr 2
  unfold SB at h
  rw [e1] at h
  rw [e2]
  exact Tryz.Builder_String_any B b _ w h hBw
end Go.Proofs.YtfignfohcalcfaaGreatDoor
