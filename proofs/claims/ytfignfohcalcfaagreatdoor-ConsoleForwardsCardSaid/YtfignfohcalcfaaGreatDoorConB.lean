/- The tables that are laid; small functions of the console. -/
import Derived.Test.YtfignfohcalcfaaGreatDoorConA
import Derived.Test.YtfignfohcalcfaaGreatDoorShelf
import Derived.Test.YtfignfohcalcfaaGreatDoorSep
import Derived.Test.YtfignfohcalcfaaGreatDoorSetC
import Derived.Lib.ItoaLen
namespace Go.Proofs.YtfignfohcalcfaaGreatDoor
open Go.RowKit
set_option linter.unusedVariables false
set_option linter.unusedSimpArgs false

theorem var_go {n : String} {cs : Array Value} {w w' : World} (h : w.var? Tryz.prog n = some cs) (hb : Below w.heap.size w w') : w'.var? Tryz.prog n = some cs := by
  unfold World.var? at h ⊢
  cases hg : Tryz.prog.globalNamed n with
  | none => rw [hg] at h; cases h
  | some g =>
    rw [hg] at h
    simp only [Option.bind_some] at h ⊢
    have hl : g < w.heap.size := by
      rcases Nat.lt_or_ge g w.heap.size with q | q
      · exact q
      · rw [Array.getElem?_eq_none q] at h; cases h
    rw [hb.block g hl]
    exact h
theorem below_grow (w : World) (os : Array Obj) : Below w.heap.size w (Go.Sort.grow w os) :=
  ⟨rfl, rfl, rfl, by simp [Go.Sort.grow], fun k hk => by show (w.heap ++ os)[k]? = _; rw [Array.getElem?_append_left hk]⟩
theorem below_drewN (w : World) (n : Nat) : Below w.heap.size w (w.drewN n) := ⟨rfl, rfl, rfl, Nat.le_refl _, fun _ _ => rfl⟩
/-- what the library's variables hold -/
structure Tabs (w : World) : Prop where
  max : ∃ m, w.cell? ⟨0, 0, none⟩ = some (.int .i64 m)
  pow : Lib.TabIs Tryz.prog w "internal/strconv.uint64pow10" .u64 Lib.pow10Tab
theorem Tabs.go {w w' : World} (T : Tabs w) (hb : Below w.heap.size w w') : Tabs w' := by
  obtain ⟨⟨m, hm⟩, h2⟩ := T
  exact ⟨⟨m, (hb.cell (cell_lt hm)).trans hm⟩, var_go h2 hb⟩
theorem itoa_any (x : Int) (w : World) (T : Tabs w) (h0 : -9223372036854775808 ≤ x) (h1 : x ≤ 9223372036854775807) :
    Calls Tryz.prog 75 #[.int .i64 x] w fun e w' => e = .returned (.string (itoaF x)) ∧ Below w.heap.size w w' :=
  (Tryz.strconv_Itoa x h0 h1 w T.pow).mono fun e w' ⟨q1, k, os, q2⟩ => ⟨q1, q2 ▸ (below_drewN w k).trans (below_grow (w.drewN k) os)⟩
theorem itoaF_size (x : Int) (h0 : -9223372036854775808 ≤ x) (h1 : x ≤ 9223372036854775807) : (itoaF x).size ≤ 21 := Lib.itoa_length_le x h0 h1
set_option maxHeartbeats 800000 in
theorem fault_any (x : Int) (w : World) (T : Tabs w) (h0 : -9223372036854775808 ≤ x) (h1 : x ≤ 9223372036854775807) :
    Calls Tryz.prog 73 #[.int .i64 x] w fun e w' => e = .returned (.string (faultF x)) ∧ Below w.heap.size w w' := by
  have HI := Lib.hid (itoa_any x w T h0 h1)
  go_enter Tryz.func73, Tryz.ntmps73
  go_wp2_with fail
  refine HI.out.mono ?_
  rintro e w1 ⟨rfl, hb⟩
  have hz := itoaF_size x h0 h1
  have hz2 : ¬ (9223372036854775807 : Int) < 6 + ((itoaF x).size : Int) := by omega
  have hz3 : ¬ 9223372036854775807 < 6 + (itoaF x).size := by omega
  go_wp2_with fail
  go_ret
  exact ⟨congrArg (fun x => Ending.returned (.string x)) (by unfold faultF itoaF tx; apply ByteArray.ext; simp), hb⟩
end Go.Proofs.YtfignfohcalcfaaGreatDoor
