/- sync.Once, not yet done, its lock free: the calls that it comes to; the ranges of parameters. -/
import Derived.Test.YtjokibagciehlaaGreatTouch
import Derived.Test.YtjokibagciehlaaGreatBase
import Derived.Test.YtjokibagciehlaaGreatInv
import Derived.Tactics
import Derived.Tactics2
import Derived.Defers
import Derived.Laws.Pointers
import Derived.Laws.LoneSync
import Derived.RegionTactic
import Derived.RegionCalls
import Derived.BigRegion
import Derived.ChangeAlike
import Derived.StillTailTactics
namespace Go.Proofs.YtjokibagciehlaaGreat
open Go.RowKit
set_option linter.unusedVariables false
set_option linter.unusedSimpArgs false

theorem sy_disable (w : World) : (callFunc 131 #[]).run Tryz.prog w = .ok (.value (.tuple #[])) w := run_call_mark0 Tryz.func131 (by kernel_rfl) (by kernel_rfl) (by kernel_rfl) .disable (by kernel_rfl) w
theorem sy_enable (w : World) : (callFunc 133 #[]).run Tryz.prog w = .ok (.value (.tuple #[])) w := run_call_mark0 Tryz.func133 (by kernel_rfl) (by kernel_rfl) (by kernel_rfl) .enable (by kernel_rfl) w
theorem sy_acquire (a : Addr) (w : World) : (callFunc 134 #[.pointer (some a)]).run Tryz.prog w = .ok (.value (.tuple #[])) w := run_call_marked Tryz.func134 (by kernel_rfl) (by kernel_rfl) (by kernel_rfl) .acquire (by kernel_rfl) a w
theorem sy_release (a : Addr) (w : World) : (callFunc 136 #[.pointer (some a)]).run Tryz.prog w = .ok (.value (.tuple #[])) w := run_call_marked Tryz.func136 (by kernel_rfl) (by kernel_rfl) (by kernel_rfl) .releaseMerge (by kernel_rfl) a w

set_option maxRecDepth 100000 in
/-- '(*sync/atomic.Bool).Store(true)', a deferred call: the cell holds 1. -/
theorem sy_store (a : Addr) (x : Value) (u : FrameMode) (w : World) (hc : w.cell? a = some x) (hz : w.frozen? a = false) :
    CallsD Tryz.prog 126 #[.pointer (some a), .bool true] u w fun e u' w' => u' = u ∧ (e = .returned (.tuple #[]) ∧ w' = w.drew.setCell a (.int .u32 1)) := by
  have hc' : w.drew.cell? a = some x := by go_simp
  have hz' : w.drew.frozen? a = false := by go_simp
  have hst := run_call_store (P := Tryz.prog) Tryz.func129 (by kernel_rfl) (by kernel_rfl) (by kernel_rfl) (by kernel_rfl) (k := .u32) (y := 1) hc' hz'
  go_enter_d Tryz.func126, Tryz.ntmps126
  go_wp2
  go_region_calls
  all_goals (go_end0; exact ⟨rfl, rfl⟩)

set_option maxRecDepth 100000 in
/-- '(*sync.Mutex).Unlock', a deferred call, the lock held and nobody waiting: state 0. -/
theorem sy_unlock (a : Addr) (u : FrameMode) (w : World) (hc : w.cell? a = some (.int .i32 1)) (hz : w.frozen? a = false) :
    CallsD Tryz.prog 125 #[.pointer (some a)] u w fun e u' w' => u' = u ∧ (e = .returned (.tuple #[]) ∧ w' = w.setCell a (.int .i32 0)) := by
  have hd := sy_disable
  have he := sy_enable
  have hr := sy_release
  have hadd := run_call_add (P := Tryz.prog) Tryz.func137 (by kernel_rfl) (by kernel_rfl) (by kernel_rfl) .i32 (by kernel_rfl) (y := -1) (s := 0) hc hz (by simp [go_sem]; rfl)
  have hcv := run_convert_to_unsafe (P := Tryz.prog) (src := 182) (dst := 186) Tryz.underlying182 Tryz.underlying186 (by kernel_rfl) hc
  go_enter_d Tryz.func125, Tryz.ntmps125
  go_wp2
  go_end0
  go_wp2
  go_end0
  exact ⟨rfl, rfl⟩

set_option maxRecDepth 100000 in
/-- '(*sync.Mutex).Lock', the lock free: state 1. -/
theorem sy_lock (a : Addr) (w : World) (hc : w.cell? a = some (.int .i32 0)) (hz : w.frozen? a = false) :
    Calls Tryz.prog 124 #[.pointer (some a)] w fun e w' => e = .returned (.tuple #[]) ∧ w' = w.setCell a (.int .i32 1) := by
  have hd := sy_disable
  have he := sy_enable
  have ha := sy_acquire
  have hcas := run_call_cas_hit (P := Tryz.prog) Tryz.func132 (by kernel_rfl) (by kernel_rfl) (by kernel_rfl) .i32 (by kernel_rfl) (y := 1) hc hz
  have hc' : (w.setCell a (.int .i32 1)).cell? a = some (.int .i32 1) := World.cell?_setCell_same w a _ hc
  have hcv := run_convert_to_unsafe (P := Tryz.prog) (src := 182) (dst := 186) Tryz.underlying182 Tryz.underlying186 (by kernel_rfl) hc'
  go_enter Tryz.func124, Tryz.ntmps124
  go_wp2
  first | go_end0 | (simp only [Exit.inBlock, Exit.then]; refine bodyPost_ret (results_none rfl _ _ _) rfl ?_) | refine bodyPost_ret (results_none rfl _ _ _) rfl ?_
  go_wp2
  go_end0
  exact ⟨rfl, rfl⟩

set_option maxRecDepth 100000 in
/-- '(*sync/atomic.Bool).Load' -/
theorem sy_load (a : Addr) (x : Int) (w : World) (hc : w.cell? a = some (.int .u32 x)) {b : Bool} (hb : (x != 0) = b) :
    Calls Tryz.prog 118 #[.pointer (some a)] w fun e w' => e = .returned (.bool b) ∧ w = w' := by
  have hl := run_call_load (P := Tryz.prog) Tryz.func123 (by kernel_rfl) (by kernel_rfl) (by kernel_rfl) .u32 (by kernel_rfl) (w := w) (a := a) (x := x) hc
  go_enter Tryz.func118, Tryz.ntmps118
  go_wp2_with fail
  go_ret
  exact ⟨rfl, rfl⟩

/-- the cells of ranges, made once -/
def rgV (s : Int) (d : Int) : Array Value := #[.int .u32 d, .int .i32 s, .int .u32 0, .int .i64 1, .int .i64 8, .int .i64 4, .int .i64 8, .int .i64 0, .int .i64 2, .int .i64 (-1000), .int .i64 1000, .int .i64 1, .int .i64 8, .int .i64 0, .int .i64 2, .int .i64 0, .int .i64 51, .int .i64 (-12), .int .i64 12, .int .i64 0, .int .i64 4]
def rg0 (s : Int) (d : Int) : Array Value := #[.int .u32 d, .int .i32 s, .int .u32 0, .int .i64 0, .int .i64 0, .int .i64 0, .int .i64 0, .int .i64 0, .int .i64 0, .int .i64 0, .int .i64 0, .int .i64 0, .int .i64 0, .int .i64 0, .int .i64 0, .int .i64 0, .int .i64 0, .int .i64 0, .int .i64 0, .int .i64 0, .int .i64 0]

theorem bk_set {w : World} {g : Nat} {t : TypeId} {cs cs' : Array Value} (h : Bk w g t cs) (i : Nat) (u : Value) (e : cs.toList.set i u = cs'.toList) : Bk (w.setCell ⟨g, i, none⟩ u) g t cs' := by
  have := h.set_ i u
  rwa [show cs.setIfInBounds i u = cs' from Array.ext' (by rw [Array.toList_setIfInBounds]; exact e)] at this
theorem fill1 {w : World} {g : Nat} (hg : Bk w g 145 (rg0 1 0)) : Bk ((((((((w.setCell ⟨g, 3, none⟩ (.int .i64 1)).setCell ⟨g, 4, none⟩ (.int .i64 8)).setCell ⟨g, 5, none⟩ (.int .i64 4)).setCell ⟨g, 6, none⟩ (.int .i64 8)).setCell ⟨g, 7, none⟩ (.int .i64 0)).setCell ⟨g, 8, none⟩ (.int .i64 2)).setCell ⟨g, 9, none⟩ (.int .i64 (-1000))).setCell ⟨g, 10, none⟩ (.int .i64 1000)).drew g 145 #[.int .u32 0, .int .i32 1, .int .u32 0, .int .i64 1, .int .i64 8, .int .i64 4, .int .i64 8, .int .i64 0, .int .i64 2, .int .i64 (-1000), .int .i64 1000, .int .i64 0, .int .i64 0, .int .i64 0, .int .i64 0, .int .i64 0, .int .i64 0, .int .i64 0, .int .i64 0, .int .i64 0, .int .i64 0] := (bk_set (cs' := #[.int .u32 0, .int .i32 1, .int .u32 0, .int .i64 1, .int .i64 8, .int .i64 4, .int .i64 8, .int .i64 0, .int .i64 2, .int .i64 (-1000), .int .i64 1000, .int .i64 0, .int .i64 0, .int .i64 0, .int .i64 0, .int .i64 0, .int .i64 0, .int .i64 0, .int .i64 0, .int .i64 0, .int .i64 0]) (bk_set (cs' := #[.int .u32 0, .int .i32 1, .int .u32 0, .int .i64 1, .int .i64 8, .int .i64 4, .int .i64 8, .int .i64 0, .int .i64 2, .int .i64 (-1000), .int .i64 0, .int .i64 0, .int .i64 0, .int .i64 0, .int .i64 0, .int .i64 0, .int .i64 0, .int .i64 0, .int .i64 0, .int .i64 0, .int .i64 0]) (bk_set (cs' := #[.int .u32 0, .int .i32 1, .int .u32 0, .int .i64 1, .int .i64 8, .int .i64 4, .int .i64 8, .int .i64 0, .int .i64 2, .int .i64 0, .int .i64 0, .int .i64 0, .int .i64 0, .int .i64 0, .int .i64 0, .int .i64 0, .int .i64 0, .int .i64 0, .int .i64 0, .int .i64 0, .int .i64 0]) (bk_set (cs' := #[.int .u32 0, .int .i32 1, .int .u32 0, .int .i64 1, .int .i64 8, .int .i64 4, .int .i64 8, .int .i64 0, .int .i64 0, .int .i64 0, .int .i64 0, .int .i64 0, .int .i64 0, .int .i64 0, .int .i64 0, .int .i64 0, .int .i64 0, .int .i64 0, .int .i64 0, .int .i64 0, .int .i64 0]) (bk_set (cs' := #[.int .u32 0, .int .i32 1, .int .u32 0, .int .i64 1, .int .i64 8, .int .i64 4, .int .i64 8, .int .i64 0, .int .i64 0, .int .i64 0, .int .i64 0, .int .i64 0, .int .i64 0, .int .i64 0, .int .i64 0, .int .i64 0, .int .i64 0, .int .i64 0, .int .i64 0, .int .i64 0, .int .i64 0]) (bk_set (cs' := #[.int .u32 0, .int .i32 1, .int .u32 0, .int .i64 1, .int .i64 8, .int .i64 4, .int .i64 0, .int .i64 0, .int .i64 0, .int .i64 0, .int .i64 0, .int .i64 0, .int .i64 0, .int .i64 0, .int .i64 0, .int .i64 0, .int .i64 0, .int .i64 0, .int .i64 0, .int .i64 0, .int .i64 0]) (bk_set (cs' := #[.int .u32 0, .int .i32 1, .int .u32 0, .int .i64 1, .int .i64 8, .int .i64 0, .int .i64 0, .int .i64 0, .int .i64 0, .int .i64 0, .int .i64 0, .int .i64 0, .int .i64 0, .int .i64 0, .int .i64 0, .int .i64 0, .int .i64 0, .int .i64 0, .int .i64 0, .int .i64 0, .int .i64 0]) (bk_set (cs' := #[.int .u32 0, .int .i32 1, .int .u32 0, .int .i64 1, .int .i64 0, .int .i64 0, .int .i64 0, .int .i64 0, .int .i64 0, .int .i64 0, .int .i64 0, .int .i64 0, .int .i64 0, .int .i64 0, .int .i64 0, .int .i64 0, .int .i64 0, .int .i64 0, .int .i64 0, .int .i64 0, .int .i64 0]) hg 3 (.int .i64 1) rfl) 4 (.int .i64 8) rfl) 5 (.int .i64 4) rfl) 6 (.int .i64 8) rfl) 7 (.int .i64 0) rfl) 8 (.int .i64 2) rfl) 9 (.int .i64 (-1000)) rfl) 10 (.int .i64 1000) rfl).drew
theorem fill2 {W1 : World} {g : Nat} (hg : Bk W1 g 145 #[.int .u32 0, .int .i32 1, .int .u32 0, .int .i64 1, .int .i64 8, .int .i64 4, .int .i64 8, .int .i64 0, .int .i64 2, .int .i64 (-1000), .int .i64 1000, .int .i64 0, .int .i64 0, .int .i64 0, .int .i64 0, .int .i64 0, .int .i64 0, .int .i64 0, .int .i64 0, .int .i64 0, .int .i64 0]) : Bk ((((((((((W1.setCell ⟨g, 11, none⟩ (.int .i64 1)).setCell ⟨g, 12, none⟩ (.int .i64 8)).setCell ⟨g, 13, none⟩ (.int .i64 0)).setCell ⟨g, 14, none⟩ (.int .i64 2)).setCell ⟨g, 15, none⟩ (.int .i64 0)).setCell ⟨g, 16, none⟩ (.int .i64 51)).setCell ⟨g, 17, none⟩ (.int .i64 (-12))).setCell ⟨g, 18, none⟩ (.int .i64 12)).setCell ⟨g, 19, none⟩ (.int .i64 0)).setCell ⟨g, 20, none⟩ (.int .i64 4)).drew g 145 (rgV 1 0) := (bk_set (cs' := #[.int .u32 0, .int .i32 1, .int .u32 0, .int .i64 1, .int .i64 8, .int .i64 4, .int .i64 8, .int .i64 0, .int .i64 2, .int .i64 (-1000), .int .i64 1000, .int .i64 1, .int .i64 8, .int .i64 0, .int .i64 2, .int .i64 0, .int .i64 51, .int .i64 (-12), .int .i64 12, .int .i64 0, .int .i64 4]) (bk_set (cs' := #[.int .u32 0, .int .i32 1, .int .u32 0, .int .i64 1, .int .i64 8, .int .i64 4, .int .i64 8, .int .i64 0, .int .i64 2, .int .i64 (-1000), .int .i64 1000, .int .i64 1, .int .i64 8, .int .i64 0, .int .i64 2, .int .i64 0, .int .i64 51, .int .i64 (-12), .int .i64 12, .int .i64 0, .int .i64 0]) (bk_set (cs' := #[.int .u32 0, .int .i32 1, .int .u32 0, .int .i64 1, .int .i64 8, .int .i64 4, .int .i64 8, .int .i64 0, .int .i64 2, .int .i64 (-1000), .int .i64 1000, .int .i64 1, .int .i64 8, .int .i64 0, .int .i64 2, .int .i64 0, .int .i64 51, .int .i64 (-12), .int .i64 12, .int .i64 0, .int .i64 0]) (bk_set (cs' := #[.int .u32 0, .int .i32 1, .int .u32 0, .int .i64 1, .int .i64 8, .int .i64 4, .int .i64 8, .int .i64 0, .int .i64 2, .int .i64 (-1000), .int .i64 1000, .int .i64 1, .int .i64 8, .int .i64 0, .int .i64 2, .int .i64 0, .int .i64 51, .int .i64 (-12), .int .i64 0, .int .i64 0, .int .i64 0]) (bk_set (cs' := #[.int .u32 0, .int .i32 1, .int .u32 0, .int .i64 1, .int .i64 8, .int .i64 4, .int .i64 8, .int .i64 0, .int .i64 2, .int .i64 (-1000), .int .i64 1000, .int .i64 1, .int .i64 8, .int .i64 0, .int .i64 2, .int .i64 0, .int .i64 51, .int .i64 0, .int .i64 0, .int .i64 0, .int .i64 0]) (bk_set (cs' := #[.int .u32 0, .int .i32 1, .int .u32 0, .int .i64 1, .int .i64 8, .int .i64 4, .int .i64 8, .int .i64 0, .int .i64 2, .int .i64 (-1000), .int .i64 1000, .int .i64 1, .int .i64 8, .int .i64 0, .int .i64 2, .int .i64 0, .int .i64 0, .int .i64 0, .int .i64 0, .int .i64 0, .int .i64 0]) (bk_set (cs' := #[.int .u32 0, .int .i32 1, .int .u32 0, .int .i64 1, .int .i64 8, .int .i64 4, .int .i64 8, .int .i64 0, .int .i64 2, .int .i64 (-1000), .int .i64 1000, .int .i64 1, .int .i64 8, .int .i64 0, .int .i64 2, .int .i64 0, .int .i64 0, .int .i64 0, .int .i64 0, .int .i64 0, .int .i64 0]) (bk_set (cs' := #[.int .u32 0, .int .i32 1, .int .u32 0, .int .i64 1, .int .i64 8, .int .i64 4, .int .i64 8, .int .i64 0, .int .i64 2, .int .i64 (-1000), .int .i64 1000, .int .i64 1, .int .i64 8, .int .i64 0, .int .i64 0, .int .i64 0, .int .i64 0, .int .i64 0, .int .i64 0, .int .i64 0, .int .i64 0]) (bk_set (cs' := #[.int .u32 0, .int .i32 1, .int .u32 0, .int .i64 1, .int .i64 8, .int .i64 4, .int .i64 8, .int .i64 0, .int .i64 2, .int .i64 (-1000), .int .i64 1000, .int .i64 1, .int .i64 8, .int .i64 0, .int .i64 0, .int .i64 0, .int .i64 0, .int .i64 0, .int .i64 0, .int .i64 0, .int .i64 0]) (bk_set (cs' := #[.int .u32 0, .int .i32 1, .int .u32 0, .int .i64 1, .int .i64 8, .int .i64 4, .int .i64 8, .int .i64 0, .int .i64 2, .int .i64 (-1000), .int .i64 1000, .int .i64 1, .int .i64 0, .int .i64 0, .int .i64 0, .int .i64 0, .int .i64 0, .int .i64 0, .int .i64 0, .int .i64 0, .int .i64 0]) hg 11 (.int .i64 1) rfl) 12 (.int .i64 8) rfl) 13 (.int .i64 0) rfl) 14 (.int .i64 2) rfl) 15 (.int .i64 0) rfl) 16 (.int .i64 51) rfl) 17 (.int .i64 (-12)) rfl) 18 (.int .i64 12) rfl) 19 (.int .i64 0) rfl) 20 (.int .i64 4) rfl).drew
/-- the second assignment's slots and values -/
def fsl (j : Nat) : Option Nat := ([some 17, some 18, some 19, some 20, some 21, some 22, some 23, some 24, some 25, some 26, some 27, some 28, none, some 29, some 30, none, some 31, some 32, none, some 33, some 34, none, some 35, some 36, none] : List (Option Nat)).getD j none
def fvl (g j : Nat) : Value := ([.pointer (some ⟨g, 0, none⟩), .pointer (some ⟨g, 0, none⟩), .pointer (some ⟨g, 0, none⟩), .pointer (some ⟨g, 0, none⟩), .pointer (some ⟨g, 0, none⟩), .agg #[.int .i64 1, .int .i64 8], .agg #[.int .i64 0, .int .i64 2], .agg #[.int .i64 0, .int .i64 51], .agg #[.int .i64 (-12), .int .i64 12], .agg #[.int .i64 0, .int .i64 4], .pointer (some ⟨g, 0, none⟩), .pointer (some ⟨g, 11, none⟩), undef, .pointer (some ⟨g, 0, none⟩), .pointer (some ⟨g, 13, none⟩), undef, .pointer (some ⟨g, 0, none⟩), .pointer (some ⟨g, 15, none⟩), undef, .pointer (some ⟨g, 0, none⟩), .pointer (some ⟨g, 17, none⟩), undef, .pointer (some ⟨g, 0, none⟩), .pointer (some ⟨g, 19, none⟩), undef] : List Value).getD j undef
def fcs (L : Array Bool) : Array Value := #[.int .u32 0, .int .i32 1, .int .u32 0, .int .i64 1, .int .i64 8, .int .i64 4, .int .i64 8, .int .i64 0, .int .i64 2, .int .i64 (-1000), .int .i64 1000, .int .i64 (if L.getD 12 false = true then 1 else 0), .int .i64 (if L.getD 12 false = true then 8 else 0), .int .i64 (if L.getD 15 false = true then 0 else 0), .int .i64 (if L.getD 15 false = true then 2 else 0), .int .i64 (if L.getD 18 false = true then 0 else 0), .int .i64 (if L.getD 18 false = true then 51 else 0), .int .i64 (if L.getD 21 false = true then (-12) else 0), .int .i64 (if L.getD 21 false = true then 12 else 0), .int .i64 (if L.getD 24 false = true then 0 else 0), .int .i64 (if L.getD 24 false = true then 4 else 0)]
theorem fsl_lt : ∀ j, j < 25 → ∀ d, fsl j = some d → d < 37 ∧ 0 < d := by decide +kernel
theorem fsl_ne : ∀ i, i < 25 → ∀ j, j < 25 → j ≠ i → ∀ d, fsl i = some d → fsl j ≠ some d := by decide +kernel
def FillI (pb g : Nat) (W : World) (L : Array Bool) (a : Act) (w : World) : Prop :=
  a.defers = [] ∧ a.tmps.size = 37 ∧ a.eval (.tmp 0) = .pointer (some ⟨pb, 0, none⟩) ∧ (∀ j, j < 25 → ∀ d, fsl j = some d → L.getD j false = true → a.eval (.tmp d) = fvl g j) ∧
    w.cell? ⟨pb, 0, none⟩ = some (.pointer (some ⟨g, 0, none⟩)) ∧ Bk w g 145 (fcs L) ∧ Touch (fun k => k = g) W w
theorem FillI.val {pb g : Nat} {W : World} {L : Array Bool} {a : Act} {w : World} (h : FillI pb g W L a w) (hL : L.size = 25) {i d : Nat} (hi : i < 25) (hd : fsl i = some d) {v : Value} (hv : v = fvl g i) : FillI pb g W (L.setIfInBounds i true) (a.put (some d) v) w := by
  obtain ⟨h0, h1, h2, h3, h4, h5, h6⟩ := h
  have hdl := fsl_lt i hi d hd
  refine ⟨h0, by rw [put_size]; exact h1, ?_, fun j hj d' hd' hl => ?_, h4, ?_, h6⟩
  · rw [ev_put (by omega), if_neg (by omega)]; exact h2
  · rw [ev_put (by omega)]
    by_cases hji : j = i
    · subst hji
      obtain rfl : d = d' := Option.some.inj (hd.symm.trans hd')
      rw [if_pos rfl]; exact hv
    · rw [if_neg (by intro q; rw [q] at hd'; exact fsl_ne i hi j hj hji d hd hd')]
      rw [getD_done (by omega), if_neg hji] at hl
      exact h3 j hj d' hd' hl
  · have hst : ∀ k, fsl k = none → (L.setIfInBounds i true).getD k false = L.getD k false := fun k hk => by
      rw [getD_done (by omega), if_neg (fun q => by subst q; rw [hk] at hd; cases hd)]
    have e : fcs (L.setIfInBounds i true) = fcs L := by
      unfold fcs
      rw [hst 12 rfl, hst 15 rfl, hst 18 rfl, hst 21 rfl, hst 24 rfl]
    rw [e]; exact h5
theorem FillI.st {pb g : Nat} {W : World} {L : Array Bool} {a : Act} {w w' : World} (h : FillI pb g W L a w) (hL : L.size = 25) {i : Nat} (hpg : ¬ pb = g) (hd : fsl i = none) (hb : Bk w' g 145 (fcs (L.setIfInBounds i true))) (ht : Touch (fun k => k = g) w w') (hi : i < 25) : FillI pb g W (L.setIfInBounds i true) a w' := by
  obtain ⟨h0, h1, h2, h3, h4, h5, h6⟩ := h
  refine ⟨h0, h1, h2, fun j hj d' hd' hl => ?_, (ht.cell (World.block_lt_of_cell? w _ h4) hpg).trans h4, hb, h6.trans ht⟩
  rw [getD_done (by omega), if_neg (fun q => by subst q; rw [hd] at hd'; cases hd')] at hl
  exact h3 j hj d' hd' hl

theorem touch2 {w : World} {g i j : Nat} {u v : Value} : Touch (fun k => k = g) w ((w.setCell ⟨g, i, none⟩ u).setCell ⟨g, j, none⟩ v) :=
  ((Touch.refl (fun k => k = g) w).setCell (p := ⟨g, i, none⟩) (fun _ => rfl) u).setCell (p := ⟨g, j, none⟩) (fun _ => rfl) v
theorem ld_pb {a : Act} {w : World} {pb g : Nat} {o : Oper} (h : o.op = .load 131 (.tmp 0)) (ha : a.eval (.tmp 0) = .pointer (some ⟨pb, 0, none⟩)) (hc : w.cell? ⟨pb, 0, none⟩ = some (.pointer (some ⟨g, 0, none⟩))) :
    (execOp a.eval o).run Tryz.prog w = .ok (.value (.pointer (some ⟨g, 0, none⟩))) w := by
  simp only [execOp, h, ha]
  go_simp
theorem nc_g {a : Act} {w : World} {g t : Nat} {o : Oper} (h : o.op = .nilCheck (.tmp t)) (ha : a.eval (.tmp t) = .pointer (some ⟨g, 0, none⟩)) :
    (execOp a.eval o).run Tryz.prog w = .ok (.value (.pointer (some ⟨g, 0, none⟩))) w := by
  simp only [execOp, h, ha]
  go_simp
theorem fa_0 {a : Act} {w : World} {g t : Nat} {o : Oper} (h : o.op = .fieldAddr 145 (.tmp t) 5) (ha : a.eval (.tmp t) = .pointer (some ⟨g, 0, none⟩)) :
    (execOp a.eval o).run Tryz.prog w = .ok (.value (.pointer (some ⟨g, 11, none⟩))) w := by
  simp only [execOp, h, ha]
  go_simp
theorem fa_1 {a : Act} {w : World} {g t : Nat} {o : Oper} (h : o.op = .fieldAddr 145 (.tmp t) 6) (ha : a.eval (.tmp t) = .pointer (some ⟨g, 0, none⟩)) :
    (execOp a.eval o).run Tryz.prog w = .ok (.value (.pointer (some ⟨g, 13, none⟩))) w := by
  simp only [execOp, h, ha]
  go_simp
theorem fa_2 {a : Act} {w : World} {g t : Nat} {o : Oper} (h : o.op = .fieldAddr 145 (.tmp t) 7) (ha : a.eval (.tmp t) = .pointer (some ⟨g, 0, none⟩)) :
    (execOp a.eval o).run Tryz.prog w = .ok (.value (.pointer (some ⟨g, 15, none⟩))) w := by
  simp only [execOp, h, ha]
  go_simp
theorem fa_3 {a : Act} {w : World} {g t : Nat} {o : Oper} (h : o.op = .fieldAddr 145 (.tmp t) 8) (ha : a.eval (.tmp t) = .pointer (some ⟨g, 0, none⟩)) :
    (execOp a.eval o).run Tryz.prog w = .ok (.value (.pointer (some ⟨g, 17, none⟩))) w := by
  simp only [execOp, h, ha]
  go_simp
theorem fa_4 {a : Act} {w : World} {g t : Nat} {o : Oper} (h : o.op = .fieldAddr 145 (.tmp t) 9) (ha : a.eval (.tmp t) = .pointer (some ⟨g, 0, none⟩)) :
    (execOp a.eval o).run Tryz.prog w = .ok (.value (.pointer (some ⟨g, 19, none⟩))) w := by
  simp only [execOp, h, ha]
  go_simp
theorem bd_any {a : Act} {w : World} {x y : Int} {o : Oper} (h : o.op = .build 143 #[(0, .const (.int .i64 x)), (1, .const (.int .i64 y))]) :
    (execOp a.eval o).run Tryz.prog w = .ok (.value (.agg #[.int .i64 x, .int .i64 y])) w := by
  simp only [execOp, h]
  go_simp
theorem sp_put {a : Act} {w : World} {g t s n : Nat} {o : Oper} {x y : Int} {y0 y1 : Value} (h : o.op = .store 143 (.tmp t) (.tmp s)) (ha : a.eval (.tmp t) = .pointer (some ⟨g, n, none⟩)) (hb : a.eval (.tmp s) = .agg #[.int .i64 x, .int .i64 y]) (c0 : w.cell? ⟨g, n, none⟩ = some y0) (c1 : w.cell? ⟨g, n + 1, none⟩ = some y1) (f0 : w.frozen? ⟨g, n, none⟩ = false) (f1 : w.frozen? ⟨g, n + 1, none⟩ = false) :
    (execOp a.eval o).run Tryz.prog w = .ok .skip ((w.setCell ⟨g, n, none⟩ (.int .i64 x)).setCell ⟨g, n + 1, none⟩ (.int .i64 y)) := by
  simp only [execOp, h, ha, hb]
  go_simp
set_option maxRecDepth 100000 in
set_option maxHeartbeats 6400000 in
theorem fill_any (g pb : Nat) (w : World) (hp : w.cell? ⟨pb, 0, none⟩ = some (.pointer (some ⟨g, 0, none⟩))) (hpg : ¬ pb = g) (hg : Bk w g 145 (rg0 1 0)) :
    Calls Tryz.prog 110 #[.pointer (some ⟨pb, 0, none⟩)] w fun e w' => e = .returned (.tuple #[]) ∧ Bk w' g 145 (rgV 1 0) ∧ Touch (fun k => k = g) w w' := by
  have hgp : ¬ g = pb := fun q => hpg q.symm
  have hg1 : Bk ((((((((w.setCell ⟨g, 3, none⟩ (.int .i64 1)).setCell ⟨g, 4, none⟩ (.int .i64 8)).setCell ⟨g, 5, none⟩ (.int .i64 4)).setCell ⟨g, 6, none⟩ (.int .i64 8)).setCell ⟨g, 7, none⟩ (.int .i64 0)).setCell ⟨g, 8, none⟩ (.int .i64 2)).setCell ⟨g, 9, none⟩ (.int .i64 (-1000))).setCell ⟨g, 10, none⟩ (.int .i64 1000)).drew g 145 #[.int .u32 0, .int .i32 1, .int .u32 0, .int .i64 1, .int .i64 8, .int .i64 4, .int .i64 8, .int .i64 0, .int .i64 2, .int .i64 (-1000), .int .i64 1000, .int .i64 0, .int .i64 0, .int .i64 0, .int .i64 0, .int .i64 0, .int .i64 0, .int .i64 0, .int .i64 0, .int .i64 0, .int .i64 0] := fill1 hg
  have ht1 : Touch (fun k => k = g) w ((((((((w.setCell ⟨g, 3, none⟩ (.int .i64 1)).setCell ⟨g, 4, none⟩ (.int .i64 8)).setCell ⟨g, 5, none⟩ (.int .i64 4)).setCell ⟨g, 6, none⟩ (.int .i64 8)).setCell ⟨g, 7, none⟩ (.int .i64 0)).setCell ⟨g, 8, none⟩ (.int .i64 2)).setCell ⟨g, 9, none⟩ (.int .i64 (-1000))).setCell ⟨g, 10, none⟩ (.int .i64 1000)).drew := (((((((((Touch.refl (fun k => k = g) w).setCell (fun _ => rfl) _).setCell (fun _ => rfl) _).setCell (fun _ => rfl) _).setCell (fun _ => rfl) _).setCell (fun _ => rfl) _).setCell (fun _ => rfl) _).setCell (fun _ => rfl) _).setCell (fun _ => rfl) _).drew
  have hp1 : ((((((((w.setCell ⟨g, 3, none⟩ (.int .i64 1)).setCell ⟨g, 4, none⟩ (.int .i64 8)).setCell ⟨g, 5, none⟩ (.int .i64 4)).setCell ⟨g, 6, none⟩ (.int .i64 8)).setCell ⟨g, 7, none⟩ (.int .i64 0)).setCell ⟨g, 8, none⟩ (.int .i64 2)).setCell ⟨g, 9, none⟩ (.int .i64 (-1000))).setCell ⟨g, 10, none⟩ (.int .i64 1000)).drew.cell? ⟨pb, 0, none⟩ = some (.pointer (some ⟨g, 0, none⟩)) := (ht1.cell (World.block_lt_of_cell? w _ hp) hpg).trans hp
  have HG1 := Lib.hid hg1
  have HT1 := Lib.hid ht1
  have HP1 := Lib.hid hp1
  clear hg1 ht1 hp1
  have c3 := hg.cell 3
  have f3 := hg.frozen 3
  have c4 := hg.cell 4
  have f4 := hg.frozen 4
  have c5 := hg.cell 5
  have f5 := hg.frozen 5
  have c6 := hg.cell 6
  have f6 := hg.frozen 6
  have c7 := hg.cell 7
  have f7 := hg.frozen 7
  have c8 := hg.cell 8
  have f8 := hg.frozen 8
  have c9 := hg.cell 9
  have f9 := hg.frozen 9
  have c10 := hg.cell 10
  have f10 := hg.frozen 10
  simp [rg0] at c3 c4 c5 c6 c7 c8 c9 c10
  clear hg
  go_enter Tryz.func110, Tryz.ntmps110
  go_wp2_with fail
  go_region
  generalize ((((((((w.setCell ⟨g, 3, none⟩ (.int .i64 1)).setCell ⟨g, 4, none⟩ (.int .i64 8)).setCell ⟨g, 5, none⟩ (.int .i64 4)).setCell ⟨g, 6, none⟩ (.int .i64 8)).setCell ⟨g, 7, none⟩ (.int .i64 0)).setCell ⟨g, 8, none⟩ (.int .i64 2)).setCell ⟨g, 9, none⟩ (.int .i64 (-1000))).setCell ⟨g, 10, none⟩ (.int .i64 1000)).drew = W1 at HG1 HT1 HP1 ⊢
  clear hp c3 c4 c5 c6 c7 c8 c9 c10 f3 f4 f5 f6 f7 f8 f9 f10
  go_wp2_with fail
  refine wp_region_inv (by kernel_rfl) (FillI pb g W1) (down_of (by kernel_rfl)) ⟨rfl, by simp, rfl, fun j hj d hd hl => ?_, HP1.out, HG1.out.drew, (Touch.refl _ _).drew⟩ ?_ ?_
  · rw [getD_replicate_false] at hl; cases hl
  · intro L a wi i o ho hs hu hd hI
    have hi : i < 25 := (Array.getElem?_eq_some_iff.1 ho).1
    have hL : L.size = 25 := hs
    have hcs : i = 0 ∨ i = 1 ∨ i = 2 ∨ i = 3 ∨ i = 4 ∨ i = 5 ∨ i = 6 ∨ i = 7 ∨ i = 8 ∨ i = 9 ∨ i = 10 ∨ i = 11 ∨ i = 12 ∨ i = 13 ∨ i = 14 ∨ i = 15 ∨ i = 16 ∨ i = 17 ∨ i = 18 ∨ i = 19 ∨ i = 20 ∨ i = 21 ∨ i = 22 ∨ i = 23 ∨ i = 24 := by omega
    have ho2 := ho
    rcases hcs with rfl | rfl | rfl | rfl | rfl | rfl | rfl | rfl | rfl | rfl | rfl | rfl | rfl | rfl | rfl | rfl | rfl | rfl | rfl | rfl | rfl | rfl | rfl | rfl | rfl
    · simp at ho2
      subst ho2
      exact op_run ho rfl (ld_pb rfl hI.2.2.1 hI.2.2.2.2.1) (hI.val hL (by omega) rfl rfl)
    · simp at ho2
      subst ho2
      exact op_run ho rfl (ld_pb rfl hI.2.2.1 hI.2.2.2.2.1) (hI.val hL (by omega) rfl rfl)
    · simp at ho2
      subst ho2
      exact op_run ho rfl (ld_pb rfl hI.2.2.1 hI.2.2.2.2.1) (hI.val hL (by omega) rfl rfl)
    · simp at ho2
      subst ho2
      exact op_run ho rfl (ld_pb rfl hI.2.2.1 hI.2.2.2.2.1) (hI.val hL (by omega) rfl rfl)
    · simp at ho2
      subst ho2
      exact op_run ho rfl (ld_pb rfl hI.2.2.1 hI.2.2.2.2.1) (hI.val hL (by omega) rfl rfl)
    · simp at ho2
      subst ho2
      exact op_run ho rfl (bd_any rfl) (hI.val hL (by omega) rfl rfl)
    · simp at ho2
      subst ho2
      exact op_run ho rfl (bd_any rfl) (hI.val hL (by omega) rfl rfl)
    · simp at ho2
      subst ho2
      exact op_run ho rfl (bd_any rfl) (hI.val hL (by omega) rfl rfl)
    · simp at ho2
      subst ho2
      exact op_run ho rfl (bd_any rfl) (hI.val hL (by omega) rfl rfl)
    · simp at ho2
      subst ho2
      exact op_run ho rfl (bd_any rfl) (hI.val hL (by omega) rfl rfl)
    · simp at ho2
      subst ho2
      exact op_run ho rfl (nc_g rfl (hI.2.2.2.1 0 (by omega) 17 rfl (hd ⟨0, .data⟩ (by simp) rfl))) (hI.val hL (by omega) rfl rfl)
    · simp at ho2
      subst ho2
      exact op_run ho rfl (fa_0 rfl (hI.2.2.2.1 10 (by omega) 27 rfl (hd ⟨10, .data⟩ (by simp) rfl))) (hI.val hL (by omega) rfl rfl)
    · simp at ho2
      subst ho2
      have hb := hI.2.2.2.2.2.1
      have e1 := hb.cell 11
      have e2 := hb.cell 12
      simp only [fcs, List.getElem?_toArray, List.getElem?_cons_succ, List.getElem?_cons_zero] at e1 e2
      refine op_skip ho rfl (sp_put (n := 11) rfl (hI.2.2.2.1 11 (by omega) 28 rfl (hd ⟨11, .data⟩ (by simp) rfl)) (hI.2.2.2.1 5 (by omega) 22 rfl (hd ⟨5, .data⟩ (by simp) rfl)) e1 e2 (hb.frozen _) (hb.frozen _)) (hI.st hL hpg rfl ?_ touch2 (by omega))
      have e : ((fcs L).setIfInBounds 11 (.int .i64 1)).setIfInBounds 12 (.int .i64 8) = fcs (L.setIfInBounds 12 true) := by
        unfold fcs
        simp [getD_done, hL]
      exact e ▸ (hb.set_ 11 (.int .i64 1)).set_ 12 (.int .i64 8)
    · simp at ho2
      subst ho2
      exact op_run ho rfl (nc_g rfl (hI.2.2.2.1 1 (by omega) 18 rfl (hd ⟨1, .data⟩ (by simp) rfl))) (hI.val hL (by omega) rfl rfl)
    · simp at ho2
      subst ho2
      exact op_run ho rfl (fa_1 rfl (hI.2.2.2.1 13 (by omega) 29 rfl (hd ⟨13, .data⟩ (by simp) rfl))) (hI.val hL (by omega) rfl rfl)
    · simp at ho2
      subst ho2
      have hb := hI.2.2.2.2.2.1
      have e1 := hb.cell 13
      have e2 := hb.cell 14
      simp only [fcs, List.getElem?_toArray, List.getElem?_cons_succ, List.getElem?_cons_zero] at e1 e2
      refine op_skip ho rfl (sp_put (n := 13) rfl (hI.2.2.2.1 14 (by omega) 30 rfl (hd ⟨14, .data⟩ (by simp) rfl)) (hI.2.2.2.1 6 (by omega) 23 rfl (hd ⟨6, .data⟩ (by simp) rfl)) e1 e2 (hb.frozen _) (hb.frozen _)) (hI.st hL hpg rfl ?_ touch2 (by omega))
      have e : ((fcs L).setIfInBounds 13 (.int .i64 0)).setIfInBounds 14 (.int .i64 2) = fcs (L.setIfInBounds 15 true) := by
        unfold fcs
        simp [getD_done, hL]
      exact e ▸ (hb.set_ 13 (.int .i64 0)).set_ 14 (.int .i64 2)
    · simp at ho2
      subst ho2
      exact op_run ho rfl (nc_g rfl (hI.2.2.2.1 2 (by omega) 19 rfl (hd ⟨2, .data⟩ (by simp) rfl))) (hI.val hL (by omega) rfl rfl)
    · simp at ho2
      subst ho2
      exact op_run ho rfl (fa_2 rfl (hI.2.2.2.1 16 (by omega) 31 rfl (hd ⟨16, .data⟩ (by simp) rfl))) (hI.val hL (by omega) rfl rfl)
    · simp at ho2
      subst ho2
      have hb := hI.2.2.2.2.2.1
      have e1 := hb.cell 15
      have e2 := hb.cell 16
      simp only [fcs, List.getElem?_toArray, List.getElem?_cons_succ, List.getElem?_cons_zero] at e1 e2
      refine op_skip ho rfl (sp_put (n := 15) rfl (hI.2.2.2.1 17 (by omega) 32 rfl (hd ⟨17, .data⟩ (by simp) rfl)) (hI.2.2.2.1 7 (by omega) 24 rfl (hd ⟨7, .data⟩ (by simp) rfl)) e1 e2 (hb.frozen _) (hb.frozen _)) (hI.st hL hpg rfl ?_ touch2 (by omega))
      have e : ((fcs L).setIfInBounds 15 (.int .i64 0)).setIfInBounds 16 (.int .i64 51) = fcs (L.setIfInBounds 18 true) := by
        unfold fcs
        simp [getD_done, hL]
      exact e ▸ (hb.set_ 15 (.int .i64 0)).set_ 16 (.int .i64 51)
    · simp at ho2
      subst ho2
      exact op_run ho rfl (nc_g rfl (hI.2.2.2.1 3 (by omega) 20 rfl (hd ⟨3, .data⟩ (by simp) rfl))) (hI.val hL (by omega) rfl rfl)
    · simp at ho2
      subst ho2
      exact op_run ho rfl (fa_3 rfl (hI.2.2.2.1 19 (by omega) 33 rfl (hd ⟨19, .data⟩ (by simp) rfl))) (hI.val hL (by omega) rfl rfl)
    · simp at ho2
      subst ho2
      have hb := hI.2.2.2.2.2.1
      have e1 := hb.cell 17
      have e2 := hb.cell 18
      simp only [fcs, List.getElem?_toArray, List.getElem?_cons_succ, List.getElem?_cons_zero] at e1 e2
      refine op_skip ho rfl (sp_put (n := 17) rfl (hI.2.2.2.1 20 (by omega) 34 rfl (hd ⟨20, .data⟩ (by simp) rfl)) (hI.2.2.2.1 8 (by omega) 25 rfl (hd ⟨8, .data⟩ (by simp) rfl)) e1 e2 (hb.frozen _) (hb.frozen _)) (hI.st hL hpg rfl ?_ touch2 (by omega))
      have e : ((fcs L).setIfInBounds 17 (.int .i64 (-12))).setIfInBounds 18 (.int .i64 12) = fcs (L.setIfInBounds 21 true) := by
        unfold fcs
        simp [getD_done, hL]
      exact e ▸ (hb.set_ 17 (.int .i64 (-12))).set_ 18 (.int .i64 12)
    · simp at ho2
      subst ho2
      exact op_run ho rfl (nc_g rfl (hI.2.2.2.1 4 (by omega) 21 rfl (hd ⟨4, .data⟩ (by simp) rfl))) (hI.val hL (by omega) rfl rfl)
    · simp at ho2
      subst ho2
      exact op_run ho rfl (fa_4 rfl (hI.2.2.2.1 22 (by omega) 35 rfl (hd ⟨22, .data⟩ (by simp) rfl))) (hI.val hL (by omega) rfl rfl)
    · simp at ho2
      subst ho2
      have hb := hI.2.2.2.2.2.1
      have e1 := hb.cell 19
      have e2 := hb.cell 20
      simp only [fcs, List.getElem?_toArray, List.getElem?_cons_succ, List.getElem?_cons_zero] at e1 e2
      refine op_skip ho rfl (sp_put (n := 19) rfl (hI.2.2.2.1 23 (by omega) 36 rfl (hd ⟨23, .data⟩ (by simp) rfl)) (hI.2.2.2.1 9 (by omega) 26 rfl (hd ⟨9, .data⟩ (by simp) rfl)) e1 e2 (hb.frozen _) (hb.frozen _)) (hI.st hL hpg rfl ?_ touch2 (by omega))
      have e : ((fcs L).setIfInBounds 19 (.int .i64 0)).setIfInBounds 20 (.int .i64 4) = fcs (L.setIfInBounds 24 true) := by
        unfold fcs
        simp [getD_done, hL]
      exact e ▸ (hb.set_ 19 (.int .i64 0)).set_ 20 (.int .i64 4)
  · intro L a wi hs hl hI
    have hL : ∀ i, i < 25 → L.getD i false = true := fun i hi => by
      have h1 := hl i hi
      have h2 : i < L.size := by rw [hs]; exact hi
      simp [h2] at h1 ⊢
      exact h1
    have e : fcs L = rgV 1 0 := by
      unfold fcs
      rw [hL 12 (by omega), hL 15 (by omega), hL 18 (by omega), hL 21 (by omega), hL 24 (by omega)]
      rfl
    have hb := hI.2.2.2.2.2.1
    rw [e] at hb
    exact bodyPost_end (results_none rfl _ _ _) hI.1 ⟨rfl, hb, HT1.out.trans hI.2.2.2.2.2.2⟩
end Go.Proofs.YtjokibagciehlaaGreat
