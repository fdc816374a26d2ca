/- xform: rows. -/
import Derived.Test.YtfignfohcalcfaaGreatDoorConH
import Derived.Laws.CopyOwn
import Derived.Deep.RegionHeld3
import Derived.StillTailTactics
namespace Go.Proofs.YtfignfohcalcfaaGreatDoor
open Go.RowKit
set_option linter.unusedVariables false
set_option linter.unusedSimpArgs false

theorem slice_lo0 (r : Nat) (w : World) : (Instr.sliceAt 38 (.pointer (some ⟨r, 0, none⟩)) (some (.int .i64 0)) none none).run Tryz.prog w = .ok (.slice (some ⟨r, 0, none⟩) 16 16) w := by
  simp [Instr.sliceAt, Instr.sliceBounds, go_sem, Addr.add]
  try rfl
theorem slice_at0 (r : Nat) (w : World) : (Instr.sliceAt 38 (.pointer (some ⟨r, 0, none⟩)) (some (.int .i64 0)) (some (.int .i64 4)) none).run Tryz.prog w = .ok (.slice (some ⟨r, 0, none⟩) 4 16) w := by
  simp [Instr.sliceAt, Instr.sliceBounds, go_sem, Addr.add]
  try rfl
theorem slice_lo1 (r : Nat) (w : World) : (Instr.sliceAt 38 (.pointer (some ⟨r, 0, none⟩)) (some (.int .i64 4)) none none).run Tryz.prog w = .ok (.slice (some ⟨r, 4, none⟩) 12 12) w := by
  simp [Instr.sliceAt, Instr.sliceBounds, go_sem, Addr.add]
  try rfl
theorem slice_at1 (r : Nat) (w : World) : (Instr.sliceAt 38 (.pointer (some ⟨r, 0, none⟩)) (some (.int .i64 4)) (some (.int .i64 8)) none).run Tryz.prog w = .ok (.slice (some ⟨r, 4, none⟩) 4 12) w := by
  simp [Instr.sliceAt, Instr.sliceBounds, go_sem, Addr.add]
  try rfl
theorem slice_lo2 (r : Nat) (w : World) : (Instr.sliceAt 38 (.pointer (some ⟨r, 0, none⟩)) (some (.int .i64 8)) none none).run Tryz.prog w = .ok (.slice (some ⟨r, 8, none⟩) 8 8) w := by
  simp [Instr.sliceAt, Instr.sliceBounds, go_sem, Addr.add]
  try rfl
theorem slice_at2 (r : Nat) (w : World) : (Instr.sliceAt 38 (.pointer (some ⟨r, 0, none⟩)) (some (.int .i64 8)) (some (.int .i64 12)) none).run Tryz.prog w = .ok (.slice (some ⟨r, 8, none⟩) 4 8) w := by
  simp [Instr.sliceAt, Instr.sliceBounds, go_sem, Addr.add]
  try rfl
theorem slice_lo3 (r : Nat) (w : World) : (Instr.sliceAt 38 (.pointer (some ⟨r, 0, none⟩)) (some (.int .i64 12)) none none).run Tryz.prog w = .ok (.slice (some ⟨r, 12, none⟩) 4 4) w := by
  simp [Instr.sliceAt, Instr.sliceBounds, go_sem, Addr.add]
  try rfl
theorem slice_at3 (r : Nat) (w : World) : (Instr.sliceAt 38 (.pointer (some ⟨r, 0, none⟩)) (some (.int .i64 12)) (some (.int .i64 16)) none).run Tryz.prog w = .ok (.slice (some ⟨r, 12, none⟩) 4 4) w := by
  simp [Instr.sliceAt, Instr.sliceBounds, go_sem, Addr.add]
  try rfl
theorem arr_at0 (r : Nat) (w : World) : (Instr.arrayAt 82 (.slice (some ⟨r, 0, none⟩) 4 16)).run Tryz.prog w = .ok (.pointer (some ⟨r, 0, none⟩)) w := by
  simp [Instr.arrayAt, go_sem]
theorem arr_at1 (r : Nat) (w : World) : (Instr.arrayAt 82 (.slice (some ⟨r, 4, none⟩) 4 12)).run Tryz.prog w = .ok (.pointer (some ⟨r, 4, none⟩)) w := by
  simp [Instr.arrayAt, go_sem]
theorem arr_at2 (r : Nat) (w : World) : (Instr.arrayAt 82 (.slice (some ⟨r, 8, none⟩) 4 8)).run Tryz.prog w = .ok (.pointer (some ⟨r, 8, none⟩)) w := by
  simp [Instr.arrayAt, go_sem]
theorem arr_at3 (r : Nat) (w : World) : (Instr.arrayAt 82 (.slice (some ⟨r, 12, none⟩) 4 4)).run Tryz.prog w = .ok (.pointer (some ⟨r, 12, none⟩)) w := by
  simp [Instr.arrayAt, go_sem]
attribute [local go_sem] arr_at0 arr_at1 arr_at2 arr_at3
theorem step_copy_own {P : Program} {ops : Array Oper} {o : Oper} {a : Act} {w : World} {K : Act → World → Prop} {Q : Exit → Act → World → Prop} {E : Prop} (hgd : o.guard = none) (d s : Operand) (dT sT : TypeId)
    (ho : o.op = .call { callee := .builtin .copy, args := #[d, s], argTypes := #[dT, sT] }) (elem : TypeId) (hu : P.underlying dT = some (.slice elem)) (hsz : (P.info? elem).map (·.size) = some 1)
    (g off dLen dCap : Nat) (ad : Addr) (sLen sCap : Nat) (hd : a.eval d = .slice (some ⟨g, off, none⟩) dLen dCap) (hs : a.eval s = .slice (some ad) sLen sCap)
    (cur : Array Value) (t : TypeId) (hg : Bk w g t cur) (cs : List Value) (hn : cs.length = Nat.min sLen dLen)
    (hsrc : ∀ j v, cs[j]? = some v → w.cell? (ad.add j) = some v) (hfit : off + cs.length ≤ cur.size) (h1 : ∀ v ∈ cs, v.oneCell' = true)
    (h : K (a.put o.dst (goInt cs.length)) (w.setRow g (cur.toList.take off ++ (cs ++ cur.toList.drop (off + cs.length))).toArray)) :
    if Region.wanted o (yielded ops a.tmps) = true then Oper.wp P o a w K Q else E := by
  have hw : Region.wanted o (yielded ops a.tmps) = true := by simp [Region.wanted, hgd]
  rw [if_pos hw]
  have hrun := run_copy_row (P := P) w dT sT o.type elem g off dLen dCap ad sLen sCap cur t cs hu hsz hg hn hsrc hfit h1
  unfold Oper.wp
  simp [execOp, ho, resolve, invoke, builtin, hd, hs, hrun, Result.andThen]
  exact h
theorem wrap_lit (n : Nat) (h : n ≤ 16) : IntKind.i64.wrap (n : Int) = n := by rw [IntKind.wrap_i64]; omega
attribute [local go_sem] slice_lo0 slice_lo1 slice_lo2 slice_lo3 slice_at0 slice_at1 slice_at2 slice_at3
theorem sliced_any (cs : Array Value) (w : World) (hs : cs.size = 4) :
    Calls Tryz.prog 40 #[.agg cs] w fun e w' => e = .returned (.slice (some ⟨w.heap.size, 0, none⟩) 4 4) ∧ Below w.heap.size w w' ∧ Bk w' w.heap.size 82 cs := by
  go_enter Tryz.func40, Tryz.ntmps40
  go_wp2_with fail
  go_ret
  exact ⟨rfl, (Below.refl _ _).alloc (Nat.le_refl _) _, Bk.new _ _ _⟩
theorem arr16_rows (a : Act) (w : World) (B : Nat) (cs : Array Value) (h2 : a.tmps.getD 4 undef = .pointer (some ⟨B, 0, none⟩)) (hg : Bk w B 38 cs) (hs : cs.size = 16) :
    (results Tryz.f27 a.tmps).run Tryz.prog w = .ok (.agg cs) w := by
  have h2' : a.tmps[4]?.getD undef = .pointer (some ⟨B, 0, none⟩) := by simpa using h2
  have hl := run_loadVar_row (P := Tryz.prog) w B 38 38 cs (0, 0) _ hg Tryz.underlying38 rfl (by rw [hs]; kernel_rfl)
  simp [results, Tryz.results27, h2', asAddr, hl, Sem.run_bind]
section
variable {w : World} {r a0 a1 a2 a3 : Nat} {v0 v1 v2 v3 : Value}
theorem dr4 (c0 : w.cell? ⟨r, a0, none⟩ = some v0) (c1 : w.cell? ⟨r, a1, none⟩ = some v1) (c2 : w.cell? ⟨r, a2, none⟩ = some v2) (c3 : w.cell? ⟨r, a3, none⟩ = some v3) :
    w.drew.cell? ⟨r, a0, none⟩ = some v0 ∧ w.drew.cell? ⟨r, a1, none⟩ = some v1 ∧ w.drew.cell? ⟨r, a2, none⟩ = some v2 ∧ w.drew.cell? ⟨r, a3, none⟩ = some v3 := ⟨c0, c1, c2, c3⟩
theorem al4 {o : Obj} (h : r < w.heap.size) (c0 : w.cell? ⟨r, a0, none⟩ = some v0) (c1 : w.cell? ⟨r, a1, none⟩ = some v1) (c2 : w.cell? ⟨r, a2, none⟩ = some v2) (c3 : w.cell? ⟨r, a3, none⟩ = some v3) :
    (w.alloc o).cell? ⟨r, a0, none⟩ = some v0 ∧ (w.alloc o).cell? ⟨r, a1, none⟩ = some v1 ∧ (w.alloc o).cell? ⟨r, a2, none⟩ = some v2 ∧ (w.alloc o).cell? ⟨r, a3, none⟩ = some v3 :=
  ⟨(World.cell?_alloc_lt w o ⟨r, a0, none⟩ h).trans c0, (World.cell?_alloc_lt w o ⟨r, a1, none⟩ h).trans c1, (World.cell?_alloc_lt w o ⟨r, a2, none⟩ h).trans c2, (World.cell?_alloc_lt w o ⟨r, a3, none⟩ h).trans c3⟩
theorem ald4 {o : Obj} (h : r < w.heap.size) (c0 : w.cell? ⟨r, a0, none⟩ = some v0) (c1 : w.cell? ⟨r, a1, none⟩ = some v1) (c2 : w.cell? ⟨r, a2, none⟩ = some v2) (c3 : w.cell? ⟨r, a3, none⟩ = some v3) :
    (w.alloc o).drew.cell? ⟨r, a0, none⟩ = some v0 ∧ (w.alloc o).drew.cell? ⟨r, a1, none⟩ = some v1 ∧ (w.alloc o).drew.cell? ⟨r, a2, none⟩ = some v2 ∧ (w.alloc o).drew.cell? ⟨r, a3, none⟩ = some v3 := al4 h c0 c1 c2 c3
theorem st4 {q : Nat} {y0 y1 y2 y3 : Value} {b0 b1 b2 b3 : Nat} (h : q ≠ r) (c0 : w.cell? ⟨r, a0, none⟩ = some v0) (c1 : w.cell? ⟨r, a1, none⟩ = some v1) (c2 : w.cell? ⟨r, a2, none⟩ = some v2) (c3 : w.cell? ⟨r, a3, none⟩ = some v3) :
    ((((w.setCell ⟨q, b0, none⟩ y0).setCell ⟨q, b1, none⟩ y1).setCell ⟨q, b2, none⟩ y2).setCell ⟨q, b3, none⟩ y3).cell? ⟨r, a0, none⟩ = some v0 ∧ ((((w.setCell ⟨q, b0, none⟩ y0).setCell ⟨q, b1, none⟩ y1).setCell ⟨q, b2, none⟩ y2).setCell ⟨q, b3, none⟩ y3).cell? ⟨r, a1, none⟩ = some v1 ∧ ((((w.setCell ⟨q, b0, none⟩ y0).setCell ⟨q, b1, none⟩ y1).setCell ⟨q, b2, none⟩ y2).setCell ⟨q, b3, none⟩ y3).cell? ⟨r, a2, none⟩ = some v2 ∧ ((((w.setCell ⟨q, b0, none⟩ y0).setCell ⟨q, b1, none⟩ y1).setCell ⟨q, b2, none⟩ y2).setCell ⟨q, b3, none⟩ y3).cell? ⟨r, a3, none⟩ = some v3 := by
  have k : ∀ (w : World) b y o, (w.setCell ⟨q, b, none⟩ y).cell? ⟨r, o, none⟩ = w.cell? ⟨r, o, none⟩ := fun w b y o => World.cell?_setCell_other w ⟨q, b, none⟩ ⟨r, o, none⟩ y (by simp [h])
  simp only [k]
  exact ⟨c0, c1, c2, c3⟩
end
theorem col_after {wr wh w : World} {r : Nat} {A : Array Value} {a0 a1 a2 a3 : Nat} {v0 v1 v2 v3 : Value} (HA : Bk wr r 38 A) (HZ : Bk wr (r + 1) 38 z16) (HB : Below r w wr) (hr : r < wr.heap.size) (HR : w.heap.size = r) (hbh : Below wr.drew.heap.size wr.drew wh)
    (c0 : wr.cell? ⟨r, a0, none⟩ = some v0) (c1 : wr.cell? ⟨r, a1, none⟩ = some v1) (c2 : wr.cell? ⟨r, a2, none⟩ = some v2) (c3 : wr.cell? ⟨r, a3, none⟩ = some v3) :
    Bk wh r 38 A ∧ Bk wh (r + 1) 38 z16 ∧ Below r w wh ∧ wh.cell? ⟨r, a0, none⟩ = some v0 ∧ wh.cell? ⟨r, a1, none⟩ = some v1 ∧ wh.cell? ⟨r, a2, none⟩ = some v2 ∧ wh.cell? ⟨r, a3, none⟩ = some v3 ∧ r < wh.heap.size :=
  ⟨Bk.go HA.drew hbh, Bk.go HZ.drew hbh, HB.drew.trans (hbh.mono (Nat.le_of_lt hr)), (hbh.cell (p := ⟨r, a0, none⟩) hr).trans c0, (hbh.cell (p := ⟨r, a1, none⟩) hr).trans c1, (hbh.cell (p := ⟨r, a2, none⟩) hr).trans c2, (hbh.cell (p := ⟨r, a3, none⟩) hr).trans c3, (Bk.go HA.drew hbh).lt⟩
def z4 : Array Value := #[.int .i64 0, .int .i64 0, .int .i64 0, .int .i64 0]
theorem col_after2 {wr wh w : World} {r : Nat} {A : Array Value} {a0 a1 a2 a3 : Nat} {v0 v1 v2 v3 : Value} (HA : Bk wr r 38 A) (HZ : Bk wr (r + 1) 38 z16) (HB : Below r w wr) (hr : r < wr.heap.size) (HR : w.heap.size = r) (hbh : Below (wr.alloc (.cells #[.int .i64 0, .int .i64 0, .int .i64 0, .int .i64 0] 82)).drew.heap.size (wr.alloc (.cells #[.int .i64 0, .int .i64 0, .int .i64 0, .int .i64 0] 82)).drew wh)
    (c0 : wr.cell? ⟨r, a0, none⟩ = some v0) (c1 : wr.cell? ⟨r, a1, none⟩ = some v1) (c2 : wr.cell? ⟨r, a2, none⟩ = some v2) (c3 : wr.cell? ⟨r, a3, none⟩ = some v3) :
    Bk wh r 38 A ∧ Bk wh (r + 1) 38 z16 ∧ Below r w wh ∧ wh.cell? ⟨r, a0, none⟩ = some v0 ∧ wh.cell? ⟨r, a1, none⟩ = some v1 ∧ wh.cell? ⟨r, a2, none⟩ = some v2 ∧ wh.cell? ⟨r, a3, none⟩ = some v3 ∧ r < wh.heap.size ∧
    Bk wh wr.heap.size 82 z4 ∧ wh.cell? ⟨wr.heap.size, 0, none⟩ = some (.int .i64 0) ∧ wh.cell? ⟨wr.heap.size, 1, none⟩ = some (.int .i64 0) ∧ wh.cell? ⟨wr.heap.size, 2, none⟩ = some (.int .i64 0) ∧ wh.cell? ⟨wr.heap.size, 3, none⟩ = some (.int .i64 0) ∧
    wh.frozen? ⟨wr.heap.size, 0, none⟩ = false ∧ wh.frozen? ⟨wr.heap.size, 1, none⟩ = false ∧ wh.frozen? ⟨wr.heap.size, 2, none⟩ = false ∧ wh.frozen? ⟨wr.heap.size, 3, none⟩ = false := by
  obtain ⟨wn, hwn⟩ : ∃ x, wr.alloc (.cells #[.int .i64 0, .int .i64 0, .int .i64 0, .int .i64 0] 82) = x := ⟨_, rfl⟩
  have hz : Bk wn wr.heap.size 82 z4 := hwn ▸ Bk.new wr _ _
  have ha : Bk wn r 38 A := hwn ▸ HA.alloc _
  have hZ : Bk wn (r + 1) 38 z16 := hwn ▸ HZ.alloc _
  have hB : Below r w wn := hwn ▸ HB.alloc (Nat.le_of_lt hr) _
  have hc : ∀ o, wn.cell? ⟨r, o, none⟩ = wr.cell? ⟨r, o, none⟩ := fun o => by rw [← hwn]; exact World.cell?_alloc_lt _ _ _ hr
  rw [hwn] at hbh
  have h1 := Bk.go ha.drew hbh
  have hrn : r < wn.drew.heap.size := ha.lt
  have hN := Bk.go hz.drew hbh
  exact ⟨h1, Bk.go hZ.drew hbh, hB.drew.trans (hbh.mono (Nat.le_of_lt hrn)), (hbh.cell (p := ⟨r, a0, none⟩) hrn).trans ((hc a0).trans c0), (hbh.cell (p := ⟨r, a1, none⟩) hrn).trans ((hc a1).trans c1), (hbh.cell (p := ⟨r, a2, none⟩) hrn).trans ((hc a2).trans c2), (hbh.cell (p := ⟨r, a3, none⟩) hrn).trans ((hc a3).trans c3), h1.lt,
    hN, hN.cell 0, hN.cell 1, hN.cell 2, hN.cell 3, hN.frozen 0, hN.frozen 1, hN.frozen 2, hN.frozen 3⟩
def cw0 (wh : World) (q : Nat) (x0 x1 x2 x3 : Int) : World := wh.alloc (.cells #[.int .i64 x0, .int .i64 x1, .int .i64 x2, .int .i64 x3] 82)
def cw1 (wh : World) (q : Nat) (x0 x1 x2 x3 : Int) : World := (((wh.setCell ⟨q, 0, none⟩ (.int .i64 x0)).setCell ⟨q, 1, none⟩ (.int .i64 x1)).setCell ⟨q, 2, none⟩ (.int .i64 x2)).setCell ⟨q, 3, none⟩ (.int .i64 x3)
theorem col_end0 {wh w : World} {r : Nat} {A : Array Value} (HA : Bk wh r 38 A) (HZ : Bk wh (r + 1) 38 z16) (HB : Below r w wh) (x0 x1 x2 x3 : Int) (hq : r + 1 < wh.heap.size) :
    wh.heap.size ≠ r ∧ Bk (wh.alloc (.cells #[.int .i64 x0, .int .i64 x1, .int .i64 x2, .int .i64 x3] 82)) r 38 A ∧ Bk (wh.alloc (.cells #[.int .i64 x0, .int .i64 x1, .int .i64 x2, .int .i64 x3] 82)) (r + 1) 38 z16 ∧ Below r w (wh.alloc (.cells #[.int .i64 x0, .int .i64 x1, .int .i64 x2, .int .i64 x3] 82)) ∧
      Bk (wh.alloc (.cells #[.int .i64 x0, .int .i64 x1, .int .i64 x2, .int .i64 x3] 82)) wh.heap.size 82 (iA [x0, x1, x2, x3]) :=
  ⟨by omega, HA.alloc _, HZ.alloc _, HB.alloc (by omega) _, Bk.new _ _ _⟩
theorem col_end1 {wr wh w : World} {r : Nat} {A : Array Value} (HA : Bk wh r 38 A) (HZ : Bk wh (r + 1) 38 z16) (HB : Below r w wh) (HN : Bk wh wr.heap.size 82 z4) (hr : r < wr.heap.size) (x0 x1 x2 x3 : Int) (hq : r + 1 < wr.heap.size) :
    wr.heap.size ≠ r ∧ Bk ((((wh.setCell ⟨wr.heap.size, 0, none⟩ (.int .i64 x0)).setCell ⟨wr.heap.size, 1, none⟩ (.int .i64 x1)).setCell ⟨wr.heap.size, 2, none⟩ (.int .i64 x2)).setCell ⟨wr.heap.size, 3, none⟩ (.int .i64 x3)) r 38 A ∧ Bk ((((wh.setCell ⟨wr.heap.size, 0, none⟩ (.int .i64 x0)).setCell ⟨wr.heap.size, 1, none⟩ (.int .i64 x1)).setCell ⟨wr.heap.size, 2, none⟩ (.int .i64 x2)).setCell ⟨wr.heap.size, 3, none⟩ (.int .i64 x3)) (r + 1) 38 z16 ∧ Below r w ((((wh.setCell ⟨wr.heap.size, 0, none⟩ (.int .i64 x0)).setCell ⟨wr.heap.size, 1, none⟩ (.int .i64 x1)).setCell ⟨wr.heap.size, 2, none⟩ (.int .i64 x2)).setCell ⟨wr.heap.size, 3, none⟩ (.int .i64 x3)) ∧
      Bk ((((wh.setCell ⟨wr.heap.size, 0, none⟩ (.int .i64 x0)).setCell ⟨wr.heap.size, 1, none⟩ (.int .i64 x1)).setCell ⟨wr.heap.size, 2, none⟩ (.int .i64 x2)).setCell ⟨wr.heap.size, 3, none⟩ (.int .i64 x3)) wr.heap.size 82 (iA [x0, x1, x2, x3]) := by
  have e0 : r ≠ wr.heap.size := by omega
  have e1 : r + 1 ≠ wr.heap.size := by omega
  have e2 : r ≤ wr.heap.size := by omega
  exact ⟨by omega, (((HA.far (p := ⟨wr.heap.size, 0, none⟩) e0 _).far (p := ⟨wr.heap.size, 1, none⟩) e0 _).far (p := ⟨wr.heap.size, 2, none⟩) e0 _).far (p := ⟨wr.heap.size, 3, none⟩) e0 _,
    (((HZ.far (p := ⟨wr.heap.size, 0, none⟩) e1 _).far (p := ⟨wr.heap.size, 1, none⟩) e1 _).far (p := ⟨wr.heap.size, 2, none⟩) e1 _).far (p := ⟨wr.heap.size, 3, none⟩) e1 _,
    (((HB.setCell (p := ⟨wr.heap.size, 0, none⟩) e2 _).setCell (p := ⟨wr.heap.size, 1, none⟩) e2 _).setCell (p := ⟨wr.heap.size, 2, none⟩) e2 _).setCell (p := ⟨wr.heap.size, 3, none⟩) e2 _,
    (((HN.set_ 0 _).set_ 1 _).set_ 2 _).set_ 3 _⟩
set_option maxRecDepth 100000 in
set_option maxHeartbeats 3200000 in
theorem rows_any (l : List Int) (w : World) (hl : l.length = 16) (hs : ∀ j, j < 16 → Sm 1048576 (g16 l j)) :
    Calls Tryz.prog 27 #[.agg (iA l), .func (.func 29) #[] #[]] w fun e w' => e = .returned (.agg (iA (colsF (rowsF l)))) ∧ Below w.heap.size w w' := by
  obtain ⟨m, hm⟩ : ∃ m, colsF (rowsF l) = m := ⟨_, rfl⟩
  rw [hm]
  have hml : m.length = 16 := by rw [← hm, colsF_length]
  have HM := Lib.hid hm
  clear hm
  obtain ⟨r, hr⟩ : ∃ r, w.heap.size = r := ⟨_, rfl⟩
  have k0 := (Bk.new w 38 (iA l)).alloc (.cells z16 38)
  have kz := Bk.new (w.alloc (.cells (iA l) 38)) 38 z16
  rw [World.size_alloc] at kz
  have hb0 : Below w.heap.size w ((w.alloc (.cells (iA l) 38)).alloc (.cells z16 38)) := ((Below.refl _ _).alloc (Nat.le_refl _) _).alloc (by simp) _
  have HS := Lib.hid (And.intro k0 (And.intro kz hb0))
  have HSM := Lib.hid hs
  clear k0 kz hb0 hs
  go_enter Tryz.func27, Tryz.ntmps27
  go_wp2_with fail
  change Code.wp _ _ _ _ ((w.alloc (Obj.cells (iA l) 38)).alloc (Obj.cells z16 38))
  obtain ⟨w0, hw0⟩ : ∃ x, x = (w.alloc (.cells (iA l) 38)).alloc (.cells z16 38) := ⟨_, rfl⟩
  have HS0 := HS.out
  rw [← hw0] at HS0 ⊢
  clear HS hw0
  rw [hr] at HS0
  have HR := Lib.hid hr
  have HS1 := Lib.hid HS0
  clear HS0
  go_loopw [9, 5] (fun i v wr => ∃ k : Nat, k ≤ 4 ∧ i = .int .i64 k ∧ Bk wr r 38 (iA (rowL l k)) ∧ Bk wr (r + 1) 38 z16 ∧ Below r w wr) (fun i _ _ => 4 - (intOf i).toNat)
  case atStart => exact ⟨0, Nat.zero_le _, rfl, by rw [rowL_zero l hl]; exact HS1.out.1, HS1.out.2.1, HS1.out.2.2⟩
  case round =>
    obtain ⟨k, hk, rfl, hA, hZ, hB⟩ := hrel
    have HA := Lib.hid hA
    have HZ := Lib.hid hZ
    have HBL := Lib.hid hB
    clear hA hZ hB HS1
    by_cases hlt : k < 4
    · have hk4 : k = 0 ∨ k = 1 ∨ k = 2 ∨ k = 3 := by omega
      clear hlt hk
      rcases hk4 with rfl | rfl | rfl | rfl
      · have c0 : wr.cell? ⟨r, 0, none⟩ = some (.int .i64 (g16 l 0)) := by rw [HA.out.cell, iA_get (rowL_length l 0) (by decide), rowL_get l 0 _ (by decide) (by decide)]
        have c1 : wr.cell? ⟨r, 1, none⟩ = some (.int .i64 (g16 l 1)) := by rw [HA.out.cell, iA_get (rowL_length l 0) (by decide), rowL_get l 0 _ (by decide) (by decide)]
        have c2 : wr.cell? ⟨r, 2, none⟩ = some (.int .i64 (g16 l 2)) := by rw [HA.out.cell, iA_get (rowL_length l 0) (by decide), rowL_get l 0 _ (by decide) (by decide)]
        have c3 : wr.cell? ⟨r, 3, none⟩ = some (.int .i64 (g16 l 3)) := by rw [HA.out.cell, iA_get (rowL_length l 0) (by decide), rowL_get l 0 _ (by decide) (by decide)]
        have HF := Lib.hid (fun w => fstep_any (g16 l 0) (g16 l 1) (g16 l 2) (g16 l 3) w (by have := HSM.out 0 (by decide); unfold Sm at *; omega) (by have := HSM.out 1 (by decide); unfold Sm at *; omega) (by have := HSM.out 2 (by decide); unfold Sm at *; omega) (by have := HSM.out 3 (by decide); unfold Sm at *; omega))
        have q0 : IntKind.i64.wrap 0 = 0 := rfl
        have q1 : IntKind.i64.wrap 4 = 4 := rfl
        have HC := Lib.hid (rowL_cut l 0 (by decide))
        go_upto_region 4 with fail
        obtain ⟨X, hX⟩ : ∃ X, fwd4 (g16 l 0) (g16 l 1) (g16 l 2) (g16 l 3) = X := ⟨_, rfl⟩
        have hXl : X.length = 4 := by rw [← hX]; rfl
        have HC2 : Hid ((((iA (rowL l 0)).toList.take 0 ++ ((iA X).toList ++ (iA (rowL l 0)).toList.drop 4)).toArray) = iA (rowL l 1)) := Lib.hid (hX ▸ HC.out)
        rw [hX] at HF
        clear hX HC
        obtain ⟨M, hM⟩ : ∃ M, rowL l 0 = M := ⟨_, rfl⟩
        have hMl : M.length = 16 := by rw [← hM, rowL_length]
        rw [hM] at HA HC2
        clear hM
        have hln : (iA X).toList.length = 4 := by rw [Array.length_toList, iA_size, hXl]
        go_region_law (first | (refine step_copy_own rfl (.tmp 14) (.tmp 25) 37 37 rfl 3 Tryz.underlying37 (by kernel_rfl) r 0 16 16 ⟨wh.heap.size, 0, none⟩ 4 4 (by simp [Act.eval, Act.put]) (by simp [Act.eval, Act.put]) (iA M) _ HA2.out (iA X).toList (by rw [hln]; rfl) (fun j v hj => by rw [add_new, HXB.out.cell]; simpa using hj) (by rw [hln, iA_size, hMl]; decide) (fun v hv => by simp [iA] at hv; obtain ⟨x, _, rfl⟩ := hv; rfl) ?_) | (go_simp; refine (HF.out _).mono ?_; rintro e wh ⟨rfl, hbh⟩; have HA1 := Lib.hid (Bk.go HA.out.drew hbh); have HZ1 := Lib.hid (Bk.go HZ.out.drew hbh); have HB1 := Lib.hid (HBL.out.drew.trans (hbh.mono (Nat.le_trans (Nat.le_of_eq HR.out.symm) HBL.out.drew.size))); clear hbh HA HZ HBL c0 c1 c2 c3; try go_simp) | (go_simp; refine (sliced_any (iA X) _ (by rw [iA_size, hXl])).mono ?_; rintro e wh2 ⟨rfl, hbh, hXB⟩; have HA2 := Lib.hid (Bk.go HA1.out hbh); have HZ2 := Lib.hid (Bk.go HZ1.out hbh); have HB2 := Lib.hid (HB1.out.trans (hbh.mono (Nat.le_trans (Nat.le_of_eq HR.out.symm) HB1.out.size))); have HXB := Lib.hid hXB; clear hbh hXB HA1 HZ1 HB1; try go_simp))
        all_goals
          have hc2 := HC2.out
          try simp only [List.take_zero, List.nil_append] at hc2
          rw [hc2]
          have HA3 := Lib.hid (bk_setRow (cs := iA (rowL l 1)) HA2.out)
          have HZ3 : Hid (Bk (wh2.setRow r (iA (rowL l 1))) (r + 1) 38 z16) := Lib.hid ((setRow_other wh2 r (r + 1) (iA (rowL l 1)) (by omega)).trans HZ2.out)
          have HB3 : Hid (Below r w (wh2.setRow r (iA (rowL l 1)))) := Lib.hid (below_setRow HB2.out (Nat.le_refl _) _)
          clear HA2 HZ2 HB2 HXB hc2
          go_wp2_with fail
          exact ⟨⟨1, by omega, rfl, HA3.out, HZ3.out, HB3.out⟩, by simp [intOf]⟩
      · have c0 : wr.cell? ⟨r, 4, none⟩ = some (.int .i64 (g16 l 4)) := by rw [HA.out.cell, iA_get (rowL_length l 1) (by decide), rowL_get l 1 _ (by decide) (by decide)]
        have c1 : wr.cell? ⟨r, 5, none⟩ = some (.int .i64 (g16 l 5)) := by rw [HA.out.cell, iA_get (rowL_length l 1) (by decide), rowL_get l 1 _ (by decide) (by decide)]
        have c2 : wr.cell? ⟨r, 6, none⟩ = some (.int .i64 (g16 l 6)) := by rw [HA.out.cell, iA_get (rowL_length l 1) (by decide), rowL_get l 1 _ (by decide) (by decide)]
        have c3 : wr.cell? ⟨r, 7, none⟩ = some (.int .i64 (g16 l 7)) := by rw [HA.out.cell, iA_get (rowL_length l 1) (by decide), rowL_get l 1 _ (by decide) (by decide)]
        have HF := Lib.hid (fun w => fstep_any (g16 l 4) (g16 l 5) (g16 l 6) (g16 l 7) w (by have := HSM.out 4 (by decide); unfold Sm at *; omega) (by have := HSM.out 5 (by decide); unfold Sm at *; omega) (by have := HSM.out 6 (by decide); unfold Sm at *; omega) (by have := HSM.out 7 (by decide); unfold Sm at *; omega))
        have q0 : IntKind.i64.wrap 4 = 4 := rfl
        have q1 : IntKind.i64.wrap 8 = 8 := rfl
        have HC := Lib.hid (rowL_cut l 1 (by decide))
        go_upto_region 4 with fail
        obtain ⟨X, hX⟩ : ∃ X, fwd4 (g16 l 4) (g16 l 5) (g16 l 6) (g16 l 7) = X := ⟨_, rfl⟩
        have hXl : X.length = 4 := by rw [← hX]; rfl
        have HC2 : Hid ((((iA (rowL l 1)).toList.take 4 ++ ((iA X).toList ++ (iA (rowL l 1)).toList.drop 8)).toArray) = iA (rowL l 2)) := Lib.hid (hX ▸ HC.out)
        rw [hX] at HF
        clear hX HC
        obtain ⟨M, hM⟩ : ∃ M, rowL l 1 = M := ⟨_, rfl⟩
        have hMl : M.length = 16 := by rw [← hM, rowL_length]
        rw [hM] at HA HC2
        clear hM
        have hln : (iA X).toList.length = 4 := by rw [Array.length_toList, iA_size, hXl]
        go_region_law (first | (refine step_copy_own rfl (.tmp 14) (.tmp 25) 37 37 rfl 3 Tryz.underlying37 (by kernel_rfl) r 4 12 12 ⟨wh.heap.size, 0, none⟩ 4 4 (by simp [Act.eval, Act.put]) (by simp [Act.eval, Act.put]) (iA M) _ HA2.out (iA X).toList (by rw [hln]; rfl) (fun j v hj => by rw [add_new, HXB.out.cell]; simpa using hj) (by rw [hln, iA_size, hMl]; decide) (fun v hv => by simp [iA] at hv; obtain ⟨x, _, rfl⟩ := hv; rfl) ?_) | (go_simp; refine (HF.out _).mono ?_; rintro e wh ⟨rfl, hbh⟩; have HA1 := Lib.hid (Bk.go HA.out.drew hbh); have HZ1 := Lib.hid (Bk.go HZ.out.drew hbh); have HB1 := Lib.hid (HBL.out.drew.trans (hbh.mono (Nat.le_trans (Nat.le_of_eq HR.out.symm) HBL.out.drew.size))); clear hbh HA HZ HBL c0 c1 c2 c3; try go_simp) | (go_simp; refine (sliced_any (iA X) _ (by rw [iA_size, hXl])).mono ?_; rintro e wh2 ⟨rfl, hbh, hXB⟩; have HA2 := Lib.hid (Bk.go HA1.out hbh); have HZ2 := Lib.hid (Bk.go HZ1.out hbh); have HB2 := Lib.hid (HB1.out.trans (hbh.mono (Nat.le_trans (Nat.le_of_eq HR.out.symm) HB1.out.size))); have HXB := Lib.hid hXB; clear hbh hXB HA1 HZ1 HB1; try go_simp))
        all_goals
          have hc2 := HC2.out
          try simp only [List.take_zero, List.nil_append] at hc2
          rw [hc2]
          have HA3 := Lib.hid (bk_setRow (cs := iA (rowL l 2)) HA2.out)
          have HZ3 : Hid (Bk (wh2.setRow r (iA (rowL l 2))) (r + 1) 38 z16) := Lib.hid ((setRow_other wh2 r (r + 1) (iA (rowL l 2)) (by omega)).trans HZ2.out)
          have HB3 : Hid (Below r w (wh2.setRow r (iA (rowL l 2)))) := Lib.hid (below_setRow HB2.out (Nat.le_refl _) _)
          clear HA2 HZ2 HB2 HXB hc2
          go_wp2_with fail
          exact ⟨⟨2, by omega, rfl, HA3.out, HZ3.out, HB3.out⟩, by simp [intOf]⟩
      · have c0 : wr.cell? ⟨r, 8, none⟩ = some (.int .i64 (g16 l 8)) := by rw [HA.out.cell, iA_get (rowL_length l 2) (by decide), rowL_get l 2 _ (by decide) (by decide)]
        have c1 : wr.cell? ⟨r, 9, none⟩ = some (.int .i64 (g16 l 9)) := by rw [HA.out.cell, iA_get (rowL_length l 2) (by decide), rowL_get l 2 _ (by decide) (by decide)]
        have c2 : wr.cell? ⟨r, 10, none⟩ = some (.int .i64 (g16 l 10)) := by rw [HA.out.cell, iA_get (rowL_length l 2) (by decide), rowL_get l 2 _ (by decide) (by decide)]
        have c3 : wr.cell? ⟨r, 11, none⟩ = some (.int .i64 (g16 l 11)) := by rw [HA.out.cell, iA_get (rowL_length l 2) (by decide), rowL_get l 2 _ (by decide) (by decide)]
        have HF := Lib.hid (fun w => fstep_any (g16 l 8) (g16 l 9) (g16 l 10) (g16 l 11) w (by have := HSM.out 8 (by decide); unfold Sm at *; omega) (by have := HSM.out 9 (by decide); unfold Sm at *; omega) (by have := HSM.out 10 (by decide); unfold Sm at *; omega) (by have := HSM.out 11 (by decide); unfold Sm at *; omega))
        have q0 : IntKind.i64.wrap 8 = 8 := rfl
        have q1 : IntKind.i64.wrap 12 = 12 := rfl
        have HC := Lib.hid (rowL_cut l 2 (by decide))
        go_upto_region 4 with fail
        obtain ⟨X, hX⟩ : ∃ X, fwd4 (g16 l 8) (g16 l 9) (g16 l 10) (g16 l 11) = X := ⟨_, rfl⟩
        have hXl : X.length = 4 := by rw [← hX]; rfl
        have HC2 : Hid ((((iA (rowL l 2)).toList.take 8 ++ ((iA X).toList ++ (iA (rowL l 2)).toList.drop 12)).toArray) = iA (rowL l 3)) := Lib.hid (hX ▸ HC.out)
        rw [hX] at HF
        clear hX HC
        obtain ⟨M, hM⟩ : ∃ M, rowL l 2 = M := ⟨_, rfl⟩
        have hMl : M.length = 16 := by rw [← hM, rowL_length]
        rw [hM] at HA HC2
        clear hM
        have hln : (iA X).toList.length = 4 := by rw [Array.length_toList, iA_size, hXl]
        go_region_law (first | (refine step_copy_own rfl (.tmp 14) (.tmp 25) 37 37 rfl 3 Tryz.underlying37 (by kernel_rfl) r 8 8 8 ⟨wh.heap.size, 0, none⟩ 4 4 (by simp [Act.eval, Act.put]) (by simp [Act.eval, Act.put]) (iA M) _ HA2.out (iA X).toList (by rw [hln]; rfl) (fun j v hj => by rw [add_new, HXB.out.cell]; simpa using hj) (by rw [hln, iA_size, hMl]; decide) (fun v hv => by simp [iA] at hv; obtain ⟨x, _, rfl⟩ := hv; rfl) ?_) | (go_simp; refine (HF.out _).mono ?_; rintro e wh ⟨rfl, hbh⟩; have HA1 := Lib.hid (Bk.go HA.out.drew hbh); have HZ1 := Lib.hid (Bk.go HZ.out.drew hbh); have HB1 := Lib.hid (HBL.out.drew.trans (hbh.mono (Nat.le_trans (Nat.le_of_eq HR.out.symm) HBL.out.drew.size))); clear hbh HA HZ HBL c0 c1 c2 c3; try go_simp) | (go_simp; refine (sliced_any (iA X) _ (by rw [iA_size, hXl])).mono ?_; rintro e wh2 ⟨rfl, hbh, hXB⟩; have HA2 := Lib.hid (Bk.go HA1.out hbh); have HZ2 := Lib.hid (Bk.go HZ1.out hbh); have HB2 := Lib.hid (HB1.out.trans (hbh.mono (Nat.le_trans (Nat.le_of_eq HR.out.symm) HB1.out.size))); have HXB := Lib.hid hXB; clear hbh hXB HA1 HZ1 HB1; try go_simp))
        all_goals
          have hc2 := HC2.out
          try simp only [List.take_zero, List.nil_append] at hc2
          rw [hc2]
          have HA3 := Lib.hid (bk_setRow (cs := iA (rowL l 3)) HA2.out)
          have HZ3 : Hid (Bk (wh2.setRow r (iA (rowL l 3))) (r + 1) 38 z16) := Lib.hid ((setRow_other wh2 r (r + 1) (iA (rowL l 3)) (by omega)).trans HZ2.out)
          have HB3 : Hid (Below r w (wh2.setRow r (iA (rowL l 3)))) := Lib.hid (below_setRow HB2.out (Nat.le_refl _) _)
          clear HA2 HZ2 HB2 HXB hc2
          go_wp2_with fail
          exact ⟨⟨3, by omega, rfl, HA3.out, HZ3.out, HB3.out⟩, by simp [intOf]⟩
      · have c0 : wr.cell? ⟨r, 12, none⟩ = some (.int .i64 (g16 l 12)) := by rw [HA.out.cell, iA_get (rowL_length l 3) (by decide), rowL_get l 3 _ (by decide) (by decide)]
        have c1 : wr.cell? ⟨r, 13, none⟩ = some (.int .i64 (g16 l 13)) := by rw [HA.out.cell, iA_get (rowL_length l 3) (by decide), rowL_get l 3 _ (by decide) (by decide)]
        have c2 : wr.cell? ⟨r, 14, none⟩ = some (.int .i64 (g16 l 14)) := by rw [HA.out.cell, iA_get (rowL_length l 3) (by decide), rowL_get l 3 _ (by decide) (by decide)]
        have c3 : wr.cell? ⟨r, 15, none⟩ = some (.int .i64 (g16 l 15)) := by rw [HA.out.cell, iA_get (rowL_length l 3) (by decide), rowL_get l 3 _ (by decide) (by decide)]
        have HF := Lib.hid (fun w => fstep_any (g16 l 12) (g16 l 13) (g16 l 14) (g16 l 15) w (by have := HSM.out 12 (by decide); unfold Sm at *; omega) (by have := HSM.out 13 (by decide); unfold Sm at *; omega) (by have := HSM.out 14 (by decide); unfold Sm at *; omega) (by have := HSM.out 15 (by decide); unfold Sm at *; omega))
        have q0 : IntKind.i64.wrap 12 = 12 := rfl
        have q1 : IntKind.i64.wrap 16 = 16 := rfl
        have HC := Lib.hid (rowL_cut l 3 (by decide))
        go_upto_region 4 with fail
        obtain ⟨X, hX⟩ : ∃ X, fwd4 (g16 l 12) (g16 l 13) (g16 l 14) (g16 l 15) = X := ⟨_, rfl⟩
        have hXl : X.length = 4 := by rw [← hX]; rfl
        have HC2 : Hid ((((iA (rowL l 3)).toList.take 12 ++ ((iA X).toList ++ (iA (rowL l 3)).toList.drop 16)).toArray) = iA (rowL l 4)) := Lib.hid (hX ▸ HC.out)
        rw [hX] at HF
        clear hX HC
        obtain ⟨M, hM⟩ : ∃ M, rowL l 3 = M := ⟨_, rfl⟩
        have hMl : M.length = 16 := by rw [← hM, rowL_length]
        rw [hM] at HA HC2
        clear hM
        have hln : (iA X).toList.length = 4 := by rw [Array.length_toList, iA_size, hXl]
        go_region_law (first | (refine step_copy_own rfl (.tmp 14) (.tmp 25) 37 37 rfl 3 Tryz.underlying37 (by kernel_rfl) r 12 4 4 ⟨wh.heap.size, 0, none⟩ 4 4 (by simp [Act.eval, Act.put]) (by simp [Act.eval, Act.put]) (iA M) _ HA2.out (iA X).toList (by rw [hln]; rfl) (fun j v hj => by rw [add_new, HXB.out.cell]; simpa using hj) (by rw [hln, iA_size, hMl]; decide) (fun v hv => by simp [iA] at hv; obtain ⟨x, _, rfl⟩ := hv; rfl) ?_) | (go_simp; refine (HF.out _).mono ?_; rintro e wh ⟨rfl, hbh⟩; have HA1 := Lib.hid (Bk.go HA.out.drew hbh); have HZ1 := Lib.hid (Bk.go HZ.out.drew hbh); have HB1 := Lib.hid (HBL.out.drew.trans (hbh.mono (Nat.le_trans (Nat.le_of_eq HR.out.symm) HBL.out.drew.size))); clear hbh HA HZ HBL c0 c1 c2 c3; try go_simp) | (go_simp; refine (sliced_any (iA X) _ (by rw [iA_size, hXl])).mono ?_; rintro e wh2 ⟨rfl, hbh, hXB⟩; have HA2 := Lib.hid (Bk.go HA1.out hbh); have HZ2 := Lib.hid (Bk.go HZ1.out hbh); have HB2 := Lib.hid (HB1.out.trans (hbh.mono (Nat.le_trans (Nat.le_of_eq HR.out.symm) HB1.out.size))); have HXB := Lib.hid hXB; clear hbh hXB HA1 HZ1 HB1; try go_simp))
        all_goals
          have hc2 := HC2.out
          try simp only [List.take_zero, List.nil_append] at hc2
          rw [hc2]
          have HA3 := Lib.hid (bk_setRow (cs := iA (rowL l 4)) HA2.out)
          have HZ3 : Hid (Bk (wh2.setRow r (iA (rowL l 4))) (r + 1) 38 z16) := Lib.hid ((setRow_other wh2 r (r + 1) (iA (rowL l 4)) (by omega)).trans HZ2.out)
          have HB3 : Hid (Below r w (wh2.setRow r (iA (rowL l 4)))) := Lib.hid (below_setRow HB2.out (Nat.le_refl _) _)
          clear HA2 HZ2 HB2 HXB hc2
          go_wp2_with fail
          exact ⟨⟨4, by omega, rfl, HA3.out, HZ3.out, HB3.out⟩, by simp [intOf]⟩
    · obtain rfl : k = 4 := by omega
      obtain ⟨P, hP⟩ : ∃ P, rowsF l = P := ⟨_, rfl⟩
      have hPl : P.length = 16 := by rw [← hP, rowsF_length]
      have HPB : Hid (∀ j, j < 16 → Sm 20000000 (g16 P j)) := Lib.hid (fun j hj => hP ▸ rowsF_bd l HSM.out j hj)
      have HA0 : Hid (Bk wr r 38 (iA P)) := Lib.hid (by have := HA.out; rw [rowL_full, hP] at this; exact this)
      rw [hP] at HM
      clear HA hP
      go_upto_region 7 with fail
      try rw [show ((4 : Nat) : Int) = 4 from rfl]
      go_loopw [28, 7] (fun i u wq => ∃ k : Nat, k ≤ 4 ∧ i = .int .i64 k ∧ Bk wq r 38 (iA (colL P k 0)) ∧ Bk wq (r + 1) 38 z16 ∧ Below r w wq) (fun i _ _ => 4 - (intOf i).toNat)
      case atStart => exact ⟨0, Nat.zero_le _, rfl, by rw [colL_zero P hPl]; exact HA0.out, HZ.out, HBL.out⟩
      case round =>
        obtain ⟨k, hk, rfl, hA, hZ, hB⟩ := hrel
        have HA := Lib.hid hA
        have HZ := Lib.hid hZ
        have HBL := Lib.hid hB
        have hsz := hZ.lt
        clear hA hZ hB HA0
        by_cases hlt : k < 4
        · have c0 : wr.cell? ⟨r, k, none⟩ = some (.int .i64 (g16 P k)) := by rw [HA.out.cell, iA_get (colL_length P k 0) (by omega), colL_get P k _ (by omega) (by omega)]
          have c1 : wr.cell? ⟨r, 4 + k, none⟩ = some (.int .i64 (g16 P (4 + k))) := by rw [HA.out.cell, iA_get (colL_length P k 0) (by omega), colL_get P k _ (by omega) (by omega)]
          have c2 : wr.cell? ⟨r, 8 + k, none⟩ = some (.int .i64 (g16 P (8 + k))) := by rw [HA.out.cell, iA_get (colL_length P k 0) (by omega), colL_get P k _ (by omega) (by omega)]
          have c3 : wr.cell? ⟨r, 12 + k, none⟩ = some (.int .i64 (g16 P (12 + k))) := by rw [HA.out.cell, iA_get (colL_length P k 0) (by omega), colL_get P k _ (by omega) (by omega)]
          have HF := Lib.hid (fun w => fstep_any (g16 P k) (g16 P (4 + k)) (g16 P (8 + k)) (g16 P (12 + k)) w (HPB.out _ (by omega)) (HPB.out _ (by omega)) (HPB.out _ (by omega)) (HPB.out _ (by omega)))
          have HCS := Lib.hid (fun j hj => colL_set P k j hlt hj)
          have HCN := Lib.hid (colL_next P k)
          obtain ⟨X, hX⟩ : ∃ X, fwd4 (g16 P k) (g16 P (4 + k)) (g16 P (8 + k)) (g16 P (12 + k)) = X := ⟨_, rfl⟩
          have hXl : X.length = 4 := by rw [← hX]; rfl
          have HCS2 : Hid (∀ j, j < 4 → (colL P k j).set (4 * j + k) (g16 X j) = colL P k (j + 1)) := Lib.hid (fun j hj => hX ▸ HCS.out j hj)
          rw [hX] at HF
          clear hX HCS
          obtain ⟨x0, x1, x2, x3, rfl⟩ : ∃ x0 x1 x2 x3, X = [x0, x1, x2, x3] := by
            match X, hXl with
            | [x0, x1, x2, x3], _ => exact ⟨_, _, _, _, rfl⟩
          have HF : Hid (∀ w, Calls Tryz.prog 29 #[.agg #[.int .i64 (g16 P k), .int .i64 (g16 P (4 + k)), .int .i64 (g16 P (8 + k)), .int .i64 (g16 P (12 + k))]] w fun e w' => e = .returned (.agg #[.int .i64 x0, .int .i64 x1, .int .i64 x2, .int .i64 x3]) ∧ Below w.heap.size w w') := Lib.hid HF.out
          obtain ⟨p0, hp0⟩ : ∃ p, g16 P k = p := ⟨_, rfl⟩
          obtain ⟨p1, hp1⟩ : ∃ p, g16 P (4 + k) = p := ⟨_, rfl⟩
          obtain ⟨p2, hp2⟩ : ∃ p, g16 P (8 + k) = p := ⟨_, rfl⟩
          obtain ⟨p3, hp3⟩ : ∃ p, g16 P (12 + k) = p := ⟨_, rfl⟩
          rw [hp0] at c0 HF
          rw [hp1] at c1 HF
          rw [hp2] at c2 HF
          rw [hp3] at c3 HF
          clear hp0 hp1 hp2 hp3 HSM HPB
          have hk0 : (0 : Int) ≤ (k : Int) := Int.natCast_nonneg _
          have hk1 : (k : Int) < 4 := by omega
          have q0 : IntKind.i64.wrap (4 + (k : Int)) = 4 + (k : Int) := by rw [IntKind.wrap_i64]; omega
          have q1 : IntKind.i64.wrap (8 + (k : Int)) = 8 + (k : Int) := by rw [IntKind.wrap_i64]; omega
          have q2 : IntKind.i64.wrap (12 + (k : Int)) = 12 + (k : Int) := by rw [IntKind.wrap_i64]; omega
          have t0 : (4 + (k : Int)).toNat = 4 + k := by omega
          have t1 : (8 + (k : Int)).toNat = 8 + k := by omega
          have t2 : (12 + (k : Int)).toNat = 12 + k := by omega
          have b0 : (k : Int) < 16 := by omega
          have b1 : 4 + (k : Int) < 16 := by omega
          have b2 : 8 + (k : Int) < 16 := by omega
          have b3 : 12 + (k : Int) < 16 := by omega
          have n1 : (0 : Int) ≤ 4 + (k : Int) := by omega
          have n2 : (0 : Int) ≤ 8 + (k : Int) := by omega
          have n3 : (0 : Int) ≤ 12 + (k : Int) := by omega
          have hr1 : r < wr.heap.size := by omega
          go_upto_region 9 with fail
          go_region_held3 (fun w' => w'.cell? ⟨r, k, none⟩ = some (.int .i64 p0) ∧ w'.cell? ⟨r, 4 + k, none⟩ = some (.int .i64 p1) ∧ w'.cell? ⟨r, 8 + k, none⟩ = some (.int .i64 p2) ∧ w'.cell? ⟨r, 12 + k, none⟩ = some (.int .i64 p3))
            (first
              | with_reducible exact ⟨c0, c1, c2, c3⟩
              | with_reducible exact dr4 c0 c1 c2 c3
              | with_reducible exact al4 hr1 c0 c1 c2 c3
              | with_reducible exact ald4 hr1 c0 c1 c2 c3
              | with_reducible exact ⟨k0, k1, k2, k3⟩
              | with_reducible exact al4 hrh k0 k1 k2 k3
              | with_reducible exact st4 hrn k0 k1 k2 k3
              | (trace_state; fail "KEEP"))
            (first
              | (go_at_call 29; refine (HF.out _).mono ?_; rintro e wh ⟨rfl, hbh⟩; with_reducible have hbb : Below wr.drew.heap.size wr.drew wh := hbh; have HW := col_after HA.out HZ.out HBL.out hr1 HR.out hbb c0 c1 c2 c3; obtain ⟨HA1, HZ1, HB1, k0, k1, k2, k3, hrh⟩ := HW; have HA1 := Lib.hid HA1; have HZ1 := Lib.hid HZ1; have HB1 := Lib.hid HB1)
              | (go_at_call 29; refine (HF.out _).mono ?_; rintro e wh ⟨rfl, hbh⟩; have HW := col_after2 HA.out HZ.out HBL.out hr1 HR.out hbh c0 c1 c2 c3; obtain ⟨HA1, HZ1, HB1, k0, k1, k2, k3, hrh, HN1, n0, n1, n2, n3, f0, f1, f2, f3⟩ := HW; have hrn := Nat.ne_of_gt hr1; have HA1 := Lib.hid HA1; have HZ1 := Lib.hid HZ1; have HB1 := Lib.hid HB1; have HN1 := Lib.hid HN1))
          · obtain ⟨q, hq⟩ : ∃ q, wh.heap.size = q := ⟨_, rfl⟩
            have HX := col_end0 HA1.out HZ1.out HB1.out  x0 x1 x2 x3
            rw [hq] at HX
            rw [hq]
            obtain ⟨hqr, hXA, hXZ, hXB, hXX⟩ := HX (by have := HZ1.out.lt; omega)
            clear hq HA1 HZ1 HB1 k0 k1 k2 k3 hrh c0 c1 c2 c3 HA HZ HBL HF 
            obtain ⟨wv, hwv⟩ : ∃ y, cw0 wh q x0 x1 x2 x3 = y := ⟨_, rfl⟩
            unfold cw0 at hwv
            rw [hwv] at hXA hXZ hXB hXX ⊢
            have HXA := Lib.hid hXA
            have HXZ := Lib.hid hXZ
            have HXB := Lib.hid hXB
            have HXX := Lib.hid hXX
            clear hwv hXA hXZ hXB hXX q0 q1 q2 t0 t1 t2 b0 b1 b2 b3 n1 n2 n3
            go_upto_region 11 with fail
            go_loopw [49] (fun t wq => ∃ j : Nat, j ≤ 4 ∧ t = .int .i64 j ∧ Bk wq r 38 (iA (colL P k j)) ∧ Bk wq (r + 1) 38 z16 ∧ Below r w wq ∧ Bk wq q 82 (iA [x0, x1, x2, x3])) (fun t _ => 4 - (intOf t).toNat)
            case atStart => exact ⟨0, Nat.zero_le _, rfl, HXA.out, HXZ.out, HXB.out, HXX.out⟩
            case round =>
              obtain ⟨j, hj, rfl, hA, hZ, hB, hX⟩ := hrel
              have HA := Lib.hid hA
              have HZ := Lib.hid hZ
              have HBL := Lib.hid hB
              have HX := Lib.hid hX
              clear hA hZ hB hX HXA HXZ HXB HXX
              by_cases hjl : j < 4
              · have j0 : (0 : Int) ≤ (j : Int) := Int.natCast_nonneg _
                have j1 : (j : Int) < 4 := by omega
                have j2 : (0 : Int) ≤ 4 * (j : Int) + (k : Int) := by omega
                have j3 : 4 * (j : Int) + (k : Int) < 16 := by omega
                have t0 : (4 * (j : Int) + (k : Int)).toNat = 4 * j + k := by omega
                have hcc : wr.cell? ⟨q, j, none⟩ = some (.int .i64 (g16 [x0, x1, x2, x3] j)) := by rw [HX.out.cell, iA_get (n := 4) rfl hjl]
                have hcr : wr.cell? ⟨r, 4 * j + k, none⟩ = some (.int .i64 (g16 (colL P k j) (4 * j + k))) := by rw [HA.out.cell, iA_get (colL_length P k j) (by omega)]
                have hfr := HA.out.frozen (4 * j + k)
                have HS := Lib.hid (HCS2.out j hjl)
                obtain ⟨y, hy⟩ : ∃ y, g16 [x0, x1, x2, x3] j = y := ⟨_, rfl⟩
                rw [hy] at hcc HS
                obtain ⟨y2, hy2⟩ : ∃ y, g16 (colL P k j) (4 * j + k) = y := ⟨_, rfl⟩
                rw [hy2] at hcr
                clear hy hy2
                have HA2 := Lib.hid (HA.out.set_ (4 * j + k) (.int .i64 y))
                rw [iA_set, HS.out] at HA2
                have HZ2 := Lib.hid (HZ.out.far (p := ⟨r, 4 * j + k, none⟩) (by simp) (.int .i64 y))
                have HB2 := Lib.hid (HBL.out.setCell (p := ⟨r, 4 * j + k, none⟩) (Nat.le_refl _) (.int .i64 y))
                have HX2 := Lib.hid (HX.out.far (p := ⟨r, 4 * j + k, none⟩) hqr (.int .i64 y))
                go_wp2_with fail
                go_roundw
                case rel => exact ⟨j + 1, by omega, by go_num, HA2.out, HZ2.out, HB2.out, HX2.out⟩
                case measure => simp [intOf]; omega
              · obtain rfl : j = 4 := by omega
                have HA2 := HA.out
                rw [HCN.out] at HA2
                have HA3 := Lib.hid HA2
                clear HA2 HA
                go_wp2_with fail
                go_roundw
                case rel => exact ⟨k + 1, by omega, by go_num, HA3.out, HZ.out, HBL.out⟩
                case measure => simp [intOf]; omega
          · obtain ⟨q, hq⟩ : ∃ q, wr.heap.size = q := ⟨_, rfl⟩
            have HX := col_end1 HA1.out HZ1.out HB1.out HN1.out hr1 x0 x1 x2 x3
            rw [hq] at HX
            rw [hq]
            obtain ⟨hqr, hXA, hXZ, hXB, hXX⟩ := HX (by have := HZ.out.lt; omega)
            clear hq HA1 HZ1 HB1 k0 k1 k2 k3 hrh c0 c1 c2 c3 HA HZ HBL HF HN1 n0 n1 n2 n3 f0 f1 f2 f3 hrn
            obtain ⟨wv, hwv⟩ : ∃ y, cw1 wh q x0 x1 x2 x3 = y := ⟨_, rfl⟩
            unfold cw1 at hwv
            rw [hwv] at hXA hXZ hXB hXX ⊢
            have HXA := Lib.hid hXA
            have HXZ := Lib.hid hXZ
            have HXB := Lib.hid hXB
            have HXX := Lib.hid hXX
            clear hwv hXA hXZ hXB hXX q0 q1 q2 t0 t1 t2 b0 b1 b2 b3 n1 n2 n3
            go_upto_region 11 with fail
            go_loopw [49] (fun t wq => ∃ j : Nat, j ≤ 4 ∧ t = .int .i64 j ∧ Bk wq r 38 (iA (colL P k j)) ∧ Bk wq (r + 1) 38 z16 ∧ Below r w wq ∧ Bk wq q 82 (iA [x0, x1, x2, x3])) (fun t _ => 4 - (intOf t).toNat)
            case atStart => exact ⟨0, Nat.zero_le _, rfl, HXA.out, HXZ.out, HXB.out, HXX.out⟩
            case round =>
              obtain ⟨j, hj, rfl, hA, hZ, hB, hX⟩ := hrel
              have HA := Lib.hid hA
              have HZ := Lib.hid hZ
              have HBL := Lib.hid hB
              have HX := Lib.hid hX
              clear hA hZ hB hX HXA HXZ HXB HXX
              by_cases hjl : j < 4
              · have j0 : (0 : Int) ≤ (j : Int) := Int.natCast_nonneg _
                have j1 : (j : Int) < 4 := by omega
                have j2 : (0 : Int) ≤ 4 * (j : Int) + (k : Int) := by omega
                have j3 : 4 * (j : Int) + (k : Int) < 16 := by omega
                have t0 : (4 * (j : Int) + (k : Int)).toNat = 4 * j + k := by omega
                have hcc : wr.cell? ⟨q, j, none⟩ = some (.int .i64 (g16 [x0, x1, x2, x3] j)) := by rw [HX.out.cell, iA_get (n := 4) rfl hjl]
                have hcr : wr.cell? ⟨r, 4 * j + k, none⟩ = some (.int .i64 (g16 (colL P k j) (4 * j + k))) := by rw [HA.out.cell, iA_get (colL_length P k j) (by omega)]
                have hfr := HA.out.frozen (4 * j + k)
                have HS := Lib.hid (HCS2.out j hjl)
                obtain ⟨y, hy⟩ : ∃ y, g16 [x0, x1, x2, x3] j = y := ⟨_, rfl⟩
                rw [hy] at hcc HS
                obtain ⟨y2, hy2⟩ : ∃ y, g16 (colL P k j) (4 * j + k) = y := ⟨_, rfl⟩
                rw [hy2] at hcr
                clear hy hy2
                have HA2 := Lib.hid (HA.out.set_ (4 * j + k) (.int .i64 y))
                rw [iA_set, HS.out] at HA2
                have HZ2 := Lib.hid (HZ.out.far (p := ⟨r, 4 * j + k, none⟩) (by simp) (.int .i64 y))
                have HB2 := Lib.hid (HBL.out.setCell (p := ⟨r, 4 * j + k, none⟩) (Nat.le_refl _) (.int .i64 y))
                have HX2 := Lib.hid (HX.out.far (p := ⟨r, 4 * j + k, none⟩) hqr (.int .i64 y))
                go_wp2_with fail
                go_roundw
                case rel => exact ⟨j + 1, by omega, by go_num, HA2.out, HZ2.out, HB2.out, HX2.out⟩
                case measure => simp [intOf]; omega
              · obtain rfl : j = 4 := by omega
                have HA2 := HA.out
                rw [HCN.out] at HA2
                have HA3 := Lib.hid HA2
                clear HA2 HA
                go_wp2_with fail
                go_roundw
                case rel => exact ⟨k + 1, by omega, by go_num, HA3.out, HZ.out, HBL.out⟩
                case measure => simp [intOf]; omega
        · obtain rfl : k = 4 := by omega
          have HA' := HA.out
          rw [colL_full P, HM.out] at HA'
          have HA2 := Lib.hid HA'
          clear HA' HA
          go_wp2_with (first | refine wpList_load_row rfl _ _ rfl r rfl 38 (iA m) (0, 0) _ HA2.out Tryz.underlying38 rfl (by rw [iA_size, hml]; kernel_rfl) ?_ | refine wpList_store_row rfl _ _ _ rfl (r + 1) (iA m) rfl rfl _ _ HZ.out (by rw [iA_size, hml]; kernel_rfl) (by rw [iA_size, hml]; rfl) (iA_all m) ?_)
          have hF : Ending.returned (.agg (iA m)) = .returned (.agg (iA m)) ∧ Below w.heap.size w (wr.setRow (r + 1) (iA m)) := by
            rw [HR.out]
            refine ⟨rfl, ?_⟩
            have hsz := HBL.out.size
            exact ⟨HBL.out.os, HBL.out.tape, HBL.out.output, by simp [World.setRow]; exact hsz, fun k hk => (setRow_other _ _ k _ (by omega)).trans (HBL.out.block k hk)⟩
          exact bodyPost_ret (arr16_rows _ _ (r + 1) (iA m) rfl (bk_setRow HZ.out) (by rw [iA_size, hml])) rfl hF
end Go.Proofs.YtfignfohcalcfaaGreatDoor
