/- GetPps: the walk. Printed by gen-getpps.py. -/
import Derived.Test.YtegfglpaabddlaaParJ
import Derived.Test.YtegfglpaabddlaaParR
import Derived.Test.YtegfglpaabddlaaParC
import Derived.Test.YtegfglpaabddlaaChain
namespace Go.Proofs.Ytegfglpaabddlaa
open Go.RowKit
set_option linter.unusedVariables false
set_option linter.unusedSimpArgs false

/-- between the two bits and got -/
def r2b (f : Nat → Bool) (N : Nat) : St := ⟨(bitsR f N (r2 f N).a 2).at_, (r2 f N).bad⟩
theorem bitsR_at {f : Nat → Bool} {N a : Nat} (n : Int) (h : a ≤ N) : (bitsR f N a n).at_ ≤ N := by
  unfold bitsR
  split
  · exact h
  · split
    · exact h
    · show a + n.toNat ≤ N
      omega
theorem r_le (f : Nat → Bool) (N : Nat) : (r1 f N).a ≤ N ∧ (r2 f N).a ≤ N ∧ (r2b f N).a ≤ N ∧ (r3 f N).a ≤ N ∧ (r4 f N).a ≤ N ∧ (r5 f N).a ≤ N ∧ (r6 f N).a ≤ N ∧ (r7 f N).a ≤ N ∧ (r8 f N).a ≤ N ∧ (r9 f N).a ≤ N := by
  have h1 : (r1 f N).a ≤ N := bitsR_at 1 (Nat.zero_le _)
  have h2 : (r2 f N).a ≤ N := bitsR_at 1 h1
  have h3 : (r3 f N).a ≤ N := bitsR_at 2 h2
  have h4 : (r4 f N).a ≤ N := (ueR_bd f N _ h3).2.2.2.1
  have h5 : (r5 f N).a ≤ N := (ueR_bd f N _ h4).2.2.2.1
  have h6 : (r6 f N).a ≤ N := bitsR_at 1 h5
  have h7 : (r7 f N).a ≤ N := bitsR_at 1 h6
  have h8 : (r8 f N).a ≤ N := (ueR_bd f N _ h7).2.2.2.1
  have h9 : (r9 f N).a ≤ N := (ueR_bd f N _ h8).2.2.2.1
  exact ⟨h1, h2, h3, h3, h4, h5, h6, h7, h8, h9⟩
theorem cn_ptr {a : Act} {w : World} {t : Nat} {p : Addr} {o : Oper} (h : o.op = .nilCheck (.tmp t)) (ha : a.eval (.tmp t) = .pointer (some p)) :
    (execOp a.eval o).run Try.prog w = .ok (.value (.pointer (some p))) w := by
  simp only [execOp, h, ha]
  go_simp
theorem fa_rd {a : Act} {w : World} {h t : Nat} {o : Oper} (q : o.op = .fieldAddr 69 (.tmp t) 0) (ha : a.eval (.tmp t) = .pointer (some ⟨h, 0, none⟩)) :
    (execOp a.eval o).run Try.prog w = .ok (.value (.pointer (some ⟨h, 0, none⟩))) w := by
  simp only [execOp, q, ha]
  go_simp
theorem ld_rd {a : Act} {w : World} {h g t : Nat} {o : Oper} (q : o.op = .load 66 (.tmp t)) (ha : a.eval (.tmp t) = .pointer (some ⟨h, 0, none⟩)) (hc : w.cell? ⟨h, 0, none⟩ = some (.pointer (some ⟨g, 0, none⟩))) :
    (execOp a.eval o).run Try.prog w = .ok (.value (.pointer (some ⟨g, 0, none⟩))) w := by
  simp only [execOp, q, ha]
  go_simp
theorem ex_0 {a : Act} {w : World} {t : Nat} {x y : Value} {o : Oper} (q : o.op = .extract (.tmp t) 0) (ha : a.eval (.tmp t) = .tuple #[x, y]) :
    (execOp a.eval o).run Try.prog w = .ok (.value x) w := by
  simp only [execOp, q, ha]
  go_simp
theorem ex_1 {a : Act} {w : World} {t : Nat} {x y : Value} {o : Oper} (q : o.op = .extract (.tmp t) 1) (ha : a.eval (.tmp t) = .tuple #[x, y]) :
    (execOp a.eval o).run Try.prog w = .ok (.value y) w := by
  simp only [execOp, q, ha]
  go_simp
theorem ad_one {a : Act} {w : World} {t : Nat} {x : Int} {o : Oper} (q : o.op = .binOp .add 3 (.tmp t) (.const (.int .i64 1)) 3) (ha : a.eval (.tmp t) = .int .i64 x) (h0 : 0 ≤ x) (h1 : x ≤ 2147483646) :
    (execOp a.eval o).run Try.prog w = .ok (.value (.int .i64 (x + 1))) w := by
  have hw : IntKind.i64.wrap (x + 1) = x + 1 := wr_in (by omega)
  simp only [execOp, q, ha]
  go_simp
theorem en_bit {a : Act} {w : World} {t : Nat} {v : Value} {o : Oper} {ts : Array TypeId} (q : o.op = .call { callee := .value (.func 55), args := #[.tmp t], argTypes := ts }) (ha : a.eval (.tmp t) = v) :
    (execOp a.eval o).run Try.prog w = .ok (.enter 55 #[v]) w := by
  simp only [execOp, q, resolve, List.map_toArray, List.map_cons, List.map_nil, ha]
  go_simp
theorem en_ue {a : Act} {w : World} {t : Nat} {v : Value} {o : Oper} {ts : Array TypeId} (q : o.op = .call { callee := .value (.func 39), args := #[.tmp t], argTypes := ts }) (ha : a.eval (.tmp t) = v) :
    (execOp a.eval o).run Try.prog w = .ok (.enter 39 #[v]) w := by
  simp only [execOp, q, resolve, List.map_toArray, List.map_cons, List.map_nil, ha]
  go_simp
theorem en_se {a : Act} {w : World} {t : Nat} {v : Value} {o : Oper} {ts : Array TypeId} (q : o.op = .call { callee := .value (.func 40), args := #[.tmp t], argTypes := ts }) (ha : a.eval (.tmp t) = v) :
    (execOp a.eval o).run Try.prog w = .ok (.enter 40 #[v]) w := by
  simp only [execOp, q, resolve, List.map_toArray, List.map_cons, List.map_nil, ha]
  go_simp
theorem en_two {a : Act} {w : World} {t : Nat} {v : Value} {o : Oper} {ts : Array TypeId} (q : o.op = .call { callee := .value (.func 57), args := #[.tmp t, .const (.int .i64 2)], argTypes := ts }) (ha : a.eval (.tmp t) = v) :
    (execOp a.eval o).run Try.prog w = .ok (.enter 57 #[v, .int .i64 2]) w := by
  have hc : a.eval (.const (.int .i64 2)) = .int .i64 2 := rfl
  simp only [execOp, q, resolve, List.map_toArray, List.map_cons, List.map_nil, ha, hc]
  go_simp
theorem en_three {a : Act} {w : World} {t0 t1 t2 : Nat} {v0 v1 v2 : Value} {o : Oper} {ts : Array TypeId} (q : o.op = .call { callee := .value (.func 56), args := #[.tmp t0, .tmp t1, .tmp t2], argTypes := ts }) (h0 : a.eval (.tmp t0) = v0) (h1 : a.eval (.tmp t1) = v1) (h2 : a.eval (.tmp t2) = v2) :
    (execOp a.eval o).run Try.prog w = .ok (.enter 56 #[v0, v1, v2]) w := by
  simp only [execOp, q, resolve, List.map_toArray, List.map_cons, List.map_nil, h0, h1, h2]
  go_simp
theorem bl_pp {a : Act} {w : World} {o : Oper} {t0 t1 t2 t3 t4 t5 t6 t7 t8 : Nat} {x0 x1 x5 x6 : Bool} {x2 x3 x4 x7 x8 : Int} (q : o.op = .build 43 #[(0, .tmp t0), (1, .tmp t1), (2, .tmp t2), (3, .tmp t3), (4, .tmp t4), (5, .tmp t5), (6, .tmp t6), (7, .tmp t7), (8, .tmp t8)])
    (h0 : a.eval (.tmp t0) = .bool x0) (h1 : a.eval (.tmp t1) = .bool x1) (h2 : a.eval (.tmp t2) = .int .i64 x2) (h3 : a.eval (.tmp t3) = .int .i64 x3) (h4 : a.eval (.tmp t4) = .int .i64 x4) (h5 : a.eval (.tmp t5) = .bool x5) (h6 : a.eval (.tmp t6) = .bool x6) (h7 : a.eval (.tmp t7) = .int .i64 x7) (h8 : a.eval (.tmp t8) = .int .i64 x8) :
    (execOp a.eval o).run Try.prog w = .ok (.value (.agg #[.bool x0, .bool x1, .int .i64 x2, .int .i64 x3, .int .i64 x4, .bool x5, .bool x6, .int .i64 x7, .int .i64 x8])) w := by
  simp only [execOp, q, List.map_toArray, List.map_cons, List.map_nil, h0, h1, h2, h3, h4, h5, h6, h7, h8]
  go_simp
theorem al_pp {a : Act} {w : World} {o : Oper} (q : o.op = .alloc 43) :
    (execOp a.eval o).run Try.prog w = .ok (.value (.pointer (some ⟨w.heap.size, 0, none⟩))) (w.alloc (.cells (ppV .zero) 43)) := by
  simp only [execOp, q]
  go_simp
  rfl
theorem Touch.put1 {w w' : World} {g : Nat} (h : Touch (fun k => k = g) w w') (i : Nat) (u : Value) : Touch (fun k => k = g) w (w'.setCell ⟨g, i, none⟩ u) :=
  h.setCell (p := ⟨g, i, none⟩) (fun _ => rfl) u
theorem st_pp {a : Act} {w : World} {M t u : Nat} {o : Oper} {p0 p : Pp} (q : o.op = .store 43 (.tmp t) (.tmp u)) (hb : Bk w M 43 (ppV p0)) (ha : a.eval (.tmp t) = .pointer (some ⟨M, 0, none⟩)) (hv : a.eval (.tmp u) = .agg (ppV p)) :
    ∃ w', (execOp a.eval o).run Try.prog w = .ok .skip w' ∧ Bk w' M 43 (ppV p) ∧ Touch (fun k => k = M) w w' := by
  have c0 := hb.cell 0
  have f0 := hb.frozen 0
  have c1 := hb.cell 1
  have f1 := hb.frozen 1
  have c2 := hb.cell 2
  have f2 := hb.frozen 2
  have c3 := hb.cell 3
  have f3 := hb.frozen 3
  have c4 := hb.cell 4
  have f4 := hb.frozen 4
  have c5 := hb.cell 5
  have f5 := hb.frozen 5
  have c6 := hb.cell 6
  have f6 := hb.frozen 6
  have c7 := hb.cell 7
  have f7 := hb.frozen 7
  have c8 := hb.cell 8
  have f8 := hb.frozen 8
  simp [ppV] at c0 c1 c2 c3 c4 c5 c6 c7 c8
  have h9 := (((((((((hb.set_ 0 (.bool p.cabac)).set_ 1 (.bool p.weighted)).set_ 2 (.int .i64 p.bipred)).set_ 3 (.int .i64 p.qp)).set_ 4 (.int .i64 p.cqp)).set_ 5 (.bool p.con)).set_ 6 (.bool p.deb)).set_ 7 (.int .i64 p.a0)).set_ 8 (.int .i64 p.a1))
  have e : ((((((((((ppV p0).setIfInBounds 0 (.bool p.cabac)).setIfInBounds 1 (.bool p.weighted)).setIfInBounds 2 (.int .i64 p.bipred)).setIfInBounds 3 (.int .i64 p.qp)).setIfInBounds 4 (.int .i64 p.cqp)).setIfInBounds 5 (.bool p.con)).setIfInBounds 6 (.bool p.deb)).setIfInBounds 7 (.int .i64 p.a0)).setIfInBounds 8 (.int .i64 p.a1)) = ppV p := by simp [ppV]
  rw [e] at h9
  refine ⟨_, ?_, h9, ?_⟩
  · simp only [execOp, q, ha, hv, ppV]
    go_simp
  · exact (((((((((Touch.refl (fun k => k = M) w).put1 0 _).put1 1 _).put1 2 _).put1 3 _).put1 4 _).put1 5 _).put1 6 _).put1 7 _).put1 8 _
theorem pp_put {w : World} {M : Nat} {p0 : Pp} (p : Pp) (hb : Bk w M 43 (ppV p0)) : Bk (((((((((w.setCell ⟨M, 0, none⟩ (.bool p.cabac)).setCell ⟨M, 1, none⟩ (.bool p.weighted)).setCell ⟨M, 2, none⟩ (.int .i64 p.bipred)).setCell ⟨M, 3, none⟩ (.int .i64 p.qp)).setCell ⟨M, 4, none⟩ (.int .i64 p.cqp)).setCell ⟨M, 5, none⟩ (.bool p.con)).setCell ⟨M, 6, none⟩ (.bool p.deb)).setCell ⟨M, 7, none⟩ (.int .i64 p.a0)).setCell ⟨M, 8, none⟩ (.int .i64 p.a1)) M 43 (ppV p) ∧ Touch (fun k => k = M) w (((((((((w.setCell ⟨M, 0, none⟩ (.bool p.cabac)).setCell ⟨M, 1, none⟩ (.bool p.weighted)).setCell ⟨M, 2, none⟩ (.int .i64 p.bipred)).setCell ⟨M, 3, none⟩ (.int .i64 p.qp)).setCell ⟨M, 4, none⟩ (.int .i64 p.cqp)).setCell ⟨M, 5, none⟩ (.bool p.con)).setCell ⟨M, 6, none⟩ (.bool p.deb)).setCell ⟨M, 7, none⟩ (.int .i64 p.a0)).setCell ⟨M, 8, none⟩ (.int .i64 p.a1)) := by
  have h9 := (((((((((hb.set_ 0 (.bool p.cabac)).set_ 1 (.bool p.weighted)).set_ 2 (.int .i64 p.bipred)).set_ 3 (.int .i64 p.qp)).set_ 4 (.int .i64 p.cqp)).set_ 5 (.bool p.con)).set_ 6 (.bool p.deb)).set_ 7 (.int .i64 p.a0)).set_ 8 (.int .i64 p.a1))
  have e : ((((((((((ppV p0).setIfInBounds 0 (.bool p.cabac)).setIfInBounds 1 (.bool p.weighted)).setIfInBounds 2 (.int .i64 p.bipred)).setIfInBounds 3 (.int .i64 p.qp)).setIfInBounds 4 (.int .i64 p.cqp)).setIfInBounds 5 (.bool p.con)).setIfInBounds 6 (.bool p.deb)).setIfInBounds 7 (.int .i64 p.a0)).setIfInBounds 8 (.int .i64 p.a1)) = ppV p := by simp [ppV]
  rw [e] at h9
  exact ⟨h9, (((((((((Touch.refl (fun k => k = M) w).put1 0 _).put1 1 _).put1 2 _).put1 3 _).put1 4 _).put1 5 _).put1 6 _).put1 7 _).put1 8 _⟩

def gpSl (j : Nat) : Option Nat := ([some 10, some 11, some 12, some 13, some 14, some 15, some 16, some 17, some 18, some 19, some 20, some 21, some 22, some 23, some 24, some 25, some 26, some 27, some 28, some 29, some 30, some 31, some 32, some 33, some 34, some 35, some 36, some 37, none, none] : List (Option Nat)).getD j none
def gpVl (s : ByteArray) (h g : Nat) (j : Nat) : Value := ([.pointer (some ⟨h, 0, none⟩), .bool (btX (sbit s) (8 * s.size) 1 ⟨0, false⟩ == 1), .pointer (some ⟨h, 0, none⟩), .bool (btX (sbit s) (8 * s.size) 1 (r1 (sbit s) (8 * s.size)) == 1), .pointer (some ⟨h, 0, none⟩), .pointer (some ⟨h, 0, none⟩), .pointer (some ⟨h, 0, none⟩), .pointer (some ⟨h, 0, none⟩), .pointer (some ⟨g, 0, none⟩), .tuple #[.int .i64 (btX (sbit s) (8 * s.size) 2 (r2 (sbit s) (8 * s.size))), .int .i64 ((bitsR (sbit s) (8 * s.size) (r2 (sbit s) (8 * s.size)).a 2).e : Int)], .int .i64 (btX (sbit s) (8 * s.size) 2 (r2 (sbit s) (8 * s.size))), .int .i64 ((bitsR (sbit s) (8 * s.size) (r2 (sbit s) (8 * s.size)).a 2).e : Int), .int .i64 (btX (sbit s) (8 * s.size) 2 (r2 (sbit s) (8 * s.size))), .pointer (some ⟨h, 0, none⟩), .int .i64 (ueX (sbit s) (8 * s.size) (r3 (sbit s) (8 * s.size))), .pointer (some ⟨h, 0, none⟩), .int .i64 (seX (sbit s) (8 * s.size) (r4 (sbit s) (8 * s.size))), .pointer (some ⟨h, 0, none⟩), .bool (btX (sbit s) (8 * s.size) 1 (r5 (sbit s) (8 * s.size)) == 1), .pointer (some ⟨h, 0, none⟩), .bool (btX (sbit s) (8 * s.size) 1 (r6 (sbit s) (8 * s.size)) == 1), .pointer (some ⟨h, 0, none⟩), .int .i64 (ueX (sbit s) (8 * s.size) (r7 (sbit s) (8 * s.size))), .int .i64 (ueX (sbit s) (8 * s.size) (r7 (sbit s) (8 * s.size)) + 1), .pointer (some ⟨h, 0, none⟩), .int .i64 (ueX (sbit s) (8 * s.size) (r8 (sbit s) (8 * s.size))), .int .i64 (ueX (sbit s) (8 * s.size) (r8 (sbit s) (8 * s.size)) + 1), .agg (ppV (rdPp (sbit s) (8 * s.size))), undef, undef] : List Value).getD j undef
def gpCs : List Nat := [1, 3, 9, 12, 14, 16, 18, 20, 22, 25, 29]
def gpSt (s : ByteArray) (k : Nat) : St := ([⟨0, false⟩, r1 (sbit s) (8 * s.size), r2 (sbit s) (8 * s.size), r2b (sbit s) (8 * s.size), r3 (sbit s) (8 * s.size), r4 (sbit s) (8 * s.size), r5 (sbit s) (8 * s.size), r6 (sbit s) (8 * s.size), r7 (sbit s) (8 * s.size), r8 (sbit s) (8 * s.size), r9 (sbit s) (8 * s.size), r9 (sbit s) (8 * s.size)] : List St).getD k ⟨0, false⟩
def gpW (s : ByteArray) (h g R : Nat) (wz : World) (k : Nat) (al : Bool) (v : Value) (w : World) : Prop :=
  RG w h g s (gpSt s k) ∧ Bk w R 43 (ppV .zero) ∧ Below wz.heap.size wz w ∧ (al = true → ∃ M, v = .pointer (some ⟨M, 0, none⟩) ∧ M ≠ h ∧ M ≠ g ∧ M ≠ R ∧ wz.heap.size ≤ M ∧ Bk w M 43 (if k = 11 then ppV (rdPp (sbit s) (8 * s.size)) else ppV .zero)) ∧ (k = 11 → al = true)
theorem gp_ok : SlotsOk 30 49 5 gpSl [2, 4] := by
  unfold SlotsOk
  decide +kernel
theorem gpW.step {s : ByteArray} {h g R : Nat} {wz : World} {k : Nat} {al : Bool} {v : Value} {w w' : World} (H : gpW s h g R wz k al v w) (hk : k + 1 < 11) (hr : RG w' h g s (gpSt s (k + 1))) (ht : Touch (RGS h g) w w') (hRh : R ≠ h) (hRg : R ≠ g) (hh : wz.heap.size ≤ h) (hg : wz.heap.size ≤ g) : gpW s h g R wz (k + 1) al v w' := by
  obtain ⟨h1, h2, h3, h4, h5⟩ := H
  have hnot : ∀ i, i < wz.heap.size → ¬ RGS h g i := fun i hi q => by rcases q with q | q <;> omega
  refine ⟨hr, h2.touch ht (fun q => by rcases q with q | q; exact hRh q; exact hRg q), Below.touch h3 ht hnot (Nat.le_refl _), fun q => ?_, fun q => by omega⟩
  obtain ⟨M, e, q1, q2, q3, q4, q5⟩ := h4 q
  refine ⟨M, e, q1, q2, q3, q4, ?_⟩
  rw [if_neg (by omega)] at q5 ⊢
  exact q5.touch ht (fun q => by rcases q with q | q; exact q1 q; exact q2 q)
theorem list_succ {α : Type} {l : List α} {n : Nat} (h : l.length = n + 1) : ∃ x t, l = x :: t ∧ t.length = n := by
  cases l with
  | nil => simp at h
  | cons x t => exact ⟨x, t, rfl, by simpa using h⟩
theorem frame_of_49 {l : Array Value} (h : l.size = 49) : ∃ x0 x1 x2 x3 x4 x5 x6 x7 x8 x9 x10 x11 x12 x13 x14 x15 x16 x17 x18 x19 x20 x21 x22 x23 x24 x25 x26 x27 x28 x29 x30 x31 x32 x33 x34 x35 x36 x37 x38 x39 x40 x41 x42 x43 x44 x45 x46 x47 x48 : Value, l = #[x0, x1, x2, x3, x4, x5, x6, x7, x8, x9, x10, x11, x12, x13, x14, x15, x16, x17, x18, x19, x20, x21, x22, x23, x24, x25, x26, x27, x28, x29, x30, x31, x32, x33, x34, x35, x36, x37, x38, x39, x40, x41, x42, x43, x44, x45, x46, x47, x48] := by
  obtain ⟨l0⟩ := l
  have h0 : l0.length = 48 + 1 := h
  obtain ⟨x0, l1, rfl, h1⟩ := list_succ h0
  obtain ⟨x1, l2, rfl, h2⟩ := list_succ h1
  obtain ⟨x2, l3, rfl, h3⟩ := list_succ h2
  obtain ⟨x3, l4, rfl, h4⟩ := list_succ h3
  obtain ⟨x4, l5, rfl, h5⟩ := list_succ h4
  obtain ⟨x5, l6, rfl, h6⟩ := list_succ h5
  obtain ⟨x6, l7, rfl, h7⟩ := list_succ h6
  obtain ⟨x7, l8, rfl, h8⟩ := list_succ h7
  obtain ⟨x8, l9, rfl, h9⟩ := list_succ h8
  obtain ⟨x9, l10, rfl, h10⟩ := list_succ h9
  obtain ⟨x10, l11, rfl, h11⟩ := list_succ h10
  obtain ⟨x11, l12, rfl, h12⟩ := list_succ h11
  obtain ⟨x12, l13, rfl, h13⟩ := list_succ h12
  obtain ⟨x13, l14, rfl, h14⟩ := list_succ h13
  obtain ⟨x14, l15, rfl, h15⟩ := list_succ h14
  obtain ⟨x15, l16, rfl, h16⟩ := list_succ h15
  obtain ⟨x16, l17, rfl, h17⟩ := list_succ h16
  obtain ⟨x17, l18, rfl, h18⟩ := list_succ h17
  obtain ⟨x18, l19, rfl, h19⟩ := list_succ h18
  obtain ⟨x19, l20, rfl, h20⟩ := list_succ h19
  obtain ⟨x20, l21, rfl, h21⟩ := list_succ h20
  obtain ⟨x21, l22, rfl, h22⟩ := list_succ h21
  obtain ⟨x22, l23, rfl, h23⟩ := list_succ h22
  obtain ⟨x23, l24, rfl, h24⟩ := list_succ h23
  obtain ⟨x24, l25, rfl, h25⟩ := list_succ h24
  obtain ⟨x25, l26, rfl, h26⟩ := list_succ h25
  obtain ⟨x26, l27, rfl, h27⟩ := list_succ h26
  obtain ⟨x27, l28, rfl, h28⟩ := list_succ h27
  obtain ⟨x28, l29, rfl, h29⟩ := list_succ h28
  obtain ⟨x29, l30, rfl, h30⟩ := list_succ h29
  obtain ⟨x30, l31, rfl, h31⟩ := list_succ h30
  obtain ⟨x31, l32, rfl, h32⟩ := list_succ h31
  obtain ⟨x32, l33, rfl, h33⟩ := list_succ h32
  obtain ⟨x33, l34, rfl, h34⟩ := list_succ h33
  obtain ⟨x34, l35, rfl, h35⟩ := list_succ h34
  obtain ⟨x35, l36, rfl, h36⟩ := list_succ h35
  obtain ⟨x36, l37, rfl, h37⟩ := list_succ h36
  obtain ⟨x37, l38, rfl, h38⟩ := list_succ h37
  obtain ⟨x38, l39, rfl, h39⟩ := list_succ h38
  obtain ⟨x39, l40, rfl, h40⟩ := list_succ h39
  obtain ⟨x40, l41, rfl, h41⟩ := list_succ h40
  obtain ⟨x41, l42, rfl, h42⟩ := list_succ h41
  obtain ⟨x42, l43, rfl, h43⟩ := list_succ h42
  obtain ⟨x43, l44, rfl, h44⟩ := list_succ h43
  obtain ⟨x44, l45, rfl, h45⟩ := list_succ h44
  obtain ⟨x45, l46, rfl, h46⟩ := list_succ h45
  obtain ⟨x46, l47, rfl, h47⟩ := list_succ h46
  obtain ⟨x47, l48, rfl, h48⟩ := list_succ h47
  obtain ⟨x48, l49, rfl, h49⟩ := list_succ h48
  obtain rfl : l49 = [] := List.eq_nil_of_length_eq_zero h49
  exact ⟨_, _, _, _, _, _, _, _, _, _, _, _, _, _, _, _, _, _, _, _, _, _, _, _, _, _, _, _, _, _, _, _, _, _, _, _, _, _, _, _, _, _, _, _, _, _, _, _, _, rfl⟩

set_option maxRecDepth 100000 in
set_option maxHeartbeats 6400000 in
theorem getpp_any (s : ByteArray) (w : World) (hs : s.size ≤ 140737488351232) :
    Calls Try.prog 24 #[.string s] w fun e w' => e = .returned (.tuple #[.agg (ppV (getPp (sbit s) (8 * s.size)).1), .int .i64 (getPp (sbit s) (8 * s.size)).2]) ∧ Below w.heap.size w w' := by
  obtain ⟨VV, hVV⟩ : ∃ V, V = getPp (sbit s) (8 * s.size) := ⟨_, rfl⟩
  rw [← hVV]
  have HVV := Lib.hid hVV
  clear hVV
  have hle := r_le (sbit s) (8 * s.size)
  have HLE := Lib.hid hle
  have hR0 := Bk.new w 43 (ppV .zero)
  have hb0 := (Below.refl w.heap.size w).alloc (Nat.le_refl _) (.cells (ppV .zero) 43)
  have HR0 := Lib.hid hR0
  have HB0 := Lib.hid hb0
  clear hR0 hb0 hle
  go_enter Try.func24, Try.ntmps24
  go_wp2_with fail
  refine (st_open s _).mono ?_
  rintro e w1 ⟨rfl, hr⟩
  have hR1 := HR0.out.go hr.2.2
  have hb1 := HB0.out.trans (hr.2.2.mono HB0.out.size)
  have hgz := hr.1.lt
  have hR2 := hR1.alloc (.cells #[.pointer (some ⟨w.heap.size + 1, 0, none⟩), .bool false] 69)
  have hb2 := hb1.alloc hb1.size (.cells #[.pointer (some ⟨w.heap.size + 1, 0, none⟩), .bool false] 69)
  have hh2 := Bk.new w1 69 #[.pointer (some ⟨w.heap.size + 1, 0, none⟩), .bool false]
  have hg2 : Rr _ _ s 0 := Bk.alloc hr.1 (.cells #[.pointer (some ⟨w.heap.size + 1, 0, none⟩), .bool false] 69)
  rw [World.size_alloc] at hgz hg2
  obtain ⟨h, hH⟩ : ∃ h, h = w1.heap.size := ⟨_, rfl⟩
  obtain ⟨g, hG⟩ : ∃ g, g = w.heap.size + 1 := ⟨_, rfl⟩
  obtain ⟨R, hR⟩ : ∃ R, R = w.heap.size := ⟨_, rfl⟩
  have hgh : g < h := by omega
  have hRg : R < g := by omega
  have hgB : w.heap.size ≤ g := by omega
  have hhB : w.heap.size ≤ h := by omega
  have hRB : w.heap.size ≤ R := by omega
  have HR := Lib.hid hR2
  have HB := Lib.hid hb2
  have HH := Lib.hid hh2
  have HG := Lib.hid hg2
  clear hr hR1 hb1 hR2 hb2 hh2 hg2 hgz HR0 HB0
  go_wp2_with fail
  rw [← hG, ← hR, ← hH]
  rw [← hG] at HG HH HR HB
  rw [← hR] at HR
  rw [← hH] at HH
  generalize w1.alloc (.cells #[.pointer (some ⟨g, 0, none⟩), .bool false] 69) = w2 at HR HB HH HG ⊢
  have HEQ := Lib.hid (And.intro hH (And.intro hG hR))
  clear hH hG hR
  have hRG : RG w2 h g s ⟨0, false⟩ := ⟨HH.out, HG.out⟩
  refine wp_region_inv (by kernel_rfl) (CInv 30 49 gpCs 28 5 gpSl (gpVl s h g) [(2, .pointer (some ⟨R, 0, none⟩)), (4, .pointer (some ⟨h, 0, none⟩))] (gpW s h g R w)) (down_of (by kernel_rfl)) ?_ ?_ ?_
  · refine ⟨rfl, by simp, ?_, fun j hj d hd hl => ?_, ?_, ?_⟩
    · intro p hp
      simp at hp
      rcases hp with rfl | rfl <;> rfl
    · rw [getD_replicate_false] at hl; cases hl
    · intro j hj i hi hij hl
      rw [getD_replicate_false] at hl; cases hl
    · have e0 : stg gpCs (Array.replicate 30 false) = 0 := by decide +kernel
      rw [getD_replicate_false]
      show gpW s h g R w (stg gpCs (Array.replicate 30 false)) false _ _
      rw [e0]
      exact ⟨⟨HH.out.drew, HG.out⟩, HR.out.drew, HB.out.drew, (fun q => by cases q), fun q => by omega⟩
  · intro L a wi i o ho hsz hu hd hI
    have hi : i < 30 := (Array.getElem?_eq_some_iff.1 ho).1
    have hL : L.size = 30 := hsz
    have hnu : L.getD i false = false := getD_both hu
    have hcase : i = 0 ∨ i = 1 ∨ i = 2 ∨ i = 3 ∨ i = 4 ∨ i = 5 ∨ i = 6 ∨ i = 7 ∨ i = 8 ∨ i = 9 ∨ i = 10 ∨ i = 11 ∨ i = 12 ∨ i = 13 ∨ i = 14 ∨ i = 15 ∨ i = 16 ∨ i = 17 ∨ i = 18 ∨ i = 19 ∨ i = 20 ∨ i = 21 ∨ i = 22 ∨ i = 23 ∨ i = 24 ∨ i = 25 ∨ i = 26 ∨ i = 27 ∨ i = 28 ∨ i = 29 := by omega
    have ho2 := ho
    have f4 : a.eval (.tmp 4) = .pointer (some ⟨h, 0, none⟩) := hI.2.2.1 (4, _) (by simp)
    have hV := hI.2.2.2.1
    have hcl := hI.2.2.2.2.1
    rcases hcase with rfl | rfl | rfl | rfl | rfl | rfl | rfl | rfl | rfl | rfl | rfl | rfl | rfl | rfl | rfl | rfl | rfl | rfl | rfl | rfl | rfl | rfl | rfl | rfl | rfl | rfl | rfl | rfl | rfl | rfl
    · simp at ho2
      subst ho2
      exact op_run ho rfl (v := .pointer (some ⟨h, 0, none⟩)) (by simp only [execOp, f4]; rfl) (hI.val gp_ok hL (by omega) rfl rfl (by omega) (by simp [gpCs]))
    · simp at ho2
      subst ho2
      have hpr : ∀ j ∈ gpCs, j < 1 → L.getD j false = true := (fun j hj hlt => by simp [gpCs] at hj; omega)
      have hnow := hI.now (i := 1) (by simp [gpCs]) hnu hpr (k := 0) (by decide)
      have he := (hV 0 (by omega) 10 rfl (hd ⟨0, .data⟩ (by simp) rfl))
      refine op_call ho rfl (f := 55) (args := #[.pointer (some ⟨h, 0, none⟩)]) (v := gpVl s h g 1) (en_bit rfl he) ?_
      refine (rg_bit hnow.1 hs (Nat.zero_le _)).mono ?_
      rintro e w' ⟨rfl, hq, ht⟩
      exact ⟨rfl, hI.call gp_ok hL (by omega) rfl rfl (by omega) (by simp [gpCs]) hnu hpr (k := 1) (by decide) (hnow.step (by omega) hq ht (by omega) (by omega) hhB hgB)⟩
    · simp at ho2
      subst ho2
      exact op_run ho rfl (v := .pointer (some ⟨h, 0, none⟩)) (by simp only [execOp, f4]; rfl) (hI.val gp_ok hL (by omega) rfl rfl (by omega) (by simp [gpCs]))
    · simp at ho2
      subst ho2
      have hpr : ∀ j ∈ gpCs, j < 3 → L.getD j false = true := (fun j hj hlt => by
        have hp := hd ⟨1, .chain⟩ (by simp) rfl
        simp [gpCs] at hj
        by_cases hjp : j = 1
        · subst hjp; exact hp
        · exact hcl 1 (by simp [gpCs]) j (by simp [gpCs]; omega) (by omega) hp)
      have hnow := hI.now (i := 3) (by simp [gpCs]) hnu hpr (k := 1) (by decide)
      have he := (hV 2 (by omega) 12 rfl (hd ⟨2, .data⟩ (by simp) rfl))
      refine op_call ho rfl (f := 55) (args := #[.pointer (some ⟨h, 0, none⟩)]) (v := gpVl s h g 3) (en_bit rfl he) ?_
      refine (rg_bit hnow.1 hs (HLE.out.1)).mono ?_
      rintro e w' ⟨rfl, hq, ht⟩
      exact ⟨rfl, hI.call gp_ok hL (by omega) rfl rfl (by omega) (by simp [gpCs]) hnu hpr (k := 2) (by decide) (hnow.step (by omega) hq ht (by omega) (by omega) hhB hgB)⟩
    · simp at ho2
      subst ho2
      exact op_run ho rfl (v := .pointer (some ⟨h, 0, none⟩)) (by simp only [execOp, f4]; rfl) (hI.val gp_ok hL (by omega) rfl rfl (by omega) (by simp [gpCs]))
    · simp at ho2
      subst ho2
      exact op_run ho rfl (v := .pointer (some ⟨h, 0, none⟩)) (by simp only [execOp, f4]; rfl) (hI.val gp_ok hL (by omega) rfl rfl (by omega) (by simp [gpCs]))
    · simp at ho2
      subst ho2
      exact op_run ho rfl (cn_ptr rfl (hV 5 (by omega) 15 rfl (hd ⟨5, .data⟩ (by simp) rfl))) (hI.val gp_ok hL (by omega) rfl rfl (by omega) (by simp [gpCs]))
    · simp at ho2
      subst ho2
      exact op_run ho rfl (fa_rd rfl (hV 6 (by omega) 16 rfl (hd ⟨6, .data⟩ (by simp) rfl))) (hI.val gp_ok hL (by omega) rfl rfl (by omega) (by simp [gpCs]))
    · simp at ho2
      subst ho2
      have hc0 := hI.2.2.2.2.2.1.1.cell 0
      simp at hc0
      exact op_run ho rfl (ld_rd rfl (hV 7 (by omega) 17 rfl (hd ⟨7, .data⟩ (by simp) rfl)) hc0) (hI.val gp_ok hL (by omega) rfl rfl (by omega) (by simp [gpCs]))
    · simp at ho2
      subst ho2
      have hpr : ∀ j ∈ gpCs, j < 9 → L.getD j false = true := (fun j hj hlt => by
        have hp := hd ⟨3, .chain⟩ (by simp) rfl
        simp [gpCs] at hj
        by_cases hjp : j = 3
        · subst hjp; exact hp
        · exact hcl 3 (by simp [gpCs]) j (by simp [gpCs]; omega) (by omega) hp)
      have hnow := hI.now (i := 9) (by simp [gpCs]) hnu hpr (k := 2) (by decide)
      have he := (hV 8 (by omega) 18 rfl (hd ⟨8, .data⟩ (by simp) rfl))
      refine op_call ho rfl (f := 57) (args := #[.pointer (some ⟨g, 0, none⟩), .int .i64 2]) (v := gpVl s h g 9) (en_two rfl he) ?_
      refine (rbits_any g s _ 2 _ hnow.1.2 hs (HLE.out.2.1)).mono ?_
      rintro e w' ⟨rfl, hq⟩
      have hrd := hnow.1.rd hq
      exact ⟨rfl, hI.call gp_ok hL (by omega) rfl rfl (by omega) (by simp [gpCs]) hnu hpr (k := 3) (by decide) (hnow.step (by omega) hrd.1 hrd.2 (by omega) (by omega) hhB hgB)⟩
    · simp at ho2
      subst ho2
      exact op_run ho rfl (ex_0 rfl (hV 9 (by omega) 19 rfl (hd ⟨9, .data⟩ (by simp) rfl))) (hI.val gp_ok hL (by omega) rfl rfl (by omega) (by simp [gpCs]))
    · simp at ho2
      subst ho2
      exact op_run ho rfl (ex_1 rfl (hV 9 (by omega) 19 rfl (hd ⟨9, .data⟩ (by simp) rfl))) (hI.val gp_ok hL (by omega) rfl rfl (by omega) (by simp [gpCs]))
    · simp at ho2
      subst ho2
      have hpr : ∀ j ∈ gpCs, j < 12 → L.getD j false = true := (fun j hj hlt => by
        have hp := hd ⟨9, .chain⟩ (by simp) rfl
        simp [gpCs] at hj
        by_cases hjp : j = 9
        · subst hjp; exact hp
        · exact hcl 9 (by simp [gpCs]) j (by simp [gpCs]; omega) (by omega) hp)
      have hnow := hI.now (i := 12) (by simp [gpCs]) hnu hpr (k := 3) (by decide)
      have he0 := (hV 4 (by omega) 14 rfl (hd ⟨4, .data⟩ (by simp) rfl))
      have he1 := (hV 10 (by omega) 20 rfl (hd ⟨10, .data⟩ (by simp) rfl))
      have he2 := (hV 11 (by omega) 21 rfl (hd ⟨11, .data⟩ (by simp) rfl))
      refine op_call ho rfl (f := 56) (args := #[.pointer (some ⟨h, 0, none⟩), .int .i64 (btX (sbit s) (8 * s.size) 2 (r2 (sbit s) (8 * s.size))), .int .i64 ((bitsR (sbit s) (8 * s.size) (r2 (sbit s) (8 * s.size)).a 2).e : Int)]) (v := gpVl s h g 12) (en_three rfl he0 he1 he2) ?_
      refine (got_any _ h g s _ _ _ hnow.1).mono ?_
      rintro e w' ⟨rfl, hq, ht⟩
      exact ⟨rfl, hI.call gp_ok hL (by omega) rfl rfl (by omega) (by simp [gpCs]) hnu hpr (k := 4) (by decide) (hnow.step (by omega) hq ht (by omega) (by omega) hhB hgB)⟩
    · simp at ho2
      subst ho2
      exact op_run ho rfl (v := .pointer (some ⟨h, 0, none⟩)) (by simp only [execOp, f4]; rfl) (hI.val gp_ok hL (by omega) rfl rfl (by omega) (by simp [gpCs]))
    · simp at ho2
      subst ho2
      have hpr : ∀ j ∈ gpCs, j < 14 → L.getD j false = true := (fun j hj hlt => by
        have hp := hd ⟨12, .chain⟩ (by simp) rfl
        simp [gpCs] at hj
        by_cases hjp : j = 12
        · subst hjp; exact hp
        · exact hcl 12 (by simp [gpCs]) j (by simp [gpCs]; omega) (by omega) hp)
      have hnow := hI.now (i := 14) (by simp [gpCs]) hnu hpr (k := 4) (by decide)
      have he := (hV 13 (by omega) 23 rfl (hd ⟨13, .data⟩ (by simp) rfl))
      refine op_call ho rfl (f := 39) (args := #[.pointer (some ⟨h, 0, none⟩)]) (v := gpVl s h g 14) (en_ue rfl he) ?_
      refine (rg_ue hnow.1 hs (HLE.out.2.2.2.1)).mono ?_
      rintro e w' ⟨rfl, hq, ht⟩
      exact ⟨rfl, hI.call gp_ok hL (by omega) rfl rfl (by omega) (by simp [gpCs]) hnu hpr (k := 5) (by decide) (hnow.step (by omega) hq ht (by omega) (by omega) hhB hgB)⟩
    · simp at ho2
      subst ho2
      exact op_run ho rfl (v := .pointer (some ⟨h, 0, none⟩)) (by simp only [execOp, f4]; rfl) (hI.val gp_ok hL (by omega) rfl rfl (by omega) (by simp [gpCs]))
    · simp at ho2
      subst ho2
      have hpr : ∀ j ∈ gpCs, j < 16 → L.getD j false = true := (fun j hj hlt => by
        have hp := hd ⟨14, .chain⟩ (by simp) rfl
        simp [gpCs] at hj
        by_cases hjp : j = 14
        · subst hjp; exact hp
        · exact hcl 14 (by simp [gpCs]) j (by simp [gpCs]; omega) (by omega) hp)
      have hnow := hI.now (i := 16) (by simp [gpCs]) hnu hpr (k := 5) (by decide)
      have he := (hV 15 (by omega) 25 rfl (hd ⟨15, .data⟩ (by simp) rfl))
      refine op_call ho rfl (f := 40) (args := #[.pointer (some ⟨h, 0, none⟩)]) (v := gpVl s h g 16) (en_se rfl he) ?_
      refine (rg_se hnow.1 hs (HLE.out.2.2.2.2.1)).mono ?_
      rintro e w' ⟨rfl, hq, ht⟩
      exact ⟨rfl, hI.call gp_ok hL (by omega) rfl rfl (by omega) (by simp [gpCs]) hnu hpr (k := 6) (by decide) (hnow.step (by omega) hq ht (by omega) (by omega) hhB hgB)⟩
    · simp at ho2
      subst ho2
      exact op_run ho rfl (v := .pointer (some ⟨h, 0, none⟩)) (by simp only [execOp, f4]; rfl) (hI.val gp_ok hL (by omega) rfl rfl (by omega) (by simp [gpCs]))
    · simp at ho2
      subst ho2
      have hpr : ∀ j ∈ gpCs, j < 18 → L.getD j false = true := (fun j hj hlt => by
        have hp := hd ⟨16, .chain⟩ (by simp) rfl
        simp [gpCs] at hj
        by_cases hjp : j = 16
        · subst hjp; exact hp
        · exact hcl 16 (by simp [gpCs]) j (by simp [gpCs]; omega) (by omega) hp)
      have hnow := hI.now (i := 18) (by simp [gpCs]) hnu hpr (k := 6) (by decide)
      have he := (hV 17 (by omega) 27 rfl (hd ⟨17, .data⟩ (by simp) rfl))
      refine op_call ho rfl (f := 55) (args := #[.pointer (some ⟨h, 0, none⟩)]) (v := gpVl s h g 18) (en_bit rfl he) ?_
      refine (rg_bit hnow.1 hs (HLE.out.2.2.2.2.2.1)).mono ?_
      rintro e w' ⟨rfl, hq, ht⟩
      exact ⟨rfl, hI.call gp_ok hL (by omega) rfl rfl (by omega) (by simp [gpCs]) hnu hpr (k := 7) (by decide) (hnow.step (by omega) hq ht (by omega) (by omega) hhB hgB)⟩
    · simp at ho2
      subst ho2
      exact op_run ho rfl (v := .pointer (some ⟨h, 0, none⟩)) (by simp only [execOp, f4]; rfl) (hI.val gp_ok hL (by omega) rfl rfl (by omega) (by simp [gpCs]))
    · simp at ho2
      subst ho2
      have hpr : ∀ j ∈ gpCs, j < 20 → L.getD j false = true := (fun j hj hlt => by
        have hp := hd ⟨18, .chain⟩ (by simp) rfl
        simp [gpCs] at hj
        by_cases hjp : j = 18
        · subst hjp; exact hp
        · exact hcl 18 (by simp [gpCs]) j (by simp [gpCs]; omega) (by omega) hp)
      have hnow := hI.now (i := 20) (by simp [gpCs]) hnu hpr (k := 7) (by decide)
      have he := (hV 19 (by omega) 29 rfl (hd ⟨19, .data⟩ (by simp) rfl))
      refine op_call ho rfl (f := 55) (args := #[.pointer (some ⟨h, 0, none⟩)]) (v := gpVl s h g 20) (en_bit rfl he) ?_
      refine (rg_bit hnow.1 hs (HLE.out.2.2.2.2.2.2.1)).mono ?_
      rintro e w' ⟨rfl, hq, ht⟩
      exact ⟨rfl, hI.call gp_ok hL (by omega) rfl rfl (by omega) (by simp [gpCs]) hnu hpr (k := 8) (by decide) (hnow.step (by omega) hq ht (by omega) (by omega) hhB hgB)⟩
    · simp at ho2
      subst ho2
      exact op_run ho rfl (v := .pointer (some ⟨h, 0, none⟩)) (by simp only [execOp, f4]; rfl) (hI.val gp_ok hL (by omega) rfl rfl (by omega) (by simp [gpCs]))
    · simp at ho2
      subst ho2
      have hpr : ∀ j ∈ gpCs, j < 22 → L.getD j false = true := (fun j hj hlt => by
        have hp := hd ⟨20, .chain⟩ (by simp) rfl
        simp [gpCs] at hj
        by_cases hjp : j = 20
        · subst hjp; exact hp
        · exact hcl 20 (by simp [gpCs]) j (by simp [gpCs]; omega) (by omega) hp)
      have hnow := hI.now (i := 22) (by simp [gpCs]) hnu hpr (k := 8) (by decide)
      have he := (hV 21 (by omega) 31 rfl (hd ⟨21, .data⟩ (by simp) rfl))
      refine op_call ho rfl (f := 39) (args := #[.pointer (some ⟨h, 0, none⟩)]) (v := gpVl s h g 22) (en_ue rfl he) ?_
      refine (rg_ue hnow.1 hs (HLE.out.2.2.2.2.2.2.2.1)).mono ?_
      rintro e w' ⟨rfl, hq, ht⟩
      exact ⟨rfl, hI.call gp_ok hL (by omega) rfl rfl (by omega) (by simp [gpCs]) hnu hpr (k := 9) (by decide) (hnow.step (by omega) hq ht (by omega) (by omega) hhB hgB)⟩
    · simp at ho2
      subst ho2
      have hbd := ueR_bd (sbit s) (8 * s.size) (r7 (sbit s) (8 * s.size)).a (HLE.out.2.2.2.2.2.2.2.1)
      exact op_run ho rfl (ad_one rfl (hV 22 (by omega) 32 rfl (hd ⟨22, .data⟩ (by simp) rfl)) (by show 0 ≤ (ueR _ _ _).x; omega) (by show (ueR _ _ _).x ≤ _; omega)) (hI.val gp_ok hL (by omega) rfl rfl (by omega) (by simp [gpCs]))
    · simp at ho2
      subst ho2
      exact op_run ho rfl (v := .pointer (some ⟨h, 0, none⟩)) (by simp only [execOp, f4]; rfl) (hI.val gp_ok hL (by omega) rfl rfl (by omega) (by simp [gpCs]))
    · simp at ho2
      subst ho2
      have hpr : ∀ j ∈ gpCs, j < 25 → L.getD j false = true := (fun j hj hlt => by
        have hp := hd ⟨22, .chain⟩ (by simp) rfl
        simp [gpCs] at hj
        by_cases hjp : j = 22
        · subst hjp; exact hp
        · exact hcl 22 (by simp [gpCs]) j (by simp [gpCs]; omega) (by omega) hp)
      have hnow := hI.now (i := 25) (by simp [gpCs]) hnu hpr (k := 9) (by decide)
      have he := (hV 24 (by omega) 34 rfl (hd ⟨24, .data⟩ (by simp) rfl))
      refine op_call ho rfl (f := 39) (args := #[.pointer (some ⟨h, 0, none⟩)]) (v := gpVl s h g 25) (en_ue rfl he) ?_
      refine (rg_ue hnow.1 hs (HLE.out.2.2.2.2.2.2.2.2.1)).mono ?_
      rintro e w' ⟨rfl, hq, ht⟩
      exact ⟨rfl, hI.call gp_ok hL (by omega) rfl rfl (by omega) (by simp [gpCs]) hnu hpr (k := 10) (by decide) (hnow.step (by omega) hq ht (by omega) (by omega) hhB hgB)⟩
    · simp at ho2
      subst ho2
      have hbd := ueR_bd (sbit s) (8 * s.size) (r8 (sbit s) (8 * s.size)).a (HLE.out.2.2.2.2.2.2.2.2.1)
      exact op_run ho rfl (ad_one rfl (hV 25 (by omega) 35 rfl (hd ⟨25, .data⟩ (by simp) rfl)) (by show 0 ≤ (ueR _ _ _).x; omega) (by show (ueR _ _ _).x ≤ _; omega)) (hI.val gp_ok hL (by omega) rfl rfl (by omega) (by simp [gpCs]))
    · simp at ho2
      subst ho2
      exact op_run ho rfl (bl_pp rfl (hV 1 (by omega) 11 rfl (hd ⟨1, .data⟩ (by simp) rfl)) (hV 3 (by omega) 13 rfl (hd ⟨3, .data⟩ (by simp) rfl)) (hV 12 (by omega) 22 rfl (hd ⟨12, .data⟩ (by simp) rfl)) (hV 14 (by omega) 24 rfl (hd ⟨14, .data⟩ (by simp) rfl)) (hV 16 (by omega) 26 rfl (hd ⟨16, .data⟩ (by simp) rfl)) (hV 18 (by omega) 28 rfl (hd ⟨18, .data⟩ (by simp) rfl)) (hV 20 (by omega) 30 rfl (hd ⟨20, .data⟩ (by simp) rfl)) (hV 23 (by omega) 33 rfl (hd ⟨23, .data⟩ (by simp) rfl)) (hV 26 (by omega) 36 rfl (hd ⟨26, .data⟩ (by simp) rfl))) (hI.val gp_ok hL (by omega) rfl rfl (by omega) (by simp [gpCs]))
    · simp at ho2
      subst ho2
      have hW := hI.2.2.2.2.2
      refine op_run ho rfl (v := .pointer (some ⟨wi.heap.size, 0, none⟩)) (w' := wi.alloc (.cells (ppV .zero) 43)) (al_pp rfl) (hI.alloc_ gp_ok hL (by omega) rfl (by simp [gpCs]) ?_)
      obtain ⟨q1, q2, q3, q4, q5⟩ := hW
      have hk : stg gpCs L ≠ 11 := fun q => by
        have h28 := q5 q
        rw [hnu] at h28
        cases h28
      have hl1 := q1.1.lt
      have hl2 := Bk.lt q1.2
      have hl3 := q2.lt
      refine ⟨⟨q1.1.alloc _, Bk.alloc q1.2 _⟩, q2.alloc _, q3.alloc q3.size _, fun _ => ⟨wi.heap.size, rfl, by omega, by omega, by omega, q3.size, ?_⟩, fun q => absurd q hk⟩
      rw [if_neg hk]
      exact Bk.new wi _ _
    · simp at ho2
      subst ho2
      have hpr : ∀ j ∈ gpCs, j < 29 → L.getD j false = true := (fun j hj hlt => by
        have hp := hd ⟨25, .chain⟩ (by simp) rfl
        simp [gpCs] at hj
        by_cases hjp : j = 25
        · subst hjp; exact hp
        · exact hcl 25 (by simp [gpCs]) j (by simp [gpCs]; omega) (by omega) hp)
      have hnow := hI.now (i := 29) (by simp [gpCs]) hnu hpr (k := 10) (by decide)
      have he1 := (hV 27 (by omega) 37 rfl (hd ⟨27, .data⟩ (by simp) rfl))
      obtain ⟨q1, q2, q3, q4, q5⟩ := hnow
      obtain ⟨M, hm1, hm2, hm3, hm4, hm5, hm6⟩ := q4 (hd ⟨28, .data⟩ (by simp) rfl)
      rw [if_neg (by omega)] at hm6
      obtain ⟨w', hrun, hbk, htc⟩ := st_pp (p := rdPp (sbit s) (8 * s.size)) (o := { dst := none, op := Op.store 43 (Operand.tmp 5) (Operand.tmp 37), type := _, pos := _, after := _, guard := none }) rfl hm6 hm1 he1
      refine op_skip ho rfl hrun ?_
      refine hI.store hL (by omega) rfl (by omega) (by simp [gpCs]) hnu hpr (k := 11) (by decide) ?_
      refine ⟨⟨q1.1.touch htc (fun q => hm2 q.symm), Bk.touch q1.2 htc (fun q => hm3 q.symm)⟩, q2.touch htc (fun q => hm4 q.symm), Below.touch q3 htc (fun i hi q => by omega) (Nat.le_refl _), fun _ => ⟨M, hm1, hm2, hm3, hm4, hm5, ?_⟩, fun _ => hd ⟨28, .data⟩ (by simp) rfl⟩
      rw [if_pos rfl]
      exact hbk
  · intro L a wi hsz hl hI
    have hall : ∀ i, i < 30 → L.getD i false = true := fun i hi => by
      have h1 := hl i hi
      have h2 : i < L.size := by rw [hsz]; exact hi
      simp [h2] at h1 ⊢
      exact h1
    have hst : stg gpCs L = 11 := by
      unfold stg
      rw [List.filter_eq_self.2 (fun c hc => hall c (by simp [gpCs] at hc; omega))]
      rfl
    obtain ⟨i0, i1, i2, i3, i4, i5⟩ := hI
    rw [hst, hall 28 (by omega)] at i5
    obtain ⟨q1, q2, q3, q4, q5⟩ := i5
    obtain ⟨M, hm1, hm2, hm3, hm4, hm5, hm6⟩ := q4 rfl
    rw [if_pos rfl] at hm6
    have e2 : a.eval (.tmp 2) = .pointer (some ⟨R, 0, none⟩) := i2 (2, .pointer (some ⟨R, 0, none⟩)) (by simp)
    have e4 : a.eval (.tmp 4) = .pointer (some ⟨h, 0, none⟩) := i2 (4, .pointer (some ⟨h, 0, none⟩)) (by simp)
    obtain ⟨tm, df⟩ := a
    simp only at i0 i1
    subst i0
    obtain ⟨x0, x1, x2, x3, x4, x5, x6, x7, x8, x9, x10, x11, x12, x13, x14, x15, x16, x17, x18, x19, x20, x21, x22, x23, x24, x25, x26, x27, x28, x29, x30, x31, x32, x33, x34, x35, x36, x37, x38, x39, x40, x41, x42, x43, x44, x45, x46, x47, x48, rfl⟩ := frame_of_49 i1
    simp [Act.eval] at e2 e4 hm1
    subst e2 e4 hm1
    clear i1 i2 i3 i4 hst hall hl hsz q4 q5
    dsimp only
    have hle9 := HLE.out.2.2.2.2.2.2.2.2.2
    have HM := Lib.hid hm6
    have HR2 := Lib.hid q2
    have HBW := Lib.hid q3
    have hov := rg_over q1 hs hle9
    have HOV := Lib.hid hov
    have HNE := Lib.hid (And.intro hm2 (And.intro hm3 (And.intro hm4 hm5)))
    clear hov q1 q2 q3 hm6 HR HB HH HG hRG
    go_wp2_with fail
    refine HOV.out.mono ?_
    rintro e w3 ⟨rfl, ht⟩
    have hR3 := HR2.out.touch ht (fun q => by rcases q with q | q <;> omega)
    have hM3 := HM.out.touch ht (fun q => by rcases q with q | q; exact HNE.out.1 q; exact HNE.out.2.1 q)
    have hB3 := Below.touch HBW.out ht (fun i hi q => by rcases q with q | q <;> omega) (Nat.le_refl _)
    have HB3 := Lib.hid hB3
    have HR3 := Lib.hid hR3
    have HM3 := Lib.hid hM3
    obtain ⟨b, hb⟩ : ∃ b, (!(gpSt s 11).bad && ((trailR (sbit s) (8 * s.size) (gpSt s 11).a).1 : Int) == 0) = b := ⟨_, rfl⟩
    rw [hb]
    have HBB := Lib.hid hb
    have hlr := hR3.lt
    clear ht hR3 hM3 hB3 hb HM HR2 HBW HOV
    cases b
    · have hg : getPp (sbit s) (8 * s.size) = (.zero, 300) := by
        have h1 := HBB.out
        unfold getPp
        refine if_pos ?_
        change (!(r9 (sbit s) (8 * s.size)).bad && ((trailR (sbit s) (8 * s.size) (r9 (sbit s) (8 * s.size)).a).1 : Int) == 0) = false at h1
        cases hbad : (r9 (sbit s) (8 * s.size)).bad
        · right
          rw [hbad] at h1
          intro q
          rw [q] at h1
          cases h1
        · exact .inl rfl
      have HG := Lib.hid (HVV.out.trans hg)
      have c0 := HR3.out.cell 0
      have f0 := HR3.out.frozen 0
      have c1 := HR3.out.cell 1
      have f1 := HR3.out.frozen 1
      have c2 := HR3.out.cell 2
      have f2 := HR3.out.frozen 2
      have c3 := HR3.out.cell 3
      have f3 := HR3.out.frozen 3
      have c4 := HR3.out.cell 4
      have f4 := HR3.out.frozen 4
      have c5 := HR3.out.cell 5
      have f5 := HR3.out.frozen 5
      have c6 := HR3.out.cell 6
      have f6 := HR3.out.frozen 6
      have c7 := HR3.out.cell 7
      have f7 := HR3.out.frozen 7
      have c8 := HR3.out.cell 8
      have f8 := HR3.out.frozen 8
      simp [ppV, Pp.zero] at c0 c1 c2 c3 c4 c5 c6 c7 c8
      clear hg
      go_wp2_with fail
      have hq := pp_put .zero HR3.out
      simp only [Pp.zero] at hq
      generalize (((((((((w3.setCell ⟨R, 0, none⟩ (.bool false)).setCell ⟨R, 1, none⟩ (.bool false)).setCell ⟨R, 2, none⟩ (.int .i64 0)).setCell ⟨R, 3, none⟩ (.int .i64 0)).setCell ⟨R, 4, none⟩ (.int .i64 0)).setCell ⟨R, 5, none⟩ (.bool false)).setCell ⟨R, 6, none⟩ (.bool false)).setCell ⟨R, 7, none⟩ (.int .i64 0)).setCell ⟨R, 8, none⟩ (.int .i64 0)) = w9 at hq ⊢
      have hb9 := Below.touch HB3.out hq.2 (fun i hi q => by omega) (Nat.le_refl _)
      have HB9 := Lib.hid hb9
      have d0 := hq.1.cell 0
      have d1 := hq.1.cell 1
      have d2 := hq.1.cell 2
      have d3 := hq.1.cell 3
      have d4 := hq.1.cell 4
      have d5 := hq.1.cell 5
      have d6 := hq.1.cell 6
      have d7 := hq.1.cell 7
      have d8 := hq.1.cell 8
      simp [ppV, Pp.zero] at d0 d1 d2 d3 d4 d5 d6 d7 d8
      clear hb9
      exact bodyPost_ret (v := .tuple #[.agg #[.bool false, .bool false, .int .i64 0, .int .i64 0, .int .i64 0, .bool false, .bool false, .int .i64 0, .int .i64 0], .int .i64 300]) (by simp [results, Try.results24, go_sem, d0, d1, d2, d3, d4, d5, d6, d7, d8]) rfl ⟨by rw [HG.out]; rfl, HB9.out⟩
    · obtain ⟨p, hp⟩ : ∃ p, p = rdPp (sbit s) (8 * s.size) := ⟨_, rfl⟩
      rw [← hp] at HM3
      have hg : VV = if mayPp p = true then (p, 0) else (.zero, 301) := by
        rw [HVV.out]
        have h1 := HBB.out
        unfold getPp
        change (!(r9 (sbit s) (8 * s.size)).bad && ((trailR (sbit s) (8 * s.size) (r9 (sbit s) (8 * s.size)).a).1 : Int) == 0) = true at h1
        rw [Bool.and_eq_true, Bool.not_eq_true', beq_iff_eq] at h1
        have hno : ¬ ((r9 (sbit s) (8 * s.size)).bad = true ∨ (trailR (sbit s) (8 * s.size) (r9 (sbit s) (8 * s.size)).a).1 ≠ 0) := by
          rintro (q | q)
          · rw [h1.1] at q; cases q
          · omega
        rw [if_neg hno, hp]
      have HG0 := Lib.hid hg
      clear hg hp HBB
      obtain ⟨cabac, weighted, bipred, qp, cqp, con, deb, a0, a1⟩ := p
      have m0 := HM3.out.cell 0
      have m1 := HM3.out.cell 1
      have m2 := HM3.out.cell 2
      have m3 := HM3.out.cell 3
      have m4 := HM3.out.cell 4
      have m5 := HM3.out.cell 5
      have m6 := HM3.out.cell 6
      have m7 := HM3.out.cell 7
      have m8 := HM3.out.cell 8
      simp [ppV] at m0 m1 m2 m3 m4 m5 m6 m7 m8
      go_wp2_with fail
      refine (maypp_any ⟨cabac, weighted, bipred, qp, cqp, con, deb, a0, a1⟩ _).mono ?_
      rintro e w5 ⟨rfl, hb5⟩
      have HR5 := Lib.hid (HR3.out.go hb5)
      have HM5 := Lib.hid (HM3.out.go hb5)
      have HB5 := Lib.hid (HB3.out.trans (hb5.mono HB3.out.size))
      clear hb5 m0 m1 m2 m3 m4 m5 m6 m7 m8
      have m0 := HM5.out.cell 0
      have c0 := HR5.out.cell 0
      have f0 := HR5.out.frozen 0
      have m1 := HM5.out.cell 1
      have c1 := HR5.out.cell 1
      have f1 := HR5.out.frozen 1
      have m2 := HM5.out.cell 2
      have c2 := HR5.out.cell 2
      have f2 := HR5.out.frozen 2
      have m3 := HM5.out.cell 3
      have c3 := HR5.out.cell 3
      have f3 := HR5.out.frozen 3
      have m4 := HM5.out.cell 4
      have c4 := HR5.out.cell 4
      have f4 := HR5.out.frozen 4
      have m5 := HM5.out.cell 5
      have c5 := HR5.out.cell 5
      have f5 := HR5.out.frozen 5
      have m6 := HM5.out.cell 6
      have c6 := HR5.out.cell 6
      have f6 := HR5.out.frozen 6
      have m7 := HM5.out.cell 7
      have c7 := HR5.out.cell 7
      have f7 := HR5.out.frozen 7
      have m8 := HM5.out.cell 8
      have c8 := HR5.out.cell 8
      have f8 := HR5.out.frozen 8
      simp [ppV, Pp.zero] at m0 m1 m2 m3 m4 m5 m6 m7 m8 c0 c1 c2 c3 c4 c5 c6 c7 c8
      cases hmy : mayPp ⟨cabac, weighted, bipred, qp, cqp, con, deb, a0, a1⟩
      · have hg : VV = (.zero, 301) := by rw [HG0.out, hmy]; rfl
        have HG := Lib.hid hg
        clear hg hmy
        go_wp2_with fail
        have hq := pp_put .zero HR5.out
        simp only [Pp.zero] at hq
        generalize (((((((((w5.setCell ⟨R, 0, none⟩ (.bool false)).setCell ⟨R, 1, none⟩ (.bool false)).setCell ⟨R, 2, none⟩ (.int .i64 0)).setCell ⟨R, 3, none⟩ (.int .i64 0)).setCell ⟨R, 4, none⟩ (.int .i64 0)).setCell ⟨R, 5, none⟩ (.bool false)).setCell ⟨R, 6, none⟩ (.bool false)).setCell ⟨R, 7, none⟩ (.int .i64 0)).setCell ⟨R, 8, none⟩ (.int .i64 0)) = w9 at hq ⊢
        have hb9 := Below.touch HB5.out hq.2 (fun i hi q => by omega) (Nat.le_refl _)
        have HB9 := Lib.hid hb9
        have d0 := hq.1.cell 0
        have d1 := hq.1.cell 1
        have d2 := hq.1.cell 2
        have d3 := hq.1.cell 3
        have d4 := hq.1.cell 4
        have d5 := hq.1.cell 5
        have d6 := hq.1.cell 6
        have d7 := hq.1.cell 7
        have d8 := hq.1.cell 8
        simp [ppV, Pp.zero] at d0 d1 d2 d3 d4 d5 d6 d7 d8
        clear hb9
        exact bodyPost_ret (v := .tuple #[.agg #[.bool false, .bool false, .int .i64 0, .int .i64 0, .int .i64 0, .bool false, .bool false, .int .i64 0, .int .i64 0], .int .i64 301]) (by simp [results, Try.results24, go_sem, d0, d1, d2, d3, d4, d5, d6, d7, d8]) rfl ⟨by rw [HG.out]; rfl, HB9.out⟩
      · have hg : VV = (⟨cabac, weighted, bipred, qp, cqp, con, deb, a0, a1⟩, 0) := by rw [HG0.out, hmy]; rfl
        have HG := Lib.hid hg
        clear hg hmy
        go_wp2_with fail
        have hq := pp_put ⟨cabac, weighted, bipred, qp, cqp, con, deb, a0, a1⟩ HR5.out
        simp only at hq
        generalize (((((((((w5.setCell ⟨R, 0, none⟩ (.bool cabac)).setCell ⟨R, 1, none⟩ (.bool weighted)).setCell ⟨R, 2, none⟩ (.int .i64 bipred)).setCell ⟨R, 3, none⟩ (.int .i64 qp)).setCell ⟨R, 4, none⟩ (.int .i64 cqp)).setCell ⟨R, 5, none⟩ (.bool con)).setCell ⟨R, 6, none⟩ (.bool deb)).setCell ⟨R, 7, none⟩ (.int .i64 a0)).setCell ⟨R, 8, none⟩ (.int .i64 a1)) = w9 at hq ⊢
        have hb9 := Below.touch HB5.out hq.2 (fun i hi q => by omega) (Nat.le_refl _)
        have HB9 := Lib.hid hb9
        have d0 := hq.1.cell 0
        have d1 := hq.1.cell 1
        have d2 := hq.1.cell 2
        have d3 := hq.1.cell 3
        have d4 := hq.1.cell 4
        have d5 := hq.1.cell 5
        have d6 := hq.1.cell 6
        have d7 := hq.1.cell 7
        have d8 := hq.1.cell 8
        simp [ppV, Pp.zero] at d0 d1 d2 d3 d4 d5 d6 d7 d8
        clear hb9
        exact bodyPost_ret (v := .tuple #[.agg #[.bool cabac, .bool weighted, .int .i64 bipred, .int .i64 qp, .int .i64 cqp, .bool con, .bool deb, .int .i64 a0, .int .i64 a1], .int .i64 0]) (by simp [results, Try.results24, go_sem, d0, d1, d2, d3, d4, d5, d6, d7, d8]) rfl ⟨by rw [HG.out]; rfl, HB9.out⟩
end Go.Proofs.Ytegfglpaabddlaa
