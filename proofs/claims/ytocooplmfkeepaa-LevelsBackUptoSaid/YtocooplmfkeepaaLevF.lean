/- Blocks of coefficients: the program's Get: what it defers, and itself. -/
import Derived.Test.YtocooplmfkeepaaLevE
import Derived.Defers
import Derived.Recover
import Derived.Laws.Pointers
namespace Go.Proofs.Ytocooplmfkeepaa
open Go.RowKit
set_option linter.unusedVariables false
set_option linter.unusedSimpArgs false

theorem run_assert_fault (v : Value) (w : World) : (Instr.typeAssert (.iface 77 v) 20 77 true).run Try.prog w = .ok (.tuple #[v, .bool true]) w := by
  simp [Instr.typeAssert, run_underlying Try.underlying77, go_sem, Result.andThen]
/-- what the deferred call leaves behind a fault -/
def Caught (w w' : World) (g Bc Be : Nat) (s : ByteArray) (a : Nat) (c : Int) : Prop :=
  Rr w' g s a ∧ w'.cell? ⟨Bc, 0, none⟩ = some (.slice none 0 0) ∧ w'.cell? ⟨Be, 0, none⟩ = some (.int .i64 c) ∧ Touch (fun k => k = g ∨ k = Bc ∨ k = Be) w w'

set_option maxRecDepth 100000 in
set_option maxHeartbeats 3200000 in
theorem catch_panicking (Bb Br Bc Be g : Nat) (s : ByteArray) (a a' : Nat) (c x : Int) (v : Value) (w : World) (h : Rr w g s a') (b0 : w.cell? ⟨Bb, 0, none⟩ = some (.string s)) (b1 : w.cell? ⟨Bb, 1, none⟩ = some (.int .i64 a)) (hr : w.cell? ⟨Br, 0, none⟩ = some (.pointer (some ⟨g, 0, none⟩)))
    (hc : Bk w Bc 22 #[v]) (he : Bk w Be 25 #[.int .i64 x]) (n1 : g ≠ Bc) (n2 : g ≠ Be) (n3 : Bc ≠ Be) (older : List PanicEntry) :
    CallsD Try.prog 43 #[.pointer (some ⟨Bb, 0, none⟩), .pointer (some ⟨Br, 0, none⟩), .pointer (some ⟨Bc, 0, none⟩), .pointer (some ⟨Be, 0, none⟩)] (.panicking ({ v := .iface 77 (.agg #[.int .i64 c]), recovered := false } :: older)) w fun e u' w' =>
      e = .returned (.tuple #[]) ∧ u' = .panicking ({ v := .iface 77 (.agg #[.int .i64 c]), recovered := true } :: older) ∧ Caught w w' g Bc Be s a c := by
  refine callsD_of_wpS Try.func43 rfl fun c₀ cs hu => ?_
  have hg0 := Bk.cell h 0
  have hg1 := Bk.cell h 1
  have hgf0 := Bk.frozen h 0
  have hgf1 := Bk.frozen h 1
  have hcf := Bk.frozen hc 0
  have hef := Bk.frozen he 0
  have hcc := Bk.cell hc 0
  have hec := Bk.cell he 0
  simp at hg0 hg1 hcc hec
  have HH := Lib.hid h
  have HC := Lib.hid hc
  have HE := Lib.hid he
  clear h hc he
  simp only [Try.ntmps43, List.size_toArray, List.length_cons, List.length_nil, Nat.reduceAdd, Nat.reduceSub, Array.replicate_succ,
     Array.replicate_zero, List.push_toArray, List.append_toArray, List.nil_append, List.cons_append]
  apply wpS_seq
  apply wpS_region
  simp [wpOpsS, go_sem, recoverD, hu, Exit.thenS]
  clear hu
  have l1 : Br < w.heap.size := World.block_lt_of_cell? w _ hr
  have l2 : Bb < w.heap.size := World.block_lt_of_cell? w _ b0
  have l3 : g < w.heap.size := Bk.lt HH.out
  have l4 : Bc < w.heap.size := Bk.lt HC.out
  have l5 : Be < w.heap.size := Bk.lt HE.out
  have hta := fun v w => run_assert_fault v w
  refine wpS_of_wp ?_
  go_wp2_with fail
  have m1 : ¬ w.heap.size = Bc := by omega
  have m2 : ¬ w.heap.size = Be := by omega
  have m3 : ¬ Bc = w.heap.size := by omega
  have m4 : ¬ Be = w.heap.size := by omega
  have m5 : ¬ Bc = Be := n3
  have m6 : ¬ Be = Bc := fun q => n3 q.symm
  have m7 : ¬ Bc = g := fun q => n1 q.symm
  have m8 : ¬ Be = g := fun q => n2 q.symm
  go_region
  refine ⟨rfl, _, rfl, _, results_none rfl _ _ _, rfl, rfl, ?_⟩
  have kg := (((((HH.out.set_ 0 (.string s)).set_ 1 (.int .i64 (a : Int))).far (p := ⟨Bc, 0, none⟩) n1 (.slice none 0 0)).far (p := ⟨Be, 0, none⟩) n2 (.int .i64 c)).alloc (.cells #[.int .i64 c] 77)).drew
  have kc := (((((HC.out.far (p := ⟨g, 0, none⟩) m7 (.string s)).far (p := ⟨g, 1, none⟩) m7 (.int .i64 (a : Int))).set_ 0 (.slice none 0 0)).far (p := ⟨Be, 0, none⟩) n3 (.int .i64 c)).alloc (.cells #[.int .i64 c] 77)).drew
  have ke := (((((HE.out.far (p := ⟨g, 0, none⟩) m8 (.string s)).far (p := ⟨g, 1, none⟩) m8 (.int .i64 (a : Int))).far (p := ⟨Bc, 0, none⟩) m6 (.slice none 0 0)).set_ 0 (.int .i64 c)).alloc (.cells #[.int .i64 c] 77)).drew
  refine ⟨kg, kc.cell 0, ke.cell 0, ?_⟩
  exact (((((((Touch.refl _ w).setCell (p := ⟨g, 0, none⟩) (fun _ => .inl rfl) _).setCell (p := ⟨g, 1, none⟩) (fun _ => .inl rfl) _).setCell (p := ⟨Bc, 0, none⟩) (fun _ => .inr (.inl rfl)) _).setCell (p := ⟨Be, 0, none⟩) (fun _ => .inr (.inr rfl)) _).alloc _).drew)

theorem catch_idle (p0 p1 p2 p3 : Value) (w : World) :
    CallsD Try.prog 43 #[p0, p1, p2, p3] .returning w fun e u' w' => e = .returned (.tuple #[]) ∧ u' = .returning ∧ w' = w := by
  refine callsD_of_wpS Try.func43 rfl fun c₀ cs hu => ?_
  apply wpS_seq
  apply wpS_region
  simp [wpOpsS, go_sem, recoverD, hu, Try.ntmps43, Exit.thenS]
  apply wpS_seq
  apply wpS_region
  simp [wpOpsS, go_sem, Exit.thenS]
  refine wpS_cond (t := false) (by simp [Act.eval]) ?_
  simp only [Bool.false_eq_true, if_false]
  refine wpS_of_wp (wp_skip ?_)
  cases c₀
  simp_all [bodyPostS, results, Try.results43]
end Go.Proofs.Ytocooplmfkeepaa
