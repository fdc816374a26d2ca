/- MayPps, of both. -/
import Derived.Test.YtjokibagciehlaaGreatParB
import Derived.Test.YtjokibagciehlaaGreatParP
import Derived.Test.YtjokibagciehlaaGreatQuiet
namespace Go.Proofs.YtjokibagciehlaaGreat
open Go.RowKit
set_option linter.unusedVariables false
set_option linter.unusedSimpArgs false

def inB (l h x : Int) : Bool := decide (l ≤ x ∧ x ≤ h)
theorem inB_yes {l h x : Int} (q : l ≤ x ∧ x ≤ h) : inB l h x = true := decide_eq_true q
theorem inB_no {l h x : Int} (q : ¬ (l ≤ x ∧ x ≤ h)) : inB l h x = false := decide_eq_false q
theorem has_in (l h x : Int) (w : World) : Calls Tryz.prog 81 #[.agg #[.int .i64 l, .int .i64 h], .int .i64 x] w fun e w' => e = .returned (.bool (inB l h x)) ∧ Below w.heap.size w w' := has_any l h x w
set_option maxRecDepth 100000 in
theorem in2_any (x l h : Int) (w : World) : Calls Tryz.prog 47 #[.int .i64 x, .int .i64 l, .int .i64 h] w fun e w' => e = .returned (.bool (inB l h x)) ∧ w = w' := by
  unfold inB
  by_cases h1 : l ≤ x
  · by_cases h2 : x ≤ h
    · rw [decide_eq_true ⟨h1, h2⟩]
      go_enter Tryz.func47, Tryz.ntmps47
      go_wp2_with fail
      go_ret
      exact ⟨rfl, rfl⟩
    · rw [decide_eq_false (fun q => h2 q.2)]
      go_enter Tryz.func47, Tryz.ntmps47
      go_wp2_with fail
      go_ret
      exact ⟨rfl, rfl⟩
  · rw [decide_eq_false (fun q => h1 q.1)]
    go_enter Tryz.func47, Tryz.ntmps47
    go_wp2_with fail
    go_ret
    exact ⟨rfl, rfl⟩

def ppV (p : Pp) : Array Value := #[.bool p.cabac, .bool p.weighted, .int .i64 p.bipred, .int .i64 p.qp, .int .i64 p.cqp, .bool p.con, .bool p.deb, .int .i64 p.a0, .int .i64 p.a1]
theorem rgV_cells {w : World} {g : Nat} (h : Bk w g 145 (rgV 0 1)) : True := trivial

set_option maxRecDepth 100000 in
set_option maxHeartbeats 3200000 in
theorem maypp_0 (p : Pp) (w : World)
    (h0 : inB 0 2 p.bipred = false)
    : Calls Tryz.prog 41 #[.agg (ppV p)] w fun e w' => e = .returned (.bool false) ∧ Below w.heap.size w w' := by
  obtain ⟨cabac, weighted, bipred, qp, cqp, con, deb, a0, a1⟩ := p
  simp only [ppV] at *
  obtain ⟨wz, rfl⟩ : ∃ wz : World, wz = w := ⟨_, rfl⟩
  have hB0 := ((Below.refl wz.heap.size wz).alloc (Nat.le_refl _) (.cells #[.bool cabac, .bool weighted, .int .i64 bipred, .int .i64 qp, .int .i64 cqp, .bool con, .bool deb, .int .i64 a0, .int .i64 a1] 31)).alloc (by simp) (.cells (rg0 0 0) 145)
  have hP0 := (Bk.new wz 31 #[.bool cabac, .bool weighted, .int .i64 bipred, .int .i64 qp, .int .i64 cqp, .bool con, .bool deb, .int .i64 a0, .int .i64 a1]).alloc (.cells (rg0 0 0) 145)
  have hR0 := Bk.new (wz.alloc (.cells #[.bool cabac, .bool weighted, .int .i64 bipred, .int .i64 qp, .int .i64 cqp, .bool con, .bool deb, .int .i64 a0, .int .i64 a1] 31)) 145 (rg0 0 0)
  rw [World.size_alloc] at hR0
  have HB0 := Lib.hid hB0
  have HP0 := Lib.hid hP0
  have HR0 := Lib.hid hR0
  clear hB0 hP0 hR0
  go_enter Tryz.func41, Tryz.ntmps41
  go_wp2_with fail
  refine (get_any (wz.heap.size + 1) _ HR0.out).mono ?_
  rintro e w ⟨rfl, hr, ht⟩
  have hp := HP0.out.touch ht (by omega)
  have hb := Below.touch HB0.out ht (fun i hi h => by omega) (Nat.le_refl _)
  have HB := Lib.hid hb
  clear HR0 HP0 HB0 ht
  have p2 := hp.cell 2
  have p3 := hp.cell 3
  have p4 := hp.cell 4
  have p7 := hp.cell 7
  have p8 := hp.cell 8
  have r11 := hr.cell 11
  have r12 := hr.cell 12
  have r13 := hr.cell 13
  have r14 := hr.cell 14
  have r15 := hr.cell 15
  have r16 := hr.cell 16
  have r17 := hr.cell 17
  have r18 := hr.cell 18
  have hlp := hp.lt
  have hlr := hr.lt
  simp [rgV] at p2 p3 p4 p7 p8 r11 r12 r13 r14 r15 r16 r17 r18
  have hN0 := HB.out.size
  obtain ⟨N, hN⟩ : ∃ N, N = wz.heap.size := ⟨_, rfl⟩
  rw [← hN] at hlp hlr p2 p3 p4 p7 p8 r11 r12 r13 r14 r15 r16 r17 r18 hN0 ⊢
  have HN := Lib.hid hN
  clear hr hp hb hN
  go_wp2_with fail
  refine wp_region_class (fun w' => w'.cell? ⟨N, 2, none⟩ = some (.int .i64 bipred) ∧ w'.cell? ⟨N, 3, none⟩ = some (.int .i64 qp) ∧ w'.cell? ⟨N, 4, none⟩ = some (.int .i64 cqp) ∧ w'.cell? ⟨N, 7, none⟩ = some (.int .i64 a0) ∧ w'.cell? ⟨N, 8, none⟩ = some (.int .i64 a1) ∧ w'.cell? ⟨(N + 1), 11, none⟩ = some (.int .i64 1) ∧ w'.cell? ⟨(N + 1), 12, none⟩ = some (.int .i64 8) ∧ w'.cell? ⟨(N + 1), 13, none⟩ = some (.int .i64 0) ∧ w'.cell? ⟨(N + 1), 14, none⟩ = some (.int .i64 2) ∧ w'.cell? ⟨(N + 1), 15, none⟩ = some (.int .i64 0) ∧ w'.cell? ⟨(N + 1), 16, none⟩ = some (.int .i64 51) ∧ w'.cell? ⟨(N + 1), 17, none⟩ = some (.int .i64 (-12)) ∧ w'.cell? ⟨(N + 1), 18, none⟩ = some (.int .i64 12) ∧ (N + 1) < w'.heap.size ∧ N < w'.heap.size ∧ w.heap.size ≤ w'.heap.size ∧ Below w.heap.size w w') (by kernel_rfl) (by kernel_rfl) ⟨by simp [go_sem, *], by simp [go_sem, *], by simp [go_sem, *], by simp [go_sem, *], by simp [go_sem, *], by simp [go_sem, *], by simp [go_sem, *], by simp [go_sem, *], by simp [go_sem, *], by simp [go_sem, *], by simp [go_sem, *], by simp [go_sem, *], by simp [go_sem, *], by simp [go_sem] <;> omega, by simp [go_sem] <;> omega, by simp [go_sem] <;> omega, (by repeat (first | exact Below.refl _ _ | assumption | refine Below.alloc ?_ (by first | omega | (simp <;> omega)) _ | refine Below.drew ?_ | refine Below.setCell ?_ (by first | omega | (simp <;> omega)) _))⟩ ?_
  repeat (first
    | go_big_quiet_skip
    | (go_big_quiet_want; first
        | (go_big_quiet_op; go_big_quiet_on)
        | (refine qv_val (v := ?_) ?_ ?_; rotate_left 1; (intro w' hw'; (try dsimp only at hw'); go_split_ands; go_simp; (try with_reducible rfl)); (try simp only [Act.put, List.setIfInBounds_toArray, List.set_cons_zero, List.set_cons_succ]); go_big_quiet_on)
        | (refine qv_call (v := ?_) (f := ?_) (args := ?_) ?_ ?_ ?_; rotate_left 3; (intro w' hw'; (try dsimp only at hw'); go_split_ands; go_simp; (refine ⟨?_, ?_⟩ <;> rfl)); (first | (intro w' hw'; go_split_ands; refine (has_in _ _ _ _).mono ?_; rintro e wh ⟨rfl, hbh⟩; refine ⟨?_, (hbh.cell (by simp <;> omega)).trans (by assumption), (hbh.cell (by simp <;> omega)).trans (by assumption), (hbh.cell (by simp <;> omega)).trans (by assumption), (hbh.cell (by simp <;> omega)).trans (by assumption), (hbh.cell (by simp <;> omega)).trans (by assumption), (hbh.cell (by simp <;> omega)).trans (by assumption), (hbh.cell (by simp <;> omega)).trans (by assumption), (hbh.cell (by simp <;> omega)).trans (by assumption), (hbh.cell (by simp <;> omega)).trans (by assumption), (hbh.cell (by simp <;> omega)).trans (by assumption), (hbh.cell (by simp <;> omega)).trans (by assumption), (hbh.cell (by simp <;> omega)).trans (by assumption), (hbh.cell (by simp <;> omega)).trans (by assumption), by have := hbh.size; omega, by have := hbh.size; omega, by have := hbh.size; omega, Below.trans (by assumption) (hbh.mono (by assumption))⟩; simp only [h0]; rfl)); (try simp only [Act.put, List.setIfInBounds_toArray, List.set_cons_zero, List.set_cons_succ]); go_big_quiet_on)))
  with_reducible refine wpQuiet_nil ?_
  intro w hcl
  (try dsimp only at hcl)
  go_split_ands
  rename_i hbl
  have HE := Lib.hid (HB.out.trans (hbl.mono HB.out.size))
  clear hbl HB
  go_wp2_with fail
  go_ret
  exact ⟨rfl, HE.out⟩
set_option maxRecDepth 100000 in
set_option maxHeartbeats 3200000 in
theorem maypp_1 (p : Pp) (w : World)
    (h0 : inB 0 2 p.bipred = true) (h1 : inB 0 51 p.qp = false)
    : Calls Tryz.prog 41 #[.agg (ppV p)] w fun e w' => e = .returned (.bool false) ∧ Below w.heap.size w w' := by
  obtain ⟨cabac, weighted, bipred, qp, cqp, con, deb, a0, a1⟩ := p
  simp only [ppV] at *
  obtain ⟨wz, rfl⟩ : ∃ wz : World, wz = w := ⟨_, rfl⟩
  have hB0 := ((Below.refl wz.heap.size wz).alloc (Nat.le_refl _) (.cells #[.bool cabac, .bool weighted, .int .i64 bipred, .int .i64 qp, .int .i64 cqp, .bool con, .bool deb, .int .i64 a0, .int .i64 a1] 31)).alloc (by simp) (.cells (rg0 0 0) 145)
  have hP0 := (Bk.new wz 31 #[.bool cabac, .bool weighted, .int .i64 bipred, .int .i64 qp, .int .i64 cqp, .bool con, .bool deb, .int .i64 a0, .int .i64 a1]).alloc (.cells (rg0 0 0) 145)
  have hR0 := Bk.new (wz.alloc (.cells #[.bool cabac, .bool weighted, .int .i64 bipred, .int .i64 qp, .int .i64 cqp, .bool con, .bool deb, .int .i64 a0, .int .i64 a1] 31)) 145 (rg0 0 0)
  rw [World.size_alloc] at hR0
  have HB0 := Lib.hid hB0
  have HP0 := Lib.hid hP0
  have HR0 := Lib.hid hR0
  clear hB0 hP0 hR0
  go_enter Tryz.func41, Tryz.ntmps41
  go_wp2_with fail
  refine (get_any (wz.heap.size + 1) _ HR0.out).mono ?_
  rintro e w ⟨rfl, hr, ht⟩
  have hp := HP0.out.touch ht (by omega)
  have hb := Below.touch HB0.out ht (fun i hi h => by omega) (Nat.le_refl _)
  have HB := Lib.hid hb
  clear HR0 HP0 HB0 ht
  have p2 := hp.cell 2
  have p3 := hp.cell 3
  have p4 := hp.cell 4
  have p7 := hp.cell 7
  have p8 := hp.cell 8
  have r11 := hr.cell 11
  have r12 := hr.cell 12
  have r13 := hr.cell 13
  have r14 := hr.cell 14
  have r15 := hr.cell 15
  have r16 := hr.cell 16
  have r17 := hr.cell 17
  have r18 := hr.cell 18
  have hlp := hp.lt
  have hlr := hr.lt
  simp [rgV] at p2 p3 p4 p7 p8 r11 r12 r13 r14 r15 r16 r17 r18
  have hN0 := HB.out.size
  obtain ⟨N, hN⟩ : ∃ N, N = wz.heap.size := ⟨_, rfl⟩
  rw [← hN] at hlp hlr p2 p3 p4 p7 p8 r11 r12 r13 r14 r15 r16 r17 r18 hN0 ⊢
  have HN := Lib.hid hN
  clear hr hp hb hN
  go_wp2_with fail
  refine wp_region_class (fun w' => w'.cell? ⟨N, 2, none⟩ = some (.int .i64 bipred) ∧ w'.cell? ⟨N, 3, none⟩ = some (.int .i64 qp) ∧ w'.cell? ⟨N, 4, none⟩ = some (.int .i64 cqp) ∧ w'.cell? ⟨N, 7, none⟩ = some (.int .i64 a0) ∧ w'.cell? ⟨N, 8, none⟩ = some (.int .i64 a1) ∧ w'.cell? ⟨(N + 1), 11, none⟩ = some (.int .i64 1) ∧ w'.cell? ⟨(N + 1), 12, none⟩ = some (.int .i64 8) ∧ w'.cell? ⟨(N + 1), 13, none⟩ = some (.int .i64 0) ∧ w'.cell? ⟨(N + 1), 14, none⟩ = some (.int .i64 2) ∧ w'.cell? ⟨(N + 1), 15, none⟩ = some (.int .i64 0) ∧ w'.cell? ⟨(N + 1), 16, none⟩ = some (.int .i64 51) ∧ w'.cell? ⟨(N + 1), 17, none⟩ = some (.int .i64 (-12)) ∧ w'.cell? ⟨(N + 1), 18, none⟩ = some (.int .i64 12) ∧ (N + 1) < w'.heap.size ∧ N < w'.heap.size ∧ w.heap.size ≤ w'.heap.size ∧ Below w.heap.size w w') (by kernel_rfl) (by kernel_rfl) ⟨by simp [go_sem, *], by simp [go_sem, *], by simp [go_sem, *], by simp [go_sem, *], by simp [go_sem, *], by simp [go_sem, *], by simp [go_sem, *], by simp [go_sem, *], by simp [go_sem, *], by simp [go_sem, *], by simp [go_sem, *], by simp [go_sem, *], by simp [go_sem, *], by simp [go_sem] <;> omega, by simp [go_sem] <;> omega, by simp [go_sem] <;> omega, (by repeat (first | exact Below.refl _ _ | assumption | refine Below.alloc ?_ (by first | omega | (simp <;> omega)) _ | refine Below.drew ?_ | refine Below.setCell ?_ (by first | omega | (simp <;> omega)) _))⟩ ?_
  repeat (first
    | go_big_quiet_skip
    | (go_big_quiet_want; first
        | (go_big_quiet_op; go_big_quiet_on)
        | (refine qv_val (v := ?_) ?_ ?_; rotate_left 1; (intro w' hw'; (try dsimp only at hw'); go_split_ands; go_simp; (try with_reducible rfl)); (try simp only [Act.put, List.setIfInBounds_toArray, List.set_cons_zero, List.set_cons_succ]); go_big_quiet_on)
        | (refine qv_call (v := ?_) (f := ?_) (args := ?_) ?_ ?_ ?_; rotate_left 3; (intro w' hw'; (try dsimp only at hw'); go_split_ands; go_simp; (refine ⟨?_, ?_⟩ <;> rfl)); (first | (intro w' hw'; go_split_ands; refine (has_in _ _ _ _).mono ?_; rintro e wh ⟨rfl, hbh⟩; refine ⟨?_, (hbh.cell (by simp <;> omega)).trans (by assumption), (hbh.cell (by simp <;> omega)).trans (by assumption), (hbh.cell (by simp <;> omega)).trans (by assumption), (hbh.cell (by simp <;> omega)).trans (by assumption), (hbh.cell (by simp <;> omega)).trans (by assumption), (hbh.cell (by simp <;> omega)).trans (by assumption), (hbh.cell (by simp <;> omega)).trans (by assumption), (hbh.cell (by simp <;> omega)).trans (by assumption), (hbh.cell (by simp <;> omega)).trans (by assumption), (hbh.cell (by simp <;> omega)).trans (by assumption), (hbh.cell (by simp <;> omega)).trans (by assumption), (hbh.cell (by simp <;> omega)).trans (by assumption), (hbh.cell (by simp <;> omega)).trans (by assumption), by have := hbh.size; omega, by have := hbh.size; omega, by have := hbh.size; omega, Below.trans (by assumption) (hbh.mono (by assumption))⟩; simp only [h0, h1]; rfl)); (try simp only [Act.put, List.setIfInBounds_toArray, List.set_cons_zero, List.set_cons_succ]); go_big_quiet_on)))
  with_reducible refine wpQuiet_nil ?_
  intro w hcl
  (try dsimp only at hcl)
  go_split_ands
  rename_i hbl
  have HE := Lib.hid (HB.out.trans (hbl.mono HB.out.size))
  clear hbl HB
  go_wp2_with fail
  go_ret
  exact ⟨rfl, HE.out⟩
set_option maxRecDepth 100000 in
set_option maxHeartbeats 3200000 in
theorem maypp_2 (p : Pp) (w : World)
    (h0 : inB 0 2 p.bipred = true) (h1 : inB 0 51 p.qp = true) (h2 : inB (-12) 12 p.cqp = false)
    : Calls Tryz.prog 41 #[.agg (ppV p)] w fun e w' => e = .returned (.bool false) ∧ Below w.heap.size w w' := by
  obtain ⟨cabac, weighted, bipred, qp, cqp, con, deb, a0, a1⟩ := p
  simp only [ppV] at *
  obtain ⟨wz, rfl⟩ : ∃ wz : World, wz = w := ⟨_, rfl⟩
  have hB0 := ((Below.refl wz.heap.size wz).alloc (Nat.le_refl _) (.cells #[.bool cabac, .bool weighted, .int .i64 bipred, .int .i64 qp, .int .i64 cqp, .bool con, .bool deb, .int .i64 a0, .int .i64 a1] 31)).alloc (by simp) (.cells (rg0 0 0) 145)
  have hP0 := (Bk.new wz 31 #[.bool cabac, .bool weighted, .int .i64 bipred, .int .i64 qp, .int .i64 cqp, .bool con, .bool deb, .int .i64 a0, .int .i64 a1]).alloc (.cells (rg0 0 0) 145)
  have hR0 := Bk.new (wz.alloc (.cells #[.bool cabac, .bool weighted, .int .i64 bipred, .int .i64 qp, .int .i64 cqp, .bool con, .bool deb, .int .i64 a0, .int .i64 a1] 31)) 145 (rg0 0 0)
  rw [World.size_alloc] at hR0
  have HB0 := Lib.hid hB0
  have HP0 := Lib.hid hP0
  have HR0 := Lib.hid hR0
  clear hB0 hP0 hR0
  go_enter Tryz.func41, Tryz.ntmps41
  go_wp2_with fail
  refine (get_any (wz.heap.size + 1) _ HR0.out).mono ?_
  rintro e w ⟨rfl, hr, ht⟩
  have hp := HP0.out.touch ht (by omega)
  have hb := Below.touch HB0.out ht (fun i hi h => by omega) (Nat.le_refl _)
  have HB := Lib.hid hb
  clear HR0 HP0 HB0 ht
  have p2 := hp.cell 2
  have p3 := hp.cell 3
  have p4 := hp.cell 4
  have p7 := hp.cell 7
  have p8 := hp.cell 8
  have r11 := hr.cell 11
  have r12 := hr.cell 12
  have r13 := hr.cell 13
  have r14 := hr.cell 14
  have r15 := hr.cell 15
  have r16 := hr.cell 16
  have r17 := hr.cell 17
  have r18 := hr.cell 18
  have hlp := hp.lt
  have hlr := hr.lt
  simp [rgV] at p2 p3 p4 p7 p8 r11 r12 r13 r14 r15 r16 r17 r18
  have hN0 := HB.out.size
  obtain ⟨N, hN⟩ : ∃ N, N = wz.heap.size := ⟨_, rfl⟩
  rw [← hN] at hlp hlr p2 p3 p4 p7 p8 r11 r12 r13 r14 r15 r16 r17 r18 hN0 ⊢
  have HN := Lib.hid hN
  clear hr hp hb hN
  go_wp2_with fail
  refine wp_region_class (fun w' => w'.cell? ⟨N, 2, none⟩ = some (.int .i64 bipred) ∧ w'.cell? ⟨N, 3, none⟩ = some (.int .i64 qp) ∧ w'.cell? ⟨N, 4, none⟩ = some (.int .i64 cqp) ∧ w'.cell? ⟨N, 7, none⟩ = some (.int .i64 a0) ∧ w'.cell? ⟨N, 8, none⟩ = some (.int .i64 a1) ∧ w'.cell? ⟨(N + 1), 11, none⟩ = some (.int .i64 1) ∧ w'.cell? ⟨(N + 1), 12, none⟩ = some (.int .i64 8) ∧ w'.cell? ⟨(N + 1), 13, none⟩ = some (.int .i64 0) ∧ w'.cell? ⟨(N + 1), 14, none⟩ = some (.int .i64 2) ∧ w'.cell? ⟨(N + 1), 15, none⟩ = some (.int .i64 0) ∧ w'.cell? ⟨(N + 1), 16, none⟩ = some (.int .i64 51) ∧ w'.cell? ⟨(N + 1), 17, none⟩ = some (.int .i64 (-12)) ∧ w'.cell? ⟨(N + 1), 18, none⟩ = some (.int .i64 12) ∧ (N + 1) < w'.heap.size ∧ N < w'.heap.size ∧ w.heap.size ≤ w'.heap.size ∧ Below w.heap.size w w') (by kernel_rfl) (by kernel_rfl) ⟨by simp [go_sem, *], by simp [go_sem, *], by simp [go_sem, *], by simp [go_sem, *], by simp [go_sem, *], by simp [go_sem, *], by simp [go_sem, *], by simp [go_sem, *], by simp [go_sem, *], by simp [go_sem, *], by simp [go_sem, *], by simp [go_sem, *], by simp [go_sem, *], by simp [go_sem] <;> omega, by simp [go_sem] <;> omega, by simp [go_sem] <;> omega, (by repeat (first | exact Below.refl _ _ | assumption | refine Below.alloc ?_ (by first | omega | (simp <;> omega)) _ | refine Below.drew ?_ | refine Below.setCell ?_ (by first | omega | (simp <;> omega)) _))⟩ ?_
  repeat (first
    | go_big_quiet_skip
    | (go_big_quiet_want; first
        | (go_big_quiet_op; go_big_quiet_on)
        | (refine qv_val (v := ?_) ?_ ?_; rotate_left 1; (intro w' hw'; (try dsimp only at hw'); go_split_ands; go_simp; (try with_reducible rfl)); (try simp only [Act.put, List.setIfInBounds_toArray, List.set_cons_zero, List.set_cons_succ]); go_big_quiet_on)
        | (refine qv_call (v := ?_) (f := ?_) (args := ?_) ?_ ?_ ?_; rotate_left 3; (intro w' hw'; (try dsimp only at hw'); go_split_ands; go_simp; (refine ⟨?_, ?_⟩ <;> rfl)); (first | (intro w' hw'; go_split_ands; refine (has_in _ _ _ _).mono ?_; rintro e wh ⟨rfl, hbh⟩; refine ⟨?_, (hbh.cell (by simp <;> omega)).trans (by assumption), (hbh.cell (by simp <;> omega)).trans (by assumption), (hbh.cell (by simp <;> omega)).trans (by assumption), (hbh.cell (by simp <;> omega)).trans (by assumption), (hbh.cell (by simp <;> omega)).trans (by assumption), (hbh.cell (by simp <;> omega)).trans (by assumption), (hbh.cell (by simp <;> omega)).trans (by assumption), (hbh.cell (by simp <;> omega)).trans (by assumption), (hbh.cell (by simp <;> omega)).trans (by assumption), (hbh.cell (by simp <;> omega)).trans (by assumption), (hbh.cell (by simp <;> omega)).trans (by assumption), (hbh.cell (by simp <;> omega)).trans (by assumption), (hbh.cell (by simp <;> omega)).trans (by assumption), by have := hbh.size; omega, by have := hbh.size; omega, by have := hbh.size; omega, Below.trans (by assumption) (hbh.mono (by assumption))⟩; simp only [h0, h1, h2]; rfl)); (try simp only [Act.put, List.setIfInBounds_toArray, List.set_cons_zero, List.set_cons_succ]); go_big_quiet_on)))
  with_reducible refine wpQuiet_nil ?_
  intro w hcl
  (try dsimp only at hcl)
  go_split_ands
  rename_i hbl
  have HE := Lib.hid (HB.out.trans (hbl.mono HB.out.size))
  clear hbl HB
  go_wp2_with fail
  go_ret
  exact ⟨rfl, HE.out⟩
set_option maxRecDepth 100000 in
set_option maxHeartbeats 3200000 in
theorem maypp_3 (p : Pp) (w : World)
    (h0 : inB 0 2 p.bipred = true) (h1 : inB 0 51 p.qp = true) (h2 : inB (-12) 12 p.cqp = true) (h3 : inB 1 8 p.a0 = false)
    : Calls Tryz.prog 41 #[.agg (ppV p)] w fun e w' => e = .returned (.bool false) ∧ Below w.heap.size w w' := by
  obtain ⟨cabac, weighted, bipred, qp, cqp, con, deb, a0, a1⟩ := p
  simp only [ppV] at *
  obtain ⟨wz, rfl⟩ : ∃ wz : World, wz = w := ⟨_, rfl⟩
  have hB0 := ((Below.refl wz.heap.size wz).alloc (Nat.le_refl _) (.cells #[.bool cabac, .bool weighted, .int .i64 bipred, .int .i64 qp, .int .i64 cqp, .bool con, .bool deb, .int .i64 a0, .int .i64 a1] 31)).alloc (by simp) (.cells (rg0 0 0) 145)
  have hP0 := (Bk.new wz 31 #[.bool cabac, .bool weighted, .int .i64 bipred, .int .i64 qp, .int .i64 cqp, .bool con, .bool deb, .int .i64 a0, .int .i64 a1]).alloc (.cells (rg0 0 0) 145)
  have hR0 := Bk.new (wz.alloc (.cells #[.bool cabac, .bool weighted, .int .i64 bipred, .int .i64 qp, .int .i64 cqp, .bool con, .bool deb, .int .i64 a0, .int .i64 a1] 31)) 145 (rg0 0 0)
  rw [World.size_alloc] at hR0
  have HB0 := Lib.hid hB0
  have HP0 := Lib.hid hP0
  have HR0 := Lib.hid hR0
  clear hB0 hP0 hR0
  go_enter Tryz.func41, Tryz.ntmps41
  go_wp2_with fail
  refine (get_any (wz.heap.size + 1) _ HR0.out).mono ?_
  rintro e w ⟨rfl, hr, ht⟩
  have hp := HP0.out.touch ht (by omega)
  have hb := Below.touch HB0.out ht (fun i hi h => by omega) (Nat.le_refl _)
  have HB := Lib.hid hb
  clear HR0 HP0 HB0 ht
  have p2 := hp.cell 2
  have p3 := hp.cell 3
  have p4 := hp.cell 4
  have p7 := hp.cell 7
  have p8 := hp.cell 8
  have r11 := hr.cell 11
  have r12 := hr.cell 12
  have r13 := hr.cell 13
  have r14 := hr.cell 14
  have r15 := hr.cell 15
  have r16 := hr.cell 16
  have r17 := hr.cell 17
  have r18 := hr.cell 18
  have hlp := hp.lt
  have hlr := hr.lt
  simp [rgV] at p2 p3 p4 p7 p8 r11 r12 r13 r14 r15 r16 r17 r18
  have hN0 := HB.out.size
  obtain ⟨N, hN⟩ : ∃ N, N = wz.heap.size := ⟨_, rfl⟩
  rw [← hN] at hlp hlr p2 p3 p4 p7 p8 r11 r12 r13 r14 r15 r16 r17 r18 hN0 ⊢
  have HN := Lib.hid hN
  clear hr hp hb hN
  go_wp2_with fail
  refine wp_region_class (fun w' => w'.cell? ⟨N, 2, none⟩ = some (.int .i64 bipred) ∧ w'.cell? ⟨N, 3, none⟩ = some (.int .i64 qp) ∧ w'.cell? ⟨N, 4, none⟩ = some (.int .i64 cqp) ∧ w'.cell? ⟨N, 7, none⟩ = some (.int .i64 a0) ∧ w'.cell? ⟨N, 8, none⟩ = some (.int .i64 a1) ∧ w'.cell? ⟨(N + 1), 11, none⟩ = some (.int .i64 1) ∧ w'.cell? ⟨(N + 1), 12, none⟩ = some (.int .i64 8) ∧ w'.cell? ⟨(N + 1), 13, none⟩ = some (.int .i64 0) ∧ w'.cell? ⟨(N + 1), 14, none⟩ = some (.int .i64 2) ∧ w'.cell? ⟨(N + 1), 15, none⟩ = some (.int .i64 0) ∧ w'.cell? ⟨(N + 1), 16, none⟩ = some (.int .i64 51) ∧ w'.cell? ⟨(N + 1), 17, none⟩ = some (.int .i64 (-12)) ∧ w'.cell? ⟨(N + 1), 18, none⟩ = some (.int .i64 12) ∧ (N + 1) < w'.heap.size ∧ N < w'.heap.size ∧ w.heap.size ≤ w'.heap.size ∧ Below w.heap.size w w') (by kernel_rfl) (by kernel_rfl) ⟨by simp [go_sem, *], by simp [go_sem, *], by simp [go_sem, *], by simp [go_sem, *], by simp [go_sem, *], by simp [go_sem, *], by simp [go_sem, *], by simp [go_sem, *], by simp [go_sem, *], by simp [go_sem, *], by simp [go_sem, *], by simp [go_sem, *], by simp [go_sem, *], by simp [go_sem] <;> omega, by simp [go_sem] <;> omega, by simp [go_sem] <;> omega, (by repeat (first | exact Below.refl _ _ | assumption | refine Below.alloc ?_ (by first | omega | (simp <;> omega)) _ | refine Below.drew ?_ | refine Below.setCell ?_ (by first | omega | (simp <;> omega)) _))⟩ ?_
  repeat (first
    | go_big_quiet_skip
    | (go_big_quiet_want; first
        | (go_big_quiet_op; go_big_quiet_on)
        | (refine qv_val (v := ?_) ?_ ?_; rotate_left 1; (intro w' hw'; (try dsimp only at hw'); go_split_ands; go_simp; (try with_reducible rfl)); (try simp only [Act.put, List.setIfInBounds_toArray, List.set_cons_zero, List.set_cons_succ]); go_big_quiet_on)
        | (refine qv_call (v := ?_) (f := ?_) (args := ?_) ?_ ?_ ?_; rotate_left 3; (intro w' hw'; (try dsimp only at hw'); go_split_ands; go_simp; (refine ⟨?_, ?_⟩ <;> rfl)); (first | (intro w' hw'; go_split_ands; refine (has_in _ _ _ _).mono ?_; rintro e wh ⟨rfl, hbh⟩; refine ⟨?_, (hbh.cell (by simp <;> omega)).trans (by assumption), (hbh.cell (by simp <;> omega)).trans (by assumption), (hbh.cell (by simp <;> omega)).trans (by assumption), (hbh.cell (by simp <;> omega)).trans (by assumption), (hbh.cell (by simp <;> omega)).trans (by assumption), (hbh.cell (by simp <;> omega)).trans (by assumption), (hbh.cell (by simp <;> omega)).trans (by assumption), (hbh.cell (by simp <;> omega)).trans (by assumption), (hbh.cell (by simp <;> omega)).trans (by assumption), (hbh.cell (by simp <;> omega)).trans (by assumption), (hbh.cell (by simp <;> omega)).trans (by assumption), (hbh.cell (by simp <;> omega)).trans (by assumption), (hbh.cell (by simp <;> omega)).trans (by assumption), by have := hbh.size; omega, by have := hbh.size; omega, by have := hbh.size; omega, Below.trans (by assumption) (hbh.mono (by assumption))⟩; simp only [h0, h1, h2, h3]; rfl)); (try simp only [Act.put, List.setIfInBounds_toArray, List.set_cons_zero, List.set_cons_succ]); go_big_quiet_on)))
  with_reducible refine wpQuiet_nil ?_
  intro w hcl
  (try dsimp only at hcl)
  go_split_ands
  rename_i hbl
  have HE := Lib.hid (HB.out.trans (hbl.mono HB.out.size))
  clear hbl HB
  go_wp2_with fail
  go_ret
  exact ⟨rfl, HE.out⟩
set_option maxRecDepth 100000 in
set_option maxHeartbeats 3200000 in
theorem maypp_4 (p : Pp) (w : World)
    (h0 : inB 0 2 p.bipred = true) (h1 : inB 0 51 p.qp = true) (h2 : inB (-12) 12 p.cqp = true) (h3 : inB 1 8 p.a0 = true) (h4 : inB 1 8 p.a1 = false)
    : Calls Tryz.prog 41 #[.agg (ppV p)] w fun e w' => e = .returned (.bool false) ∧ Below w.heap.size w w' := by
  obtain ⟨cabac, weighted, bipred, qp, cqp, con, deb, a0, a1⟩ := p
  simp only [ppV] at *
  obtain ⟨wz, rfl⟩ : ∃ wz : World, wz = w := ⟨_, rfl⟩
  have hB0 := ((Below.refl wz.heap.size wz).alloc (Nat.le_refl _) (.cells #[.bool cabac, .bool weighted, .int .i64 bipred, .int .i64 qp, .int .i64 cqp, .bool con, .bool deb, .int .i64 a0, .int .i64 a1] 31)).alloc (by simp) (.cells (rg0 0 0) 145)
  have hP0 := (Bk.new wz 31 #[.bool cabac, .bool weighted, .int .i64 bipred, .int .i64 qp, .int .i64 cqp, .bool con, .bool deb, .int .i64 a0, .int .i64 a1]).alloc (.cells (rg0 0 0) 145)
  have hR0 := Bk.new (wz.alloc (.cells #[.bool cabac, .bool weighted, .int .i64 bipred, .int .i64 qp, .int .i64 cqp, .bool con, .bool deb, .int .i64 a0, .int .i64 a1] 31)) 145 (rg0 0 0)
  rw [World.size_alloc] at hR0
  have HB0 := Lib.hid hB0
  have HP0 := Lib.hid hP0
  have HR0 := Lib.hid hR0
  clear hB0 hP0 hR0
  go_enter Tryz.func41, Tryz.ntmps41
  go_wp2_with fail
  refine (get_any (wz.heap.size + 1) _ HR0.out).mono ?_
  rintro e w ⟨rfl, hr, ht⟩
  have hp := HP0.out.touch ht (by omega)
  have hb := Below.touch HB0.out ht (fun i hi h => by omega) (Nat.le_refl _)
  have HB := Lib.hid hb
  clear HR0 HP0 HB0 ht
  have p2 := hp.cell 2
  have p3 := hp.cell 3
  have p4 := hp.cell 4
  have p7 := hp.cell 7
  have p8 := hp.cell 8
  have r11 := hr.cell 11
  have r12 := hr.cell 12
  have r13 := hr.cell 13
  have r14 := hr.cell 14
  have r15 := hr.cell 15
  have r16 := hr.cell 16
  have r17 := hr.cell 17
  have r18 := hr.cell 18
  have hlp := hp.lt
  have hlr := hr.lt
  simp [rgV] at p2 p3 p4 p7 p8 r11 r12 r13 r14 r15 r16 r17 r18
  have hN0 := HB.out.size
  obtain ⟨N, hN⟩ : ∃ N, N = wz.heap.size := ⟨_, rfl⟩
  rw [← hN] at hlp hlr p2 p3 p4 p7 p8 r11 r12 r13 r14 r15 r16 r17 r18 hN0 ⊢
  have HN := Lib.hid hN
  clear hr hp hb hN
  go_wp2_with fail
  refine wp_region_class (fun w' => w'.cell? ⟨N, 2, none⟩ = some (.int .i64 bipred) ∧ w'.cell? ⟨N, 3, none⟩ = some (.int .i64 qp) ∧ w'.cell? ⟨N, 4, none⟩ = some (.int .i64 cqp) ∧ w'.cell? ⟨N, 7, none⟩ = some (.int .i64 a0) ∧ w'.cell? ⟨N, 8, none⟩ = some (.int .i64 a1) ∧ w'.cell? ⟨(N + 1), 11, none⟩ = some (.int .i64 1) ∧ w'.cell? ⟨(N + 1), 12, none⟩ = some (.int .i64 8) ∧ w'.cell? ⟨(N + 1), 13, none⟩ = some (.int .i64 0) ∧ w'.cell? ⟨(N + 1), 14, none⟩ = some (.int .i64 2) ∧ w'.cell? ⟨(N + 1), 15, none⟩ = some (.int .i64 0) ∧ w'.cell? ⟨(N + 1), 16, none⟩ = some (.int .i64 51) ∧ w'.cell? ⟨(N + 1), 17, none⟩ = some (.int .i64 (-12)) ∧ w'.cell? ⟨(N + 1), 18, none⟩ = some (.int .i64 12) ∧ (N + 1) < w'.heap.size ∧ N < w'.heap.size ∧ w.heap.size ≤ w'.heap.size ∧ Below w.heap.size w w') (by kernel_rfl) (by kernel_rfl) ⟨by simp [go_sem, *], by simp [go_sem, *], by simp [go_sem, *], by simp [go_sem, *], by simp [go_sem, *], by simp [go_sem, *], by simp [go_sem, *], by simp [go_sem, *], by simp [go_sem, *], by simp [go_sem, *], by simp [go_sem, *], by simp [go_sem, *], by simp [go_sem, *], by simp [go_sem] <;> omega, by simp [go_sem] <;> omega, by simp [go_sem] <;> omega, (by repeat (first | exact Below.refl _ _ | assumption | refine Below.alloc ?_ (by first | omega | (simp <;> omega)) _ | refine Below.drew ?_ | refine Below.setCell ?_ (by first | omega | (simp <;> omega)) _))⟩ ?_
  repeat (first
    | go_big_quiet_skip
    | (go_big_quiet_want; first
        | (go_big_quiet_op; go_big_quiet_on)
        | (refine qv_val (v := ?_) ?_ ?_; rotate_left 1; (intro w' hw'; (try dsimp only at hw'); go_split_ands; go_simp; (try with_reducible rfl)); (try simp only [Act.put, List.setIfInBounds_toArray, List.set_cons_zero, List.set_cons_succ]); go_big_quiet_on)
        | (refine qv_call (v := ?_) (f := ?_) (args := ?_) ?_ ?_ ?_; rotate_left 3; (intro w' hw'; (try dsimp only at hw'); go_split_ands; go_simp; (refine ⟨?_, ?_⟩ <;> rfl)); (first | (intro w' hw'; go_split_ands; refine (has_in _ _ _ _).mono ?_; rintro e wh ⟨rfl, hbh⟩; refine ⟨?_, (hbh.cell (by simp <;> omega)).trans (by assumption), (hbh.cell (by simp <;> omega)).trans (by assumption), (hbh.cell (by simp <;> omega)).trans (by assumption), (hbh.cell (by simp <;> omega)).trans (by assumption), (hbh.cell (by simp <;> omega)).trans (by assumption), (hbh.cell (by simp <;> omega)).trans (by assumption), (hbh.cell (by simp <;> omega)).trans (by assumption), (hbh.cell (by simp <;> omega)).trans (by assumption), (hbh.cell (by simp <;> omega)).trans (by assumption), (hbh.cell (by simp <;> omega)).trans (by assumption), (hbh.cell (by simp <;> omega)).trans (by assumption), (hbh.cell (by simp <;> omega)).trans (by assumption), (hbh.cell (by simp <;> omega)).trans (by assumption), by have := hbh.size; omega, by have := hbh.size; omega, by have := hbh.size; omega, Below.trans (by assumption) (hbh.mono (by assumption))⟩; simp only [h0, h1, h2, h3, h4]; rfl)); (try simp only [Act.put, List.setIfInBounds_toArray, List.set_cons_zero, List.set_cons_succ]); go_big_quiet_on)))
  with_reducible refine wpQuiet_nil ?_
  intro w hcl
  (try dsimp only at hcl)
  go_split_ands
  rename_i hbl
  have HE := Lib.hid (HB.out.trans (hbl.mono HB.out.size))
  clear hbl HB
  go_wp2_with fail
  go_ret
  exact ⟨rfl, HE.out⟩
set_option maxRecDepth 100000 in
set_option maxHeartbeats 3200000 in
theorem maypp_5 (p : Pp) (w : World)
    (h0 : inB 0 2 p.bipred = true) (h1 : inB 0 51 p.qp = true) (h2 : inB (-12) 12 p.cqp = true) (h3 : inB 1 8 p.a0 = true) (h4 : inB 1 8 p.a1 = true)
    : Calls Tryz.prog 41 #[.agg (ppV p)] w fun e w' => e = .returned (.bool true) ∧ Below w.heap.size w w' := by
  obtain ⟨cabac, weighted, bipred, qp, cqp, con, deb, a0, a1⟩ := p
  simp only [ppV] at *
  obtain ⟨wz, rfl⟩ : ∃ wz : World, wz = w := ⟨_, rfl⟩
  have hB0 := ((Below.refl wz.heap.size wz).alloc (Nat.le_refl _) (.cells #[.bool cabac, .bool weighted, .int .i64 bipred, .int .i64 qp, .int .i64 cqp, .bool con, .bool deb, .int .i64 a0, .int .i64 a1] 31)).alloc (by simp) (.cells (rg0 0 0) 145)
  have hP0 := (Bk.new wz 31 #[.bool cabac, .bool weighted, .int .i64 bipred, .int .i64 qp, .int .i64 cqp, .bool con, .bool deb, .int .i64 a0, .int .i64 a1]).alloc (.cells (rg0 0 0) 145)
  have hR0 := Bk.new (wz.alloc (.cells #[.bool cabac, .bool weighted, .int .i64 bipred, .int .i64 qp, .int .i64 cqp, .bool con, .bool deb, .int .i64 a0, .int .i64 a1] 31)) 145 (rg0 0 0)
  rw [World.size_alloc] at hR0
  have HB0 := Lib.hid hB0
  have HP0 := Lib.hid hP0
  have HR0 := Lib.hid hR0
  clear hB0 hP0 hR0
  go_enter Tryz.func41, Tryz.ntmps41
  go_wp2_with fail
  refine (get_any (wz.heap.size + 1) _ HR0.out).mono ?_
  rintro e w ⟨rfl, hr, ht⟩
  have hp := HP0.out.touch ht (by omega)
  have hb := Below.touch HB0.out ht (fun i hi h => by omega) (Nat.le_refl _)
  have HB := Lib.hid hb
  clear HR0 HP0 HB0 ht
  have p2 := hp.cell 2
  have p3 := hp.cell 3
  have p4 := hp.cell 4
  have p7 := hp.cell 7
  have p8 := hp.cell 8
  have r11 := hr.cell 11
  have r12 := hr.cell 12
  have r13 := hr.cell 13
  have r14 := hr.cell 14
  have r15 := hr.cell 15
  have r16 := hr.cell 16
  have r17 := hr.cell 17
  have r18 := hr.cell 18
  have hlp := hp.lt
  have hlr := hr.lt
  simp [rgV] at p2 p3 p4 p7 p8 r11 r12 r13 r14 r15 r16 r17 r18
  have hN0 := HB.out.size
  obtain ⟨N, hN⟩ : ∃ N, N = wz.heap.size := ⟨_, rfl⟩
  rw [← hN] at hlp hlr p2 p3 p4 p7 p8 r11 r12 r13 r14 r15 r16 r17 r18 hN0 ⊢
  have HN := Lib.hid hN
  clear hr hp hb hN
  go_wp2_with fail
  refine wp_region_class (fun w' => w'.cell? ⟨N, 2, none⟩ = some (.int .i64 bipred) ∧ w'.cell? ⟨N, 3, none⟩ = some (.int .i64 qp) ∧ w'.cell? ⟨N, 4, none⟩ = some (.int .i64 cqp) ∧ w'.cell? ⟨N, 7, none⟩ = some (.int .i64 a0) ∧ w'.cell? ⟨N, 8, none⟩ = some (.int .i64 a1) ∧ w'.cell? ⟨(N + 1), 11, none⟩ = some (.int .i64 1) ∧ w'.cell? ⟨(N + 1), 12, none⟩ = some (.int .i64 8) ∧ w'.cell? ⟨(N + 1), 13, none⟩ = some (.int .i64 0) ∧ w'.cell? ⟨(N + 1), 14, none⟩ = some (.int .i64 2) ∧ w'.cell? ⟨(N + 1), 15, none⟩ = some (.int .i64 0) ∧ w'.cell? ⟨(N + 1), 16, none⟩ = some (.int .i64 51) ∧ w'.cell? ⟨(N + 1), 17, none⟩ = some (.int .i64 (-12)) ∧ w'.cell? ⟨(N + 1), 18, none⟩ = some (.int .i64 12) ∧ (N + 1) < w'.heap.size ∧ N < w'.heap.size ∧ w.heap.size ≤ w'.heap.size ∧ Below w.heap.size w w') (by kernel_rfl) (by kernel_rfl) ⟨by simp [go_sem, *], by simp [go_sem, *], by simp [go_sem, *], by simp [go_sem, *], by simp [go_sem, *], by simp [go_sem, *], by simp [go_sem, *], by simp [go_sem, *], by simp [go_sem, *], by simp [go_sem, *], by simp [go_sem, *], by simp [go_sem, *], by simp [go_sem, *], by simp [go_sem] <;> omega, by simp [go_sem] <;> omega, by simp [go_sem] <;> omega, (by repeat (first | exact Below.refl _ _ | assumption | refine Below.alloc ?_ (by first | omega | (simp <;> omega)) _ | refine Below.drew ?_ | refine Below.setCell ?_ (by first | omega | (simp <;> omega)) _))⟩ ?_
  repeat (first
    | go_big_quiet_skip
    | (go_big_quiet_want; first
        | (go_big_quiet_op; go_big_quiet_on)
        | (refine qv_val (v := ?_) ?_ ?_; rotate_left 1; (intro w' hw'; (try dsimp only at hw'); go_split_ands; go_simp; (try with_reducible rfl)); (try simp only [Act.put, List.setIfInBounds_toArray, List.set_cons_zero, List.set_cons_succ]); go_big_quiet_on)
        | (refine qv_call (v := ?_) (f := ?_) (args := ?_) ?_ ?_ ?_; rotate_left 3; (intro w' hw'; (try dsimp only at hw'); go_split_ands; go_simp; (refine ⟨?_, ?_⟩ <;> rfl)); (first | (intro w' hw'; go_split_ands; refine (has_in _ _ _ _).mono ?_; rintro e wh ⟨rfl, hbh⟩; refine ⟨?_, (hbh.cell (by simp <;> omega)).trans (by assumption), (hbh.cell (by simp <;> omega)).trans (by assumption), (hbh.cell (by simp <;> omega)).trans (by assumption), (hbh.cell (by simp <;> omega)).trans (by assumption), (hbh.cell (by simp <;> omega)).trans (by assumption), (hbh.cell (by simp <;> omega)).trans (by assumption), (hbh.cell (by simp <;> omega)).trans (by assumption), (hbh.cell (by simp <;> omega)).trans (by assumption), (hbh.cell (by simp <;> omega)).trans (by assumption), (hbh.cell (by simp <;> omega)).trans (by assumption), (hbh.cell (by simp <;> omega)).trans (by assumption), (hbh.cell (by simp <;> omega)).trans (by assumption), (hbh.cell (by simp <;> omega)).trans (by assumption), by have := hbh.size; omega, by have := hbh.size; omega, by have := hbh.size; omega, Below.trans (by assumption) (hbh.mono (by assumption))⟩; simp only [h0, h1, h2, h3, h4]; rfl)); (try simp only [Act.put, List.setIfInBounds_toArray, List.set_cons_zero, List.set_cons_succ]); go_big_quiet_on)))
  with_reducible refine wpQuiet_nil ?_
  intro w hcl
  (try dsimp only at hcl)
  go_split_ands
  rename_i hbl
  have HE := Lib.hid (HB.out.trans (hbl.mono HB.out.size))
  clear hbl HB
  go_wp2_with fail
  go_ret
  exact ⟨rfl, HE.out⟩
theorem maypp_any (p : Pp) (w : World) : Calls Tryz.prog 41 #[.agg (ppV p)] w fun e w' => e = .returned (.bool (mayPp p)) ∧ Below w.heap.size w w' := by
  by_cases h0 : 0 ≤ p.bipred ∧ p.bipred ≤ 2
  · by_cases h1 : 0 ≤ p.qp ∧ p.qp ≤ 51
    · by_cases h2 : -12 ≤ p.cqp ∧ p.cqp ≤ 12
      · by_cases h3 : 1 ≤ p.a0 ∧ p.a0 ≤ 8
        · by_cases h4 : 1 ≤ p.a1 ∧ p.a1 ≤ 8
          · rw [(mayPp_iff p).2 ⟨h0, h1, h2, h3, h4⟩]
            exact maypp_5 p w (inB_yes h0) (inB_yes h1) (inB_yes h2) (inB_yes h3) (inB_yes h4)
          · rw [show mayPp p = false from decide_eq_false fun q => h4 q.2.2.2.2]
            exact maypp_4 p w (inB_yes h0) (inB_yes h1) (inB_yes h2) (inB_yes h3) (inB_no h4)
        · rw [show mayPp p = false from decide_eq_false fun q => h3 q.2.2.2.1]
          exact maypp_3 p w (inB_yes h0) (inB_yes h1) (inB_yes h2) (inB_no h3)
      · rw [show mayPp p = false from decide_eq_false fun q => h2 q.2.2.1]
        exact maypp_2 p w (inB_yes h0) (inB_yes h1) (inB_no h2)
    · rw [show mayPp p = false from decide_eq_false fun q => h1 q.2.1]
      exact maypp_1 p w (inB_yes h0) (inB_no h1)
  · rw [show mayPp p = false from decide_eq_false fun q => h0 q.1]
    exact maypp_0 p w (inB_no h0)

end Go.Proofs.YtjokibagciehlaaGreat
