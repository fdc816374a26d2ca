/- xform.Forward; the command forward. -/
import Derived.Test.YtfignfohcalcfaaGreatDoorConO
namespace Go.Proofs.YtfignfohcalcfaaGreatDoor
open Go.RowKit
set_option linter.unusedVariables false
set_option linter.unusedSimpArgs false

theorem fwdF_length (l : List Int) : (fwdF l).length = 16 := by unfold fwdF; rw [colsF_length]
theorem arr16_fwd (a : Act) (w : World) (B : Nat) (cs : Array Value) (h2 : a.tmps.getD 2 undef = .pointer (some ⟨B, 0, none⟩)) (hg : Bk w B 38 cs) (hs : cs.size = 16) :
    (results Tryz.f17 a.tmps).run Tryz.prog w = .ok (.agg cs) w := by
  have h2' : a.tmps[2]?.getD undef = .pointer (some ⟨B, 0, none⟩) := by simpa using h2
  have hl := run_loadVar_row (P := Tryz.prog) w B 38 38 cs (0, 0) _ hg Tryz.underlying38 rfl (by rw [hs]; kernel_rfl)
  simp [results, Tryz.results17, h2', asAddr, hl, Sem.run_bind]
set_option maxRecDepth 100000 in
set_option maxHeartbeats 3200000 in
theorem forward_any (l : List Int) (w : World) (hl : l.length = 16) :
    Calls Tryz.prog 17 #[.agg (iA l)] w fun e w' => e = .returned (.agg (iA (fwdF l))) ∧ Below w.heap.size w w' := by
  obtain ⟨m, hm⟩ : ∃ m, fwdF l = m := ⟨_, rfl⟩
  have hml : m.length = 16 := by rw [← hm, fwdF_length]
  have HC := Lib.hid (fun w => clipped_any l w hl)
  have hcl : (l.map (clipN (-1048576) · 1048576)).length = 16 := by rw [List.length_map, hl]
  have HR := Lib.hid (fun w => rows_any (l.map (clipN (-1048576) · 1048576)) w hcl (fun j hj => clip_bd l j hl hj))
  have e : colsF (rowsF (l.map (clipN (-1048576) · 1048576))) = m := by rw [← hm]; rfl
  obtain ⟨p, hp⟩ : ∃ p, l.map (clipN (-1048576) · 1048576) = p := ⟨_, rfl⟩
  rw [hp] at HC HR e
  rw [e] at HR
  rw [hm]
  clear e hp hm hcl
  obtain ⟨r, hr⟩ : ∃ r, w.heap.size = r := ⟨_, rfl⟩
  have k0 := (Bk.new w 38 (iA l)).alloc (.cells z16 38)
  have kz := Bk.new (w.alloc (.cells (iA l) 38)) 38 z16
  rw [World.size_alloc] at kz
  have hb0 : Below w.heap.size w ((w.alloc (.cells (iA l) 38)).alloc (.cells z16 38)) := ((Below.refl _ _).alloc (Nat.le_refl _) _).alloc (by simp) _
  have HS := Lib.hid (And.intro k0 (And.intro kz hb0))
  clear k0 kz hb0
  go_enter Tryz.func17, Tryz.ntmps17
  go_upto_region 1 with fail
  change Code.wp _ _ _ _ ((w.alloc (Obj.cells (iA l) 38)).alloc (Obj.cells z16 38))
  obtain ⟨w0, hw0⟩ : ∃ x, x = (w.alloc (.cells (iA l) 38)).alloc (.cells z16 38) := ⟨_, rfl⟩
  have HS0 := HS.out
  rw [← hw0] at HS0 ⊢
  clear HS hw0
  have HB0 := Lib.hid HS0.2.2
  rw [hr] at HS0
  have HR2 := Lib.hid hr
  have HS1 := Lib.hid HS0
  clear HS0
  go_wp2_with (refine wpList_load_row rfl _ _ rfl r rfl 38 (iA l) (0, 0) _ HS1.out.1 Tryz.underlying38 rfl (by rw [iA_size, hl]; kernel_rfl) ?_)
  refine (HC.out _).mono ?_
  rintro e w1 ⟨rfl, hb1⟩
  have HZ1 := Lib.hid (Bk.go HS1.out.2.1 hb1)
  have HB1 := Lib.hid (HB0.out.trans (hb1.mono HB0.out.size))
  clear hb1 HS1 HB0
  go_wp2_with fail
  refine (HR.out _).mono ?_
  rintro e w2 ⟨rfl, hb2⟩
  have HZ2 := Lib.hid (Bk.go HZ1.out hb2)
  have HB2 := Lib.hid (HB1.out.trans (hb2.mono HB1.out.size))
  clear hb2 HZ1 HB1
  go_wp2_with (refine wpList_store_row rfl _ _ _ rfl (r + 1) (iA m) rfl rfl _ _ HZ2.out (by rw [iA_size, hml]; kernel_rfl) (by rw [iA_size, hml]; rfl) (iA_all m) ?_)
  have hF : Ending.returned (.agg (iA m)) = .returned (.agg (iA m)) ∧ Below w.heap.size w (w2.setRow (r + 1) (iA m)) :=
    ⟨rfl, below_setRow HB2.out (by rw [HR2.out]; omega) _⟩
  exact bodyPost_ret (arr16_fwd _ _ (r + 1) (iA m) rfl (bk_setRow HZ2.out) (by rw [iA_size, hml])) rfl hF

section
variable {P : Program}
theorem run_loadVar_list (w : World) (a : Addr) (ty : TypeId) (cs : List Value) (d : TypeDesc) (hc : ∀ j v, cs[j]? = some v → w.cell? (a.add j) = some v)
    (hu : P.underlying ty = some d) (hd : (match d with | .struct _ | .array _ _ => true | _ => false) = true) (hi : (P.info? ty).map (·.size) = some cs.length) :
    (loadVar ty a).run P w = .ok (.agg cs.toArray) w := by
  have hl : (loadCells a cs.length).run P w = .ok cs.toArray w := run_loadCells_list (P := P) w a cs hc
  cases hq : P.info? ty with
  | none => simp [hq] at hi
  | some i =>
    have hs : i.size = cs.length := by simpa [hq] using hi
    have hagg : (isAgg ty).run P w = .ok true w := by
      unfold isAgg
      rw [Sem.run_bind, run_underlying hu w]
      cases d <;> simp_all
    simp [loadVar, Sem.run_bind, hagg, sizeOf, typeInfo, hq, hs, hl]
theorem wp_load_list {o : Oper} {a : Act} {w : World} {K : Act → World → Prop} {Q : Exit → Act → World → Prop} (ty : TypeId) (x : Operand) (ho : o.op = .load ty x)
    (ad : Addr) (hx : a.eval x = .pointer (some ad)) (cs : List Value) (d : TypeDesc) (hc : ∀ j v, cs[j]? = some v → w.cell? (ad.add j) = some v)
    (hu : P.underlying ty = some d) (hd : (match d with | .struct _ | .array _ _ => true | _ => false) = true) (hi : (P.info? ty).map (·.size) = some cs.length)
    (h : K (a.put o.dst (.agg cs.toArray)) w) : o.wp P a w K Q := by
  unfold Oper.wp execOp
  simp only [ho, hx, Instr.loadAt, Instr.sureAddr, Sem.run_bind, Sem.run_pure, Result.andThen_ok, run_loadVar_list w ad ty cs d hc hu hd hi]
  exact h
theorem wpList_load_list {ops : Array Oper} {rest : List Oper} {o : Oper} {a : Act} {w : World} {Q : Exit → Act → World → Prop} (hgd : o.guard = none) (ty : TypeId) (x : Operand) (ho : o.op = .load ty x)
    (ad : Addr) (hx : a.eval x = .pointer (some ad)) (cs : List Value) (d : TypeDesc) (hc : ∀ j v, cs[j]? = some v → w.cell? (ad.add j) = some v)
    (hu : P.underlying ty = some d) (hd : (match d with | .struct _ | .array _ _ => true | _ => false) = true) (hi : (P.info? ty).map (·.size) = some cs.length)
    (h : wpList P ops Q rest (a.put o.dst (.agg cs.toArray)) w) : wpList P ops Q (o :: rest) a w :=
  wpList_plain hgd fun _ hK => wp_load_list ty x ho ad hx cs d hc hu hd hi (hK _ _ h)
end
theorem arr_of_slice (g c : Nat) (w : World) : (Instr.arrayAt 38 (.slice (some ⟨g, 0, none⟩) 16 c)).run Tryz.prog w = .ok (.pointer (some ⟨g, 0, none⟩)) w := by
  simp [Instr.arrayAt, go_sem]
theorem g16_abs (l : List Int) (h : ∀ x ∈ fwdF l, I64 x) : ∀ x ∈ fwdF l, -9223372036854775808 ≤ x ∧ x ≤ 9223372036854775807 := h
theorem cols_bd (l : List Int) (h : ∀ j, j < 16 → Sm 20000000 (g16 l j)) : ∀ x ∈ colsF l, I64 x := by
  intro x hx
  unfold colsF at hx
  obtain ⟨j, hj, rfl⟩ := List.mem_map.1 hx
  have hj := List.mem_range.1 hj
  have h0 := h (j % 4) (by omega)
  have h1 := h (4 + j % 4) (by omega)
  have h2 := h (8 + j % 4) (by omega)
  have h3 := h (12 + j % 4) (by omega)
  obtain ⟨i, hi⟩ : ∃ i, j / 4 = i := ⟨_, rfl⟩
  rw [hi]
  have hi4 : i = 0 ∨ i = 1 ∨ i = 2 ∨ i = 3 := by omega
  unfold Sm at *
  rcases hi4 with rfl | rfl | rfl | rfl <;> (simp only [g16, fwd4, List.getD_cons_zero, List.getD_cons_succ] at *; unfold I64; omega)
theorem fwd_bd (l : List Int) (hl : l.length = 16) : ∀ x ∈ fwdF l, I64 x := cols_bd _ (fun j hj => rowsF_bd _ (fun i hi => clip_bd l i hl hi) j hj)
set_option maxRecDepth 100000 in
set_option maxHeartbeats 3200000 in
theorem cfwd_any (l : List Int) (hl : l.length = 16) (g c : Nat) (w : World) (hc : ∀ j, j < 16 → w.cell? ⟨g, j, none⟩ = some (.int .i64 (g16 l j))) (T : Tabs w) :
    Calls Tryz.prog 56 #[.slice (some ⟨g, 0, none⟩) 16 c] w fun e w' => e = .returned (.string (rowF (fwdF l))) ∧ Below w.heap.size w w' := by
  have HF := Lib.hid (fun w => forward_any l w hl)
  have hbd := fwd_bd l hl
  have hml := fwdF_length l
  obtain ⟨m, hm⟩ : ∃ m, fwdF l = m := ⟨_, rfl⟩
  rw [hm] at HF hbd hml ⊢
  have HT := Lib.hid T
  have HBD := Lib.hid hbd
  have HCL := Lib.hid (fun j v (hj : (l.map (Value.int .i64))[j]? = some v) => (by
    have hj2 : j < l.length := by
      have := (List.getElem?_eq_some_iff.1 hj).1
      simpa using this
    rw [add_new, hc j (by omega)]
    rw [← hj]
    simp [g16, hj2] : w.cell? ((⟨g, 0, none⟩ : Addr).add j) = some v))
  clear hm T hbd hc
  have hsl := arr_of_slice g c w
  go_enter Tryz.func56, Tryz.ntmps56
  go_wp2_with (refine wpList_load_list rfl _ _ rfl ⟨g, 0, none⟩ rfl (l.map (Value.int .i64)) _ HCL.out Tryz.underlying38 rfl (by rw [List.length_map, hl]; kernel_rfl) ?_)
  refine (HF.out _).mono ?_
  rintro e w1 ⟨rfl, hb1⟩
  have HB1 := Lib.hid hb1
  have HN : Hid (Bk (w1.alloc (.cells z16 38)) w1.heap.size 38 z16) := Lib.hid (Bk.new _ _ _)
  have HM : Hid (Bk ((w1.alloc (.cells z16 38)).setRow w1.heap.size (iA m)) w1.heap.size 38 (iA m)) := Lib.hid (bk_setRow HN.out)
  have HB2 : Hid (Below w.heap.size w ((w1.alloc (.cells z16 38)).setRow w1.heap.size (iA m))) := Lib.hid (below_setRow (hb1.alloc hb1.size _) hb1.size _)
  obtain ⟨q, hq⟩ : ∃ q, w1.heap.size = q := ⟨_, rfl⟩
  rw [hq] at HN HM HB2
  have HQ := Lib.hid hq
  clear hb1 HB1
  go_wp2_with (refine wpList_store_row rfl _ _ _ rfl q (iA m) (by rw [← HQ.out]; rfl) rfl _ _ HN.out (by rw [iA_size, hml]; kernel_rfl) (by rw [iA_size, hml]; rfl) (iA_all m) ?_)
  obtain ⟨W, hW⟩ : ∃ W, (w1.alloc (.cells z16 38)).setRow q (iA m) = W := ⟨_, rfl⟩
  change Calls _ _ _ ((w1.alloc (.cells z16 38)).setRow q (iA m)) _
  rw [hW] at HM HB2 ⊢
  have hRow := crow_any m (some ⟨q, 0, none⟩) 16 W (fun _ => ⟨⟨q, 0, none⟩, rfl, HM.out.lt, fun k hk => by
    rw [add_new, HM.out.cell, iA_get hml (by omega)]
    rfl⟩) (by omega) (by omega) HBD.out (HT.out.go HB2.out)
  rw [hml] at hRow
  clear hW
  refine hRow.mono ?_
  rintro e w3 ⟨rfl, hb3⟩
  go_wp2_with fail
  go_ret
  exact ⟨rfl, HB2.out.trans (hb3.mono HB2.out.size)⟩
end Go.Proofs.YtfignfohcalcfaaGreatDoor
