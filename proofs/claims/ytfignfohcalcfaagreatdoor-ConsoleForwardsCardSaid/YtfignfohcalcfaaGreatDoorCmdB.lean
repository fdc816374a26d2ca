/- The commands' map: made (get$1). commands.get. -/
import Derived.Test.YtfignfohcalcfaaGreatDoorConR
import Derived.Maps.OwnSet
import Derived.Maps.OwnOps
import Derived.Test.YtfignfohcalcfaaGreatDoorConF
namespace Go.Proofs.YtfignfohcalcfaaGreatDoor
open Go.RowKit Go.Maps
set_option linter.unusedVariables false
set_option linter.unusedSimpArgs false

def cmdKey : Cmd → List UInt8
  | .ue => [117, 101]
  | .se => [115, 101]
  | .bins => [98, 105, 110, 115]
  | .forward => [102, 111, 114, 119, 97, 114, 100]
  | .qp => [113, 112]
  | .poc => [112, 111, 99]
  | .median => [109, 101, 100, 105, 97, 110]
def Cmd.fid : Cmd → Nat
  | .ue => 50
  | .se => 53
  | .bins => 55
  | .forward => 56
  | .qp => 58
  | .poc => 60
  | .median => 61
def cmdVal (c : Cmd) : Value := .agg #[.int .i64 c.many, .func (.func c.fid) #[] #[]]
def cmdNo : Value := .agg #[.int .i64 0, .nilFunc]
def cmdDat (c : Cmd) : DataW Unit := .agg [.lit (.int .i64 c.many), .lit (.int .i64 c.fid)]
theorem fid_inj {c d : Cmd} (h : c.fid = d.fid) : c = d := by cases c <;> cases d <;> first | rfl | (exfalso; revert h; decide)
theorem cmdVal_inj {c d : Cmd} (h : cmdVal c = cmdVal d) : c = d := by
  unfold cmdVal at h
  simp at h
  exact fid_inj h.2
theorem cmdDat_inj {c d : Cmd} (h : cmdDat c = cmdDat d) : c = d := by
  unfold cmdDat at h
  simp at h
  exact fid_inj (by omega)
theorem cmdNo_ne (c : Cmd) : cmdNo ≠ cmdVal c := by
  intro h
  unfold cmdVal cmdNo at h
  simp at h
open Classical in
noncomputable def cmdR (v : Value) : Option (DataW Unit × List MemPlace) :=
  if h : ∃ c, v = cmdVal c then some (cmdDat (Classical.choose h), []) else if v = cmdNo then some (.agg [.lit (.int .i64 0)], []) else none
theorem cmdR_val (c : Cmd) : cmdR (cmdVal c) = some (cmdDat c, []) := by
  have h : ∃ d, cmdVal c = cmdVal d := ⟨c, rfl⟩
  unfold cmdR
  rw [dif_pos h]
  rw [← cmdVal_inj (Classical.choose_spec h)]
theorem cmdR_zero : cmdR cmdNo = some (.agg [.lit (.int .i64 0)], []) := by
  unfold cmdR
  rw [dif_neg (fun h => by obtain ⟨c, h⟩ := h; exact cmdNo_ne c h), if_pos rfl]
theorem cmdR_inv {v : Value} {c : Cmd} {ps : List MemPlace} (h : cmdR v = some (cmdDat c, ps)) : v = cmdVal c := by
  unfold cmdR at h
  split at h
  · rename_i hx
    injection h with h
    rw [← cmdDat_inj (Prod.mk.inj h).1]
    exact Classical.choose_spec hx
  · split at h
    · injection h with h
      have := (Prod.mk.inj h).1
      unfold cmdDat at this
      simp at this
    · cases h
theorem cmdR_no {v : Value} {ps : List MemPlace} (h : cmdR v = some (.agg [.lit (.int .i64 0)], ps)) : v = cmdNo := by
  unfold cmdR at h
  split at h
  · injection h with h
    have := (Prod.mk.inj h).1
    unfold cmdDat at this
    simp at this
  · split at h
    · assumption
    · cases h
def cmds : List Cmd := [.ue, .se, .bins, .forward, .qp, .poc, .median]
def cmdM (n : Nat) : DataW Unit := (cmds.take n).foldl (fun D c => D.put (.string (cmdKey c)) (cmdDat c)) (.map [])
theorem slaw : Keyed Tryz.prog 9 := string_keyed Tryz.underlying9
theorem zeroC (w : World) : (zeroValue 89).run Tryz.prog w = .ok cmdNo w := by kernel_rfl
theorem wpList_insert_own {P : Program} (w : World) {ops : Array Oper} {rest : List Oper} {o : Oper} {a : Act} {Q : Exit → Act → World → Prop}
    (hg : o.guard = none) (m x v : Operand) (t : TypeId) (hop : o.op = Op.insert t m x v)
    (k e : TypeId) (K : Keyed P k) (ht : P.underlying t = some (.map k e)) (R : Value → Option (DataW Unit × List MemPlace)) (b n : Nat) (D : DataW Unit)
    (hm : a.eval m = .map (some b)) (hown : w.ownsMap P k R b n D) (hn : n < maxLen) (key val : Value) (kl : Lit) (hx : a.eval x = key) (hv : a.eval v = val) (hkey : keyOf P k key = some kl)
    (d : DataW Unit) (ps : List MemPlace) (hval : R val = some (d, ps))
    (hK : ∀ w', w'.ownsMap P k R b (n + 1) (D.put kl d) → w.grownBy w' (some b) → wpList P ops Q rest (a.put o.dst undef) w') :
    wpList P ops Q (o :: rest) a w := by
  refine wpList_plain hg fun K' hK' => ?_
  obtain ⟨w', hrun, r1, r2⟩ := hown.update K ht hn hkey hval
  unfold Oper.wp
  simp [execOp, hop, hm, hx, hv, hrun, Result.andThen]
  exact hK' _ _ (hK w' r1 r2)
def MapAt (w : World) (mb n : Nat) : Prop := w.ownsMap Tryz.prog 9 cmdR mb n (cmdM n)
set_option maxRecDepth 100000 in
set_option maxHeartbeats 3200000 in
theorem cinit_any (b c : Nat) (cs : Array Value) (w : World) (hb : Bk w b 59 cs) (hs : cs.size = 4) (hc : w.cell? ⟨c, 0, none⟩ = some (.pointer (some ⟨b, 0, none⟩))) :
    Calls Tryz.prog 49 #[.pointer (some ⟨c, 0, none⟩)] w fun e w' => e = .returned (.tuple #[]) ∧ Bk w' b 59 (cs.setIfInBounds 3 (.map (some w.heap.size))) ∧ MapAt w' w.heap.size 7 ∧ Touch (fun k => k = b) w w' := by
  have hmm := @run_makeMap Tryz.prog
  have hbl := hb.lt
  have HBK := Lib.hid hb
  have h0 : MapAt (w.alloc (.map #[] 0)) w.heap.size 0 := World.ownsMap_made w Tryz.prog 9 cmdR
  have b0 := (Below.refl w.heap.size w).alloc (Nat.le_refl _) (.map #[] 0)
  obtain ⟨mb, hmb⟩ : ∃ mb, w.heap.size = mb := ⟨_, rfl⟩
  rw [hmb] at h0
  have HM0 := Lib.hid h0
  have HB0 := Lib.hid b0
  have HMB := Lib.hid hmb
  clear h0 b0 hb
  go_enter Tryz.func49, Tryz.ntmps49

  go_wp2_with (refine wpList_insert_own _ rfl _ _ _ 57 rfl 9 89 slaw Tryz.underlying57 cmdR mb 0 (cmdM 0) rfl HM0.out (by unfold maxLen; omega) _ _ (.string (cmdKey .ue)) rfl rfl (WideMaps.keyOf_string_mk Tryz.underlying9 (by unfold maxLen; decide)) (cmdDat .ue) [] (cmdR_val .ue) ?_)
  intro w1 hm1 hg1
  have HM1 : Hid (MapAt w1 mb 1) := Lib.hid hm1
  have HB1 := Lib.hid (HB0.out.grown hg1 (Nat.le_trans (Nat.le_refl _) HB0.out.size) (fun k hk => by cases hk; exact Nat.le_of_eq HMB.out))
  clear hm1 hg1 HM0 HB0
  go_wp2_with (refine wpList_insert_own _ rfl _ _ _ 57 rfl 9 89 slaw Tryz.underlying57 cmdR mb 1 (cmdM 1) rfl HM1.out (by unfold maxLen; omega) _ _ (.string (cmdKey .se)) rfl rfl (WideMaps.keyOf_string_mk Tryz.underlying9 (by unfold maxLen; decide)) (cmdDat .se) [] (cmdR_val .se) ?_)
  intro w2 hm2 hg2
  have HM2 : Hid (MapAt w2 mb 2) := Lib.hid hm2
  have HB2 := Lib.hid (HB1.out.grown hg2 (Nat.le_trans (Nat.le_refl _) HB1.out.size) (fun k hk => by cases hk; exact Nat.le_of_eq HMB.out))
  clear hm2 hg2 HM1 HB1
  go_wp2_with (refine wpList_insert_own _ rfl _ _ _ 57 rfl 9 89 slaw Tryz.underlying57 cmdR mb 2 (cmdM 2) rfl HM2.out (by unfold maxLen; omega) _ _ (.string (cmdKey .bins)) rfl rfl (WideMaps.keyOf_string_mk Tryz.underlying9 (by unfold maxLen; decide)) (cmdDat .bins) [] (cmdR_val .bins) ?_)
  intro w3 hm3 hg3
  have HM3 : Hid (MapAt w3 mb 3) := Lib.hid hm3
  have HB3 := Lib.hid (HB2.out.grown hg3 (Nat.le_trans (Nat.le_refl _) HB2.out.size) (fun k hk => by cases hk; exact Nat.le_of_eq HMB.out))
  clear hm3 hg3 HM2 HB2
  go_wp2_with (refine wpList_insert_own _ rfl _ _ _ 57 rfl 9 89 slaw Tryz.underlying57 cmdR mb 3 (cmdM 3) rfl HM3.out (by unfold maxLen; omega) _ _ (.string (cmdKey .forward)) rfl rfl (WideMaps.keyOf_string_mk Tryz.underlying9 (by unfold maxLen; decide)) (cmdDat .forward) [] (cmdR_val .forward) ?_)
  intro w4 hm4 hg4
  have HM4 : Hid (MapAt w4 mb 4) := Lib.hid hm4
  have HB4 := Lib.hid (HB3.out.grown hg4 (Nat.le_trans (Nat.le_refl _) HB3.out.size) (fun k hk => by cases hk; exact Nat.le_of_eq HMB.out))
  clear hm4 hg4 HM3 HB3
  go_wp2_with (refine wpList_insert_own _ rfl _ _ _ 57 rfl 9 89 slaw Tryz.underlying57 cmdR mb 4 (cmdM 4) rfl HM4.out (by unfold maxLen; omega) _ _ (.string (cmdKey .qp)) rfl rfl (WideMaps.keyOf_string_mk Tryz.underlying9 (by unfold maxLen; decide)) (cmdDat .qp) [] (cmdR_val .qp) ?_)
  intro w5 hm5 hg5
  have HM5 : Hid (MapAt w5 mb 5) := Lib.hid hm5
  have HB5 := Lib.hid (HB4.out.grown hg5 (Nat.le_trans (Nat.le_refl _) HB4.out.size) (fun k hk => by cases hk; exact Nat.le_of_eq HMB.out))
  clear hm5 hg5 HM4 HB4
  go_wp2_with (refine wpList_insert_own _ rfl _ _ _ 57 rfl 9 89 slaw Tryz.underlying57 cmdR mb 5 (cmdM 5) rfl HM5.out (by unfold maxLen; omega) _ _ (.string (cmdKey .poc)) rfl rfl (WideMaps.keyOf_string_mk Tryz.underlying9 (by unfold maxLen; decide)) (cmdDat .poc) [] (cmdR_val .poc) ?_)
  intro w6 hm6 hg6
  have HM6 : Hid (MapAt w6 mb 6) := Lib.hid hm6
  have HB6 := Lib.hid (HB5.out.grown hg6 (Nat.le_trans (Nat.le_refl _) HB5.out.size) (fun k hk => by cases hk; exact Nat.le_of_eq HMB.out))
  clear hm6 hg6 HM5 HB5
  go_wp2_with (refine wpList_insert_own _ rfl _ _ _ 57 rfl 9 89 slaw Tryz.underlying57 cmdR mb 6 (cmdM 6) rfl HM6.out (by unfold maxLen; omega) _ _ (.string (cmdKey .median)) rfl rfl (WideMaps.keyOf_string_mk Tryz.underlying9 (by unfold maxLen; decide)) (cmdDat .median) [] (cmdR_val .median) ?_)
  intro w7 hm7 hg7
  have HM7 : Hid (MapAt w7 mb 7) := Lib.hid hm7
  have HB7 := Lib.hid (HB6.out.grown hg7 (Nat.le_trans (Nat.le_refl _) HB6.out.size) (fun k hk => by cases hk; exact Nat.le_of_eq HMB.out))
  clear hm7 hg7 HM6 HB6
  have hbk := Bk.go HBK.out HB7.out
  have k3 := hbk.cell 3
  obtain ⟨u, hu⟩ : ∃ u, cs[3]? = some u := ⟨cs[3]'(by omega), Array.getElem?_eq_getElem (by omega)⟩
  rw [hu] at k3
  have f3 := hbk.frozen 3
  have HB8 := Lib.hid (hbk.set_ 3 (.map (some mb)))
  have HT := Lib.hid (Touch.setCell (S := fun k => k = b) (Touch.of_new HB7.out) (p := ⟨b, 3, none⟩) (fun _ => rfl) (.map (some mb)))
  have HM8 := Lib.hid (World.ownsMap.setCell HM7.out (a := ⟨b, 3, none⟩) (by have := HMB.out; simp; omega) (.map (some mb)))
  clear hbk hu
  go_wp2_with fail
  go_end0
  rw [hmb]
  exact ⟨rfl, HB8.out, HM8.out, HT.out⟩
theorem key_ne {k : List UInt8} {c : Cmd} (h : k ≠ cmdKey c) : Lit.string k ≠ Lit.string (cmdKey c) := fun e => h (by injection e)
theorem look_no (k : List UInt8) (h : ∀ c, k ≠ cmdKey c) (z : DataW Unit) : has (cmdM 7) (.string k) = false ∧ (cmdM 7).atKey (.string k) z = z := by
  have e : cmdM 7 = ((((((((.map [] : DataW Unit).put (.string (cmdKey .ue)) (cmdDat .ue)).put (.string (cmdKey .se)) (cmdDat .se)).put (.string (cmdKey .bins)) (cmdDat .bins)).put (.string (cmdKey .forward)) (cmdDat .forward)).put (.string (cmdKey .qp)) (cmdDat .qp)).put (.string (cmdKey .poc)) (cmdDat .poc)).put (.string (cmdKey .median)) (cmdDat .median)) := rfl
  rw [e]
  constructor
  · rw [has_put_other (key_ne (h _)), has_put_other (key_ne (h _)), has_put_other (key_ne (h _)), has_put_other (key_ne (h _)), has_put_other (key_ne (h _)), has_put_other (key_ne (h _)), has_put_other (key_ne (h _))]
    rfl
  · rw [atKey_put_other (key_ne (h _)), atKey_put_other (key_ne (h _)), atKey_put_other (key_ne (h _)), atKey_put_other (key_ne (h _)), atKey_put_other (key_ne (h _)), atKey_put_other (key_ne (h _)), atKey_put_other (key_ne (h _))]
    rfl
theorem look_yes (c : Cmd) (z : DataW Unit) : has (cmdM 7) (.string (cmdKey c)) = true ∧ (cmdM 7).atKey (.string (cmdKey c)) z = cmdDat c := by
  cases c <;> exact ⟨by kernel_rfl, by kernel_rfl⟩
theorem cmdF_some {s : ByteArray} {c : Cmd} (h : cmdF s = some c) : s = tx (cmdKey c) := by
  unfold cmdF at h
  split at h
  · cases h; assumption
  · split at h
    · cases h; assumption
    · split at h
      · cases h; assumption
      · split at h
        · cases h; assumption
        · split at h
          · cases h; assumption
          · split at h
            · cases h; assumption
            · split at h
              · cases h; assumption
              · cases h
theorem cmdF_none {s : ByteArray} (h : cmdF s = none) (c : Cmd) : s.data.toList ≠ cmdKey c := by
  intro e
  have hs : s = tx (cmdKey c) := by rw [← e]; unfold tx; simp
  unfold cmdF at h
  cases c
  all_goals
    subst hs
    revert h
    decide
end Go.Proofs.YtfignfohcalcfaaGreatDoor

namespace Go.Proofs.YtfignfohcalcfaaGreatDoor
open Go.RowKit Go.Maps
set_option linter.unusedVariables false
set_option linter.unusedSimpArgs false

def cC (d : Int) (m : Value) : Array Value := #[.int .u32 d, .int .i32 0, .int .u32 0, m]
theorem MapAt.go {w w' : World} {mb n : Nat} (h : MapAt w mb n) (e : w'.heap[mb]? = w.heap[mb]?) : MapAt w' mb n := by
  obtain ⟨es, clock, hb, r⟩ := h
  exact ⟨es, clock, e.trans hb, r⟩
/-- the commands are there -/
def Made (w : World) (b : Nat) : Prop := ∃ mb, mb ≠ b ∧ Bk w b 59 (cC 1 (.map (some mb))) ∧ MapAt w mb 7
/-- the commands, made or not yet -/
def Cm (w : World) (b : Nat) : Prop := Bk w b 59 (cC 0 (.map none)) ∨ Made w b
theorem Made.go {w w' : World} {b : Nat} (h : Made w b) (hb : Below w.heap.size w w') : Made w' b := by
  obtain ⟨mb, h1, h2, h3⟩ := h
  exact ⟨mb, h1, h2.go hb, h3.go (hb.block mb (World.ownsMap.lt h3))⟩
theorem Cm.go {w w' : World} {b : Nat} (h : Cm w b) (hb : Below w.heap.size w w') : Cm w' b := h.elim (fun h => .inl (h.go hb)) (fun h => .inr (h.go hb))
theorem Cm.lt {w : World} {b : Nat} (h : Cm w b) : b < w.heap.size := by
  rcases h with h | ⟨mb, _, h, _⟩
  · exact h.lt
  · exact h.lt
theorem Cm.bk {w : World} {b : Nat} (h : Cm w b) : ∃ cs, Bk w b 59 cs := by
  rcases h with h | ⟨mb, _, h, _⟩
  · exact ⟨_, h⟩
  · exact ⟨_, h⟩
theorem MapAt.once {w : World} {mb n b : Nat} (h : MapAt w mb n) (hne : mb ≠ b) : MapAt (onceEnd w b) mb n :=
  World.ownsMap.setCell (World.ownsMap.setCell (World.ownsMap.drew h) (a := ⟨b, 0, none⟩) hne _) (a := ⟨b, 1, none⟩) hne _
theorem cdo_any (b c : Nat) (w : World) (h : Cm w b) (hc : Bk w c 44 #[.pointer (some ⟨b, 0, none⟩)]) (hne : c ≠ b) :
    Calls Tryz.prog 48 #[.pointer (some ⟨b, 0, none⟩), .func (.func 49) #[] #[.pointer (some ⟨c, 0, none⟩)]] w fun e w' => e = .returned (.tuple #[]) ∧ Made w' b ∧ Touch (fun k => k = b) w w' := by
  rcases h with h | ⟨mb, h1, h2, h3⟩
  · have b2 : Bk (w.setCell ⟨b, 1, none⟩ (.int .i32 1)) b 59 #[.int .u32 0, .int .i32 1, .int .u32 0, .map none] := h.set_ 1 _
    have c2 : Bk (w.setCell ⟨b, 1, none⟩ (.int .i32 1)) c 44 #[.pointer (some ⟨b, 0, none⟩)] := hc.far (p := ⟨b, 1, none⟩) hne _
    have t2 : Touch (fun k => k = b) w (w.setCell ⟨b, 1, none⟩ (.int .i32 1)) := Touch.setCell (S := fun k => k = b) (Touch.refl _ w) (p := ⟨b, 1, none⟩) (fun _ => rfl) _
    have hlt := b2.lt
    obtain ⟨mb, hmb⟩ : ∃ mb, (w.setCell ⟨b, 1, none⟩ (.int .i32 1)).heap.size = mb := ⟨_, rfl⟩
    have hI := (cinit_any b c _ _ b2 rfl (c2.cell 0)).mono (R' := fun e w2 => e = .returned (.tuple #[]) ∧ (Bk w2 b 59 #[.int .u32 0, .int .i32 1, .int .u32 0, .map (some mb)] ∧ MapAt w2 mb 7 ∧ Touch (fun k => k = b) w w2)) (by
      rintro e w2 ⟨rfl, q1, q2, q3⟩
      rw [hmb] at q1 q2
      exact ⟨rfl, q1, q2, t2.trans q3⟩)
    refine (do_2 b #[.pointer (some ⟨c, 0, none⟩)] (fun w2 => Bk w2 b 59 #[.int .u32 0, .int .i32 1, .int .u32 0, .map (some mb)] ∧ MapAt w2 mb 7 ∧ Touch (fun k => k = b) w w2) w (h.cell 0) (h.cell 1) (h.frozen 1) hI (by
      rintro w2 ⟨q1, q2, _⟩
      exact ⟨q1.cell 0, q1.cell 1, q1.frozen 0, q1.frozen 1⟩)).mono ?_
    rintro e w' ⟨rfl, w2, ⟨q1, q2, q3⟩, rfl⟩
    have hne2 : mb ≠ b := by omega
    exact ⟨rfl, ⟨mb, hne2, bk_once q1, q2.once hne2⟩, touch_once (S := fun k => k = b) rfl q3⟩
  · refine (do_done ⟨b, 0, none⟩ 1 (by decide) _ w (h2.cell 0)).mono ?_
    rintro e w' ⟨rfl, rfl⟩
    exact ⟨rfl, ⟨mb, h1, h2, h3⟩, Touch.refl _ _⟩
def getV (s : ByteArray) : Value := match cmdF s with
  | some c => cmdVal c
  | none => cmdNo
theorem getV_two (s : ByteArray) : ∃ (n : Int) (f : Value), getV s = .agg #[.int .i64 n, f] ∧ f.oneCell' = true := by
  unfold getV
  cases cmdF s with
  | none => exact ⟨_, _, rfl, rfl⟩
  | some c => exact ⟨_, _, rfl, rfl⟩
theorem look_all (s : ByteArray) : has (cmdM 7) (.string s.data.toList) = (cmdF s).isSome ∧ ∀ (v : Value) ps, cmdR v = some ((cmdM 7).atKey (.string s.data.toList) (.agg [.lit (.int .i64 0)]), ps) → v = getV s := by
  unfold getV
  cases h : cmdF s with
  | none =>
    obtain ⟨h1, h2⟩ := look_no s.data.toList (cmdF_none h) (.agg [.lit (.int .i64 0)])
    rw [h1, h2]
    exact ⟨rfl, fun v ps hv => cmdR_no hv⟩
  | some c =>
    have hs := cmdF_some h
    have hd : s.data.toList = cmdKey c := by rw [hs]; simp [tx]
    obtain ⟨h1, h2⟩ := look_yes c (.agg [.lit (.int .i64 0)])
    rw [hd, h1, h2]
    exact ⟨rfl, fun v ps hv => cmdR_inv hv⟩
theorem one2 (n : Int) {f : Value} (h : f.oneCell' = true) : (#[Value.int .i64 n, f] : Array Value).all (·.oneCell') = true := by
  have e : (Value.int .i64 n).oneCell' = true := rfl
  simp [h, e]
theorem get_results (a : Act) (w : World) (B : Nat) (cs : Array Value) (x : Value) (h2 : a.tmps.getD 4 undef = .pointer (some ⟨B, 0, none⟩)) (h5 : a.tmps.getD 5 undef = x) (hg : Bk w B 89 cs) (hs : cs.size = 2) :
    (results Tryz.f35 a.tmps).run Tryz.prog w = .ok (.tuple #[.agg cs, x]) w := by
  have h2' : a.tmps[4]?.getD undef = .pointer (some ⟨B, 0, none⟩) := by simpa using h2
  have h5' : a.tmps[5]?.getD undef = x := by simpa using h5
  have hl := run_loadVar_row (P := Tryz.prog) w B 89 89 cs (0, 0) _ hg Tryz.underlying89 rfl (by rw [hs]; kernel_rfl)
  simp [results, Tryz.results35, h2', h5', asAddr, hl, Sem.run_bind]
set_option maxRecDepth 100000 in
set_option maxHeartbeats 3200000 in
theorem cget_any (b : Nat) (s : ByteArray) (w : World) (h : Cm w b) (hs : s.size ≤ 4194304) :
    Calls Tryz.prog 35 #[.pointer (some ⟨b, 0, none⟩), .string s] w fun e w' => e = .returned (.tuple #[getV s, .bool (cmdF s).isSome]) ∧ Made w' b ∧ Touch (fun k => k = b) w w' := by
  have hlt := h.lt
  obtain ⟨c, hc⟩ : ∃ c, w.heap.size = c := ⟨_, rfl⟩
  have hne : c ≠ b := by omega
  obtain ⟨w1, hw1⟩ : ∃ x, x = (w.alloc (.cells #[.pointer (some ⟨b, 0, none⟩)] 44)).alloc (.cells #[.int .i64 0, .nilFunc] 89) := ⟨_, rfl⟩
  have hb1 : Below w.heap.size w w1 := hw1 ▸ ((Below.refl _ w).alloc (Nat.le_refl _) _).alloc (by simp) _
  have c1 : Bk w1 c 44 #[.pointer (some ⟨b, 0, none⟩)] := by rw [hw1, ← hc]; exact (Bk.new w _ _).alloc _
  have d1 : Bk w1 (c + 1) 89 #[.int .i64 0, .nilFunc] := by
    have := Bk.new (w.alloc (.cells #[.pointer (some ⟨b, 0, none⟩)] 44)) 89 #[.int .i64 0, .nilFunc]
    rw [World.size_alloc, hc] at this
    rw [hw1]
    exact this
  have HD := Lib.hid (cdo_any b c w1 (h.go hb1) c1 hne)
  have HC := Lib.hid c1
  have HE := Lib.hid d1
  have HT1 := Lib.hid (Touch.of_new (S := fun k => k = b) hb1)
  have hl := look_all s
  have HL := Lib.hid hl.2
  have hl1 := hl.1
  obtain ⟨n, f, hv, hf⟩ := getV_two s
  have HV := Lib.hid hv
  obtain ⟨i, hi⟩ : ∃ i, (cmdF s).isSome = i := ⟨_, rfl⟩
  rw [hi] at hl1 ⊢
  have HH := Lib.hid hl1
  have hp := HC.out.cell 0
  simp at hp
  have HCE := Lib.hid hc
  clear hl hl1 h c1 d1 hb1 hv hi
  go_enter Tryz.func35, Tryz.ntmps35
  go_upto_region 1 with fail
  rw [← hw1]
  clear hw1
  go_wp2_with fail
  refine HD.out.mono ?_
  rintro e w2 ⟨rfl, hM, hT⟩
  obtain ⟨mb, hmb, hbk, hmap⟩ := hM
  have hp2 : w2.cell? ⟨c, 0, none⟩ = some (.pointer (some ⟨b, 0, none⟩)) := (hT.cell (p := ⟨c, 0, none⟩) HC.out.lt hne).trans (HC.out.cell 0)
  have hd2 : Bk w2 (c + 1) 89 #[.int .i64 0, .nilFunc] := HE.out.touch hT (by omega)
  have hm2 := hbk.cell 3
  simp [cC] at hm2
  have HM := Lib.hid hmap
  have HBK := Lib.hid hbk
  have HE2 := Lib.hid hd2
  have HT2 := Lib.hid (HT1.out.trans hT)
  clear hbk hmap hd2 hT HD hp
  obtain ⟨v, ps, hrun, hv⟩ := World.ownsMap.look_ok HM.out slaw Tryz.underlying57 (zeroC w2) cmdR_zero (WideMaps.keyOf_string_mk Tryz.underlying9 (s := s) (by unfold maxLen; omega))
  have hv2 := HL.out v ps hv
  rw [HV.out] at hv2
  subst hv2
  rw [HH.out] at hrun
  clear hv
  have hlt2 : c + 1 < w2.heap.size := HE2.out.lt
  obtain ⟨q, hq⟩ : ∃ q, w2.heap.size = q := ⟨_, rfl⟩
  have n0 : Bk (w2.alloc (.cells #[.int .i64 0, .nilFunc] 89)) q 89 #[.int .i64 0, .nilFunc] := hq ▸ Bk.new w2 _ _
  have n1 : Bk ((w2.alloc (.cells #[.int .i64 0, .nilFunc] 89)).setRow q #[.int .i64 n, f]) q 89 #[.int .i64 n, f] := bk_setRow n0
  have e1 : Bk ((w2.alloc (.cells #[.int .i64 0, .nilFunc] 89)).setRow q #[.int .i64 n, f]) (c + 1) 89 #[.int .i64 0, .nilFunc] := (setRow_other _ q (c + 1) _ (by omega)).trans (HE2.out.alloc _)
  have e2 := bk_setRow (cs := #[.int .i64 n, f]) e1
  have N0 := Lib.hid n0
  have N1 := Lib.hid n1
  have E1 := Lib.hid e1
  have E2 := Lib.hid e2
  have m2 : MapAt ((((w2.alloc (.cells #[.int .i64 0, .nilFunc] 89)).setRow q #[.int .i64 n, f])).setRow (c + 1) #[.int .i64 n, f]) mb 7 ∧ Bk ((((w2.alloc (.cells #[.int .i64 0, .nilFunc] 89)).setRow q #[.int .i64 n, f])).setRow (c + 1) #[.int .i64 n, f]) b 59 (cC 1 (.map (some mb))) := by
    have hml : mb < w2.heap.size := World.ownsMap.lt HM.out
    have hmc : mb ≠ c + 1 := fun e => by
      obtain ⟨es, clock, hb, _⟩ := HM.out
      have := HE2.out
      unfold Bk at this
      rw [e, this] at hb
      cases hb
    have hbc : b ≠ c + 1 := by omega
    have hbq : b ≠ q := by have := HBK.out.lt; omega
    refine ⟨HM.out.go ?_, ?_⟩
    · exact (setRow_other _ (c + 1) mb _ hmc).trans ((setRow_other _ q mb _ (by omega)).trans (((Below.refl w2.heap.size w2).alloc (Nat.le_refl _) (.cells #[.int .i64 0, .nilFunc] 89)).block mb hml))
    · exact (setRow_other _ (c + 1) b _ hbc).trans ((setRow_other _ q b _ hbq).trans (HBK.out.alloc _))
  have HM2 := Lib.hid m2
  have t2 : Touch (fun k => k = b) w ((((w2.alloc (.cells #[.int .i64 0, .nilFunc] 89)).setRow q #[.int .i64 n, f])).setRow (c + 1) #[.int .i64 n, f]) := by
    have t := HT2.out.alloc (.cells #[.int .i64 0, .nilFunc] 89)
    have hsz : w.heap.size ≤ w2.heap.size := HT2.out.size
    exact ⟨t.os, t.tape, t.output, by have := t.size; simpa [World.setRow] using this, fun k hk hs => (setRow_other _ (c + 1) k _ (by omega)).trans ((setRow_other _ q k _ (by omega)).trans (t.block k hk hs))⟩
  have HTT := Lib.hid t2
  have hone := one2 n hf
  clear n0 n1 e1 e2 m2 t2
  go_wp2_with (first | refine wpList_store_row rfl _ _ _ rfl q #[.int .i64 n, f] rfl rfl _ _ N0.out (by kernel_rfl) rfl hone ?_ | refine wpList_load_row rfl _ _ rfl q rfl 89 #[.int .i64 n, f] (0, 0) _ N1.out Tryz.underlying89 rfl (by kernel_rfl) ?_ | refine wpList_store_row rfl _ _ _ rfl (c + 1) #[.int .i64 n, f] rfl rfl _ _ E1.out (by kernel_rfl) rfl hone ?_)
  have hF : Ending.returned (.tuple #[.agg #[.int .i64 n, f], .bool i]) = .returned (.tuple #[getV s, .bool i]) ∧ Made ((((w2.alloc (.cells #[.int .i64 0, .nilFunc] 89)).setRow q #[.int .i64 n, f])).setRow (c + 1) #[.int .i64 n, f]) b ∧ Touch (fun k => k = b) w ((((w2.alloc (.cells #[.int .i64 0, .nilFunc] 89)).setRow q #[.int .i64 n, f])).setRow (c + 1) #[.int .i64 n, f]) :=
    ⟨by rw [HV.out], ⟨mb, hmb, HM2.out.2, HM2.out.1⟩, HTT.out⟩
  exact bodyPost_ret (get_results _ _ (c + 1) #[.int .i64 n, f] (.bool i) rfl rfl E2.out rfl) rfl hF
end Go.Proofs.YtfignfohcalcfaaGreatDoor
