/- quant's tables.get, ChromaQp. -/
import Derived.Test.YtfignfohcalcfaaGreatDoorConQ
import Derived.Great.BuildSlice
import Derived.Great.Ranges
namespace Go.Proofs.YtfignfohcalcfaaGreatDoor
open Go.RowKit
set_option linter.unusedVariables false
set_option linter.unusedSimpArgs false
attribute [local go_sem] ite_max ite_min

theorem bk_once {b : Nat} {T : TypeId} {cs : Array Value} {w : World} (h : Bk w b T cs) : Bk (onceEnd w b) b T ((cs.setIfInBounds 0 (.int .u32 1)).setIfInBounds 1 (.int .i32 0)) := (Bk.set_ (h.drew) 0 _).set_ 1 _
theorem touch_once {S : Nat → Prop} {a w : World} {b : Nat} (hb : S b) (h : Touch S a w) : Touch S a (onceEnd w b) := (h.drew.setCell (p := ⟨b, 0, none⟩) (fun _ => hb) _).setCell (p := ⟨b, 1, none⟩) (fun _ => hb) _
theorem set_far {cs : Array Value} {i j : Nat} {v : Value} (h : i ≠ j) : (cs.setIfInBounds i v)[j]? = cs[j]? := Array.getElem?_setIfInBounds_ne h
/-- the tables are there -/
def TabK (w0 : World) (b : Nat) (w : World) : Prop := ∃ cs, Bk w b 127 cs ∧ cs[0]? = some (.int .u32 0) ∧ cs[1]? = some (.int .i32 1) ∧ (∀ i, i < 22 → cs[39 + i]? = some (qpV i)) ∧ Touch (fun k => k = b) w0 w
set_option maxRecDepth 100000 in
set_option maxHeartbeats 1600000 in
theorem tget_any (b : Nat) (cs : Array Value) (w : World) (hb : Bk w b 127 cs) (hs : cs.size = 61) (h0 : cs[0]? = some (.int .u32 0)) (h1 : cs[1]? = some (.int .i32 0)) :
    Calls Tryz.prog 78 #[.pointer (some ⟨b, 0, none⟩)] w fun e w' => e = .returned (.pointer (some ⟨b, 0, none⟩)) ∧ (∃ cs', Bk w' b 127 cs' ∧ ∀ i, i < 22 → cs'[39 + i]? = some (qpV i)) ∧ Touch (fun k => k = b) w w' := by
  have hlt := hb.lt
  obtain ⟨c, hc⟩ : ∃ c, w.heap.size = c := ⟨_, rfl⟩
  have hne : c ≠ b := by omega
  obtain ⟨w1, hw1⟩ : ∃ x, x = w.alloc (.cells #[.pointer (some ⟨b, 0, none⟩)] 128) := ⟨_, rfl⟩
  have b1 : Bk w1 b 127 cs := hw1 ▸ hb.alloc _
  have c1 : Bk w1 c 128 #[.pointer (some ⟨b, 0, none⟩)] := by rw [hw1, ← hc]; exact Bk.new w _ _
  have t1 : Touch (fun k => k = b) w w1 := hw1 ▸ (Touch.refl _ w).alloc _
  have b2 : Bk (w1.setCell ⟨b, 1, none⟩ (.int .i32 1)) b 127 (cs.setIfInBounds 1 (.int .i32 1)) := b1.set_ 1 _
  have c2 : Bk (w1.setCell ⟨b, 1, none⟩ (.int .i32 1)) c 128 #[.pointer (some ⟨b, 0, none⟩)] := c1.far (p := ⟨b, 1, none⟩) hne _
  have t2 : Touch (fun k => k = b) w1 (w1.setCell ⟨b, 1, none⟩ (.int .i32 1)) := Touch.setCell (S := fun k => k = b) (Touch.refl _ w1) (p := ⟨b, 1, none⟩) (fun _ => rfl) _
  have hI := (tinit_any b c _ _ b2 (by simpa using hs) (c2.cell 0) hne).mono (R' := fun e w2 => e = .returned (.tuple #[]) ∧ TabK w1 b w2) (by
    rintro e w2 ⟨rfl, cs', q1, q2, q3, q4, q5⟩
    exact ⟨rfl, cs', q1, (q3 0 (by omega)).trans ((set_far (by decide)).trans h0), (q3 1 (by omega)).trans (by rw [Array.getElem?_setIfInBounds, if_pos rfl, if_pos (by rw [hs]; decide)]), q4, t2.trans q5⟩)
  have HD := Lib.hid (do_1 b #[.pointer (some ⟨c, 0, none⟩)] (TabK w1 b) w1 ((b1.cell 0).trans h0) ((b1.cell 1).trans h1) (b1.frozen 1) hI (by
    rintro w2 ⟨cs', q1, q2, q3, _⟩
    exact ⟨(q1.cell 0).trans q2, (q1.cell 1).trans q3, q1.frozen 0, q1.frozen 1⟩))
  have HC := Lib.hid c1
  have HL := Lib.hid hne
  have HT1 := Lib.hid t1
  clear hI b2 c2 t2 hb h0 h1 hs b1 t1
  have HT := Lib.hid hc
  have hp := HC.out.cell 0
  simp at hp
  go_enter Tryz.func78, Tryz.ntmps78
  go_upto_region 1 with fail
  rw [← hw1]
  clear hw1 hc
  go_wp2_with fail
  refine HD.out.mono ?_
  rintro e w' ⟨rfl, w2, hK, rfl⟩
  obtain ⟨cs', q1, q2, q3, q4, q5⟩ := hK
  have hp2 : (onceEnd w2 b).cell? ⟨c, 0, none⟩ = some (.pointer (some ⟨b, 0, none⟩)) := by
    exact ((touch_once (S := fun k => k = b) rfl q5).cell (p := ⟨c, 0, none⟩) HC.out.lt HL.out).trans (HC.out.cell 0)
  go_wp2_with fail
  go_ret
  exact ⟨rfl, ⟨_, bk_once q1, fun i hi => (set_far (by omega)).trans ((set_far (by omega)).trans (q4 i hi))⟩, HT1.out.trans (touch_once rfl q5)⟩


def tab0 : Array Value := #[.int .u32 0, .int .i32 0, .int .u32 0] ++ Array.replicate 58 (.int .i64 0)
set_option maxRecDepth 100000 in
set_option maxHeartbeats 3200000 in
theorem qp_any (a b : Int) (w : World) : Calls Tryz.prog 59 #[.int .i64 a, .int .i64 b] w fun e w' => e = .returned (.int .i64 (qpF a b)) ∧ Below w.heap.size w w' := by
  obtain ⟨x, hx⟩ : ∃ x, clipN (-100) a 100 = x := ⟨_, rfl⟩
  obtain ⟨y, hy⟩ : ∃ y, clipN (-100) b 100 = y := ⟨_, rfl⟩
  have hx1 : -100 ≤ x ∧ x ≤ 100 := by rw [← hx]; unfold clipN; omega
  have hy1 : -100 ≤ y ∧ y ≤ 100 := by rw [← hy]; unfold clipN; omega
  have C1 := Lib.hid (hx ▸ near_any a w)
  have C2 := Lib.hid (hy ▸ near_any b w)
  have hq : qpX a b = min (max (x + y) 0) 51 := by unfold qpX clipN at *; rw [hx, hy]
  obtain ⟨z, hz⟩ : ∃ z, min (max (x + y) 0) 51 = z := ⟨_, rfl⟩
  rw [hz] at hq
  have hz1 : 0 ≤ z ∧ z ≤ 51 := by omega
  unfold qpF
  rw [hq]
  clear hq hx hy
  obtain ⟨R, hR⟩ : ∃ R, (if z < 30 then z else qpT.getD (z - 30).toNat 0) = R := ⟨_, rfl⟩
  rw [hR]
  have HR := Lib.hid hR
  clear hR
  obtain ⟨hx0, hx1⟩ := hx1
  obtain ⟨hy0, hy1⟩ := hy1
  go_enter Tryz.func59, Tryz.ntmps59
  go_wp2_with fail
  refine C1.out.mono ?_
  rintro e w' ⟨rfl, rfl⟩
  go_wp2_with fail
  refine C2.out.mono ?_
  rintro e w' ⟨rfl, rfl⟩
  go_upto_region 3 with fail
  clear C1 C2 hx0 hx1 hy0 hy1 hz
  obtain ⟨hz0, hz1⟩ := hz1
  by_cases h30 : z < 30
  · have e := HR.out
    rw [if_pos h30] at e
    subst e
    go_wp2_with fail
    go_ret
    exact ⟨rfl, Below.refl _ _⟩
  · have e := HR.out
    rw [if_neg h30] at e
    have HE := Lib.hid e
    clear e HR
    have k0 := Bk.new w 127 tab0
    have HG := Lib.hid (tget_any w.heap.size tab0 _ k0 (by decide) rfl rfl)
    have hb0 : Below w.heap.size w (w.alloc (.cells tab0 127)) := (Below.refl _ _).alloc (Nat.le_refl _) _
    have HB := Lib.hid hb0
    obtain ⟨w1, hw1⟩ : ∃ x, x = w.alloc (.cells tab0 127) := ⟨_, rfl⟩
    rw [← hw1] at HG HB
    clear k0 hb0
    go_upto_region 5 with fail
    refine wp_region_lit ?_
    refine wpList_buildTo rfl _ _ rfl _ rfl tab0 (by kernel_rfl) ?_
    simp only [Act.put, List.setIfInBounds_toArray, List.set_cons_zero, List.set_cons_succ]
    obtain ⟨r, hr⟩ : ∃ r, w.heap.size = r := ⟨_, rfl⟩
    refine Go.Great.wpList_boxTo rfl _ _ rfl _ rfl r hr tab0 rfl ?_
    simp only [Act.put, List.setIfInBounds_toArray, List.set_cons_zero, List.set_cons_succ]
    rw [← hw1]
    rw [hr] at HG
    have HN := Lib.hid hr
    clear hw1 hr
    go_wp2_with fail
    refine HG.out.mono ?_
    rintro e w2 ⟨rfl, ⟨cs, hk, hq⟩, ht⟩
    have hc : w2.cell? ⟨r, 39 + (z - 30).toNat, none⟩ = some (.int .i64 R) := (hk.cell (39 + (z - 30).toNat)).trans ((hq _ (by omega)).trans (by unfold qpV; rw [HE.out]))
    have hj0 : (0 : Int) ≤ z - 30 := by omega
    have hj1 : z - 30 < 22 := by omega
    have HT := Lib.hid ht
    clear hk hq ht
    go_wp2_with fail
    go_ret
    exact ⟨rfl, Below.touch HB.out HT.out (fun i hi e => by have := HN.out; omega) (Nat.le_refl _)⟩
end Go.Proofs.YtfignfohcalcfaaGreatDoor
