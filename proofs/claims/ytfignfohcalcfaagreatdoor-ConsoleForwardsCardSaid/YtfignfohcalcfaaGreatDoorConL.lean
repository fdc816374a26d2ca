/- bins' kinds.get. -/
import Derived.Test.YtfignfohcalcfaaGreatDoorConK
namespace Go.Proofs.YtfignfohcalcfaaGreatDoor
open Go.RowKit
set_option linter.unusedVariables false
set_option linter.unusedSimpArgs false

def knL : List Int := [1, 2, 1, 2, 2, 2, 2, 2, 2, 3, 3, 2, 2, 3, 1, 1, 1, 4, 1, 1]
def kn0 : Array Value := #[.int .u32 0, .int .i32 0, .int .u32 0] ++ Array.replicate 20 (.int .i64 0)
def knF : Array Value := #[.int .u32 0, .int .i32 1, .int .u32 0] ++ (knL.map (Value.int .i64)).toArray
theorem kn_fill : (fillK (fillK (fillK (kn0.setIfInBounds 1 (.int .i32 1)) kF1 1) kF2 2) kF3 3).setIfInBounds 20 (.int .i64 4) = knF := by kernel_rfl
theorem knF_at (i : Nat) (h : i < 20) : knF[3 + i]? = some (.int .i64 (knL.getD i 0)) := by
  have hl : i < knL.length := h
  unfold knF
  rw [Array.getElem?_append_right (by simp)]
  simp [hl]
def KinK (w0 : World) (b : Nat) (w : World) : Prop := Bk w b 140 knF ∧ Touch (fun k => k = b) w0 w
theorem kindF_in (el : Int) (h0 : 0 ≤ el) (h1 : el < 20) : kindF el = knL.getD el.toNat 0 := by unfold kindF; rw [if_neg (by omega)]; rfl
theorem kindF_out (el : Int) (h : el < 0 ∨ 20 ≤ el) : kindF el = 0 := if_pos h
set_option maxRecDepth 100000 in
set_option maxHeartbeats 1600000 in
theorem kget_any (b : Nat) (el : Int) (w : World) (hb : Bk w b 140 kn0) :
    Calls Tryz.prog 92 #[.pointer (some ⟨b, 0, none⟩), .int .i64 el] w fun e w' => e = .returned (.int .i64 (kindF el)) ∧ Touch (fun k => k = b) w w' := by
  have hlt := hb.lt
  obtain ⟨c, hc⟩ : ∃ c, w.heap.size = c := ⟨_, rfl⟩
  have hne : c ≠ b := by omega
  obtain ⟨w1, hw1⟩ : ∃ x, x = w.alloc (.cells #[.pointer (some ⟨b, 0, none⟩)] 137) := ⟨_, rfl⟩
  have b1 : Bk w1 b 140 kn0 := hw1 ▸ hb.alloc _
  have c1 : Bk w1 c 137 #[.pointer (some ⟨b, 0, none⟩)] := by rw [hw1, ← hc]; exact Bk.new w _ _
  have t1 : Touch (fun k => k = b) w w1 := hw1 ▸ (Touch.refl _ w).alloc _
  have b2 : Bk (w1.setCell ⟨b, 1, none⟩ (.int .i32 1)) b 140 (kn0.setIfInBounds 1 (.int .i32 1)) := b1.set_ 1 _
  have c2 : Bk (w1.setCell ⟨b, 1, none⟩ (.int .i32 1)) c 137 #[.pointer (some ⟨b, 0, none⟩)] := c1.far (p := ⟨b, 1, none⟩) hne _
  have t2 : Touch (fun k => k = b) w1 (w1.setCell ⟨b, 1, none⟩ (.int .i32 1)) := Touch.setCell (S := fun k => k = b) (Touch.refl _ w1) (p := ⟨b, 1, none⟩) (fun _ => rfl) _
  have hI := (kinit_any b c _ _ b2 (by decide) c2).mono (R' := fun e w2 => e = .returned (.tuple #[]) ∧ KinK w1 b w2) (by
    rintro e w2 ⟨rfl, q1, q5⟩
    rw [kn_fill] at q1
    exact ⟨rfl, q1, t2.trans q5⟩)
  have HD := Lib.hid (do_0 b #[.pointer (some ⟨c, 0, none⟩)] (KinK w1 b) w1 ((b1.cell 0).trans rfl) ((b1.cell 1).trans rfl) (b1.frozen 1) hI (by
    rintro w2 ⟨q1, _⟩
    exact ⟨(q1.cell 0).trans rfl, (q1.cell 1).trans rfl, q1.frozen 0, q1.frozen 1⟩))
  have HC := Lib.hid c1
  have HL := Lib.hid hne
  have HT1 := Lib.hid t1
  clear hI b2 c2 t2 hb b1 t1
  have hp := HC.out.cell 0
  simp at hp
  obtain ⟨R, hR⟩ : ∃ R, kindF el = R := ⟨_, rfl⟩
  rw [hR]
  have HR := Lib.hid hR
  clear hR
  go_enter Tryz.func92, Tryz.ntmps92
  go_upto_region 1 with fail
  rw [← hw1]
  clear hw1 hc
  go_wp2_with fail
  refine HD.out.mono ?_
  rintro e w' ⟨rfl, w2, ⟨q1, q5⟩, rfl⟩
  have hp2 : (onceEnd w2 b).cell? ⟨c, 0, none⟩ = some (.pointer (some ⟨b, 0, none⟩)) :=
    ((touch_once (S := fun k => k = b) rfl q5).cell (p := ⟨c, 0, none⟩) HC.out.lt HL.out).trans (HC.out.cell 0)
  have HT2 := Lib.hid (HT1.out.trans (touch_once (S := fun k => k = b) rfl q5))
  have HK := Lib.hid (bk_once q1)
  obtain ⟨w3, hw3⟩ : ∃ x, onceEnd w2 b = x := ⟨_, rfl⟩
  rw [hw3] at hp2 HT2 HK ⊢
  clear hw3 q1 q5 HC HT1 HD
  by_cases h0 : el < 0
  · have e := HR.out
    rw [kindF_out _ (Or.inl h0)] at e
    subst e
    clear hp2
    go_wp2_with fail
    go_ret
    exact ⟨rfl, HT2.out⟩
  · by_cases h1 : 20 ≤ el
    · have e := HR.out
      rw [kindF_out _ (Or.inr h1)] at e
      subst e
      clear hp2
      go_wp2_with fail
      go_ret
      exact ⟨rfl, HT2.out⟩
    · have e := HR.out
      rw [kindF_in _ (by omega) (by omega)] at e
      subst e
      have hj0 : 0 ≤ el := by omega
      have hj1 : el < 20 := by omega
      have hc : w3.cell? ⟨b, 3 + el.toNat, none⟩ = some (.int .i64 (knL.getD el.toNat 0)) := (HK.out.cell (3 + el.toNat)).trans ((set_far (by omega)).trans ((set_far (by omega)).trans (knF_at _ (by omega))))
      go_wp2_with fail
      go_ret
      exact ⟨rfl, HT2.out⟩
end Go.Proofs.YtfignfohcalcfaaGreatDoor
