/- awake of the units' statements. -/
import Derived.Test.YtndlmhpbnaohpaaNalJ
import Derived.Test.YtndlmhpbnaohpaaNalE
import Derived.Test.YtndlmhpbnaohpaaNalG
namespace Go.Proofs.Ytndlmhpbnaohpaa
open Go.RowKit
set_option linter.unusedVariables false
set_option linter.unusedSimpArgs false

def aR (k : Nat) : Int := if k = 0 then 3 else 0
def aT (k : Nat) : Int := if k = 0 then 7 else 1
def aS (k : Nat) : ByteArray := if k = 0 then ⟨#[0, 0, 1]⟩ else ⟨#[]⟩
theorem aw1 : jnS aR aT aS 2 = ⟨#[0, 0, 1, 103, 0, 0, 3, 1, 0, 0, 1, 1]⟩ ∧ jnE aR aT 2 = 0 := by decide +kernel
theorem aw2 : spL ⟨#[0, 0, 1, 103, 0, 0, 3, 1, 0, 0, 1, 1]⟩ = [[103, 0, 0, 3, 1], [1]] ∧ spE ⟨#[0, 0, 1, 103, 0, 0, 3, 1, 0, 0, 1, 1]⟩ = 0 := by
  refine ⟨?_, by decide +kernel⟩
  simp [spL, tB, splF, st3, List.isPrefixOf]
theorem aw4 : upV ⟨#[103, 0, 0, 3, 1]⟩ = .agg #[.int .i64 3, .int .i64 7, .string ⟨#[0, 0, 1]⟩] ∧ upE ⟨#[103, 0, 0, 3, 1]⟩ = 0 := by
  have h1 : upR ⟨#[103, 0, 0, 3, 1]⟩ = 3 := by decide +kernel
  have h2 : upT ⟨#[103, 0, 0, 3, 1]⟩ = 7 := by decide +kernel
  have h3 : upS ⟨#[103, 0, 0, 3, 1]⟩ = ⟨#[0, 0, 1]⟩ := by decide +kernel
  refine ⟨?_, by decide +kernel⟩
  unfold upV
  rw [h1, h2, h3]
theorem aw5 : unE ⟨#[0, 0, 1]⟩ = 200 ∧ unS ⟨#[0, 0, 1]⟩ = ⟨#[]⟩ := by decide +kernel

def aCells : Array Value := #[.int .i64 3, .int .i64 7, .string ⟨#[0, 0, 1]⟩, .int .i64 0, .int .i64 1, .string ⟨#[]⟩]
theorem aw_rows (w : World) : Us (w.alloc (.cells aCells 32)) (w.alloc (.cells aCells 32)).heap.size (some ⟨w.heap.size, 0, none⟩) 2 aR aT aS := by
  intro _
  refine ⟨_, rfl, by simp, fun k hk => ?_⟩
  have hk2 : k = 0 ∨ k = 1 := by omega
  rcases hk2 with rfl | rfl
  · rw [add_new]
    exact ⟨World.cell?_alloc_at _ _ _ _ rfl, World.cell?_alloc_at _ _ _ _ rfl, World.cell?_alloc_at _ _ _ _ rfl⟩
  · rw [add_new]
    exact ⟨World.cell?_alloc_at _ _ _ _ rfl, World.cell?_alloc_at _ _ _ _ rfl, World.cell?_alloc_at _ _ _ _ rfl⟩
theorem num_any' (x : Int) (w : World) : Calls Try.prog 15 #[.int .i64 x] w fun e w' => e = .returned (.int .i64 x) ∧ w = w' := num_any x w

set_option maxRecDepth 100000 in
set_option maxHeartbeats 3200000 in
theorem awake_any (m : Int) (w : World) (hm : w.cell? ⟨0, 0, none⟩ = some (.int .i64 m)) (h0 : 0 < w.heap.size) :
    Calls Try.prog 16 #[] w fun e w' => e = .returned (.bool true) ∧ Below w.heap.size w w' := by
  have hj := join_any _ 2 2 aR aT aS _ (aw_rows w) (by omega) (fun k => by unfold aS; split <;> decide)
  rw [aw1.1, aw1.2] at hj
  unfold aCells at hj
  have HJ := Lib.hid hj
  clear hj
  go_enter Try.func16, Try.ntmps16
  go_wp2_with fail
  refine HJ.out.mono ?_
  rintro e w2 ⟨rfl, hb⟩
  have hm2 : w2.cell? ⟨0, 0, none⟩ = some (.int .i64 m) := (hb.cell (by simp)).trans ((World.cell?_alloc_lt w _ _ h0).trans hm)
  have hb2 : Below w.heap.size w w2 := ((Below.refl _ _).alloc (Nat.le_refl _) _).trans (hb.mono (by simp))
  have hs2 := hb2.size
  have hS := split0 ⟨#[0, 0, 1, 103, 0, 0, 3, 1, 0, 0, 1, 1]⟩ m w2 (by decide) hm2 (by omega)
  rw [aw2.1, aw2.2] at hS
  have HS := Lib.hid hS
  have HB2 := Lib.hid hb2
  clear hS hb hb2 HJ hm2
  go_wp2_with fail
  refine HS.out.mono ?_
  rintro e w3 ⟨v, rfl, ho, hb⟩
  obtain ⟨g, cap, rfl, _, _, _, _⟩ := own_form ho (by decide)
  have HB3 := Lib.hid (HB2.out.trans (hb.mono hs2))
  have hs3 := HB3.out.size
  have hU := up0 ⟨#[103, 0, 0, 3, 1]⟩ w3 (by decide)
  rw [aw4.1, aw4.2] at hU
  have HU := Lib.hid hU
  clear hb ho HS hU HB2
  go_wp2_with fail
  refine HU.out.mono ?_
  rintro e w4 ⟨rfl, hb⟩
  have HB4 := Lib.hid (HB3.out.trans (hb.mono hs3))
  have hs4 := HB4.out.size
  have hE := fun w => une_any ⟨#[0, 0, 1]⟩ w (by decide)
  rw [aw5.1, aw5.2] at hE
  have HE := Lib.hid hE
  clear hb HU HB3 hE
  go_wp2_with fail
  refine (HE.out _).mono ?_
  rintro e w5 ⟨rfl, hb⟩
  have c0 := hb.cell (p := ⟨w4.heap.size, 0, none⟩) (by simp [go_sem])
  have c1 := hb.cell (p := ⟨w4.heap.size, 1, none⟩) (by simp [go_sem])
  have c2 := hb.cell (p := ⟨w4.heap.size, 2, none⟩) (by simp [go_sem])
  simp [go_sem] at c0 c1 c2
  have hb4 := HB4.out
  have HB5 : Hid (Below w.heap.size w w5) := Lib.hid (Below.trans (by repeat (first | exact Below.refl _ _ | assumption | refine Below.alloc ?_ (by first | omega | (simp <;> omega)) _ | refine Below.drew ?_ | refine Below.setCell ?_ (by first | omega | (simp <;> omega)) _)) (hb.mono (by simp [go_sem] <;> omega)))
  clear hb HE hb4
  go_wp2_with (go_at_call 15; refine (num_any _ _).mono ?_; rintro e w' ⟨rfl, rfl⟩)
  go_ret
  exact ⟨rfl, HB5.out⟩
/-- what the statements' awake asks of the first world -/
def Up (w : World) : Prop := ∃ m, w.cell? ⟨0, 0, none⟩ = some (.int .i64 m)
theorem Up.of_shaped {w : World} (h : w.ShapedOpen Try.prog) : Up w := Try.laysM145.s1_3 w h
theorem Up.pos {w : World} (h : Up w) : 0 < w.heap.size := by
  obtain ⟨m, hm⟩ := h
  exact World.block_lt_of_cell? w ⟨0, 0, none⟩ hm
theorem Up.below {w w' : World} {B : Nat} (h : Up w) (hb : Below B w w') (hB : 0 < B) : Up w' := by
  obtain ⟨m, hm⟩ := h
  exact ⟨m, (hb.cell hB).trans hm⟩
theorem Up.go {w w' : World} (h : Up w) (hb : Below w.heap.size w w') : Up w' := h.below hb h.pos
theorem awake_up {w : World} (h : Up w) : Calls Try.prog 16 #[] w fun e w' => e = .returned (.bool true) ∧ Below w.heap.size w w' := by
  have h0 := h.pos
  obtain ⟨m, hm⟩ := h
  exact awake_any m w hm h0
end Go.Proofs.Ytndlmhpbnaohpaa
