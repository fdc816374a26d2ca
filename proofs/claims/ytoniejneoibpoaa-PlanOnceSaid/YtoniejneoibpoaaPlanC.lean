/- Plan's closure: one picture more. -/
import Derived.Test.YtoniejneoibpoaaPlanB
import Derived.Test.YtoniejneoibpoaaTouch
namespace Go.Proofs.Ytoniejneoibpoaa
open Go.RowKit
set_option linter.unusedVariables false
set_option linter.unusedSimpArgs false

theorem pic_info : (Try.prog.info? 37).map (fun i => (i.zero, i.size, i.bytes)) = some (some (.agg #[.int .i64 0, .int .i64 0, .bool false, .bool false, .int .i64 0]), 5, 32) := by kernel_rfl

/-- What such a call leaves: block g holds the row's value, one picture longer. -/
def More (w : World) (g base : Nat) (v : Value) (L : List Pic) (p : Pic) (e : Ending) (w' : World) : Prop :=
  ∃ v', e = .returned (.tuple #[]) ∧ Bk w' g 25 #[v'] ∧ w'.ownsRow base 37 5 v' (L ++ [p]).length (cellsOf (L ++ [p])) ∧ Touch (fun k => k = g ∨ v.ownBlock = some k) w w'

set_option maxHeartbeats 800000 in
theorem clo_any (g gf base : Nat) (v : Value) (L : List Pic) (f a kd : Nat) (rf : Bool) (w : World) (hg : Bk w g 25 #[v]) (hf : Bk w gf 3 #[.int .i64 f])
    (ho : w.ownsRow base 37 5 v L.length (cellsOf L)) (hL : L.length ≤ 1000) (hfa : f ≤ 1000) (ha : a ≤ 1000) (hb : base ≤ w.heap.size) :
    Calls Try.prog 28 #[.int .i64 a, .int .i64 kd, .bool rf, .pointer (some ⟨g, 0, none⟩), .pointer (some ⟨gf, 0, none⟩)] w (More w g base v L ⟨f + a, kd, rf, decide (a = 0), 2 * a⟩) := by
  obtain ⟨i0, hi, hz0, hz1, hz2⟩ := info_parts pic_info
  have c1 : w.cell? ⟨g, 0, none⟩ = some v := hg.cell 0
  have c2 : w.cell? ⟨gf, 0, none⟩ = some (.int .i64 f) := hf.cell 0
  have HG := Lib.hid hg
  have HO := Lib.hid ho
  have hne := hg.ne_own ho (by decide)
  have HN := Lib.hid hne
  clear hg hf ho hne
  have e1 : ((a : Int) == 0) = decide (a = 0) := by
    by_cases h : a = 0
    · subst h; rfl
    · simp [h]
  have hp : (cellsOf [⟨f + a, kd, rf, decide (a = 0), 2 * a⟩]) = [.int .i64 ((f : Int) + a), .int .i64 kd, .bool rf, .bool (decide (a = 0)), .int .i64 (2 * (a : Int))] := by
    rw [cellsOf_one]; simp [Pic.cells]
  have HP := Lib.hid hp
  clear hp
  go_enter Try.func28, Try.ntmps28
  go_wp2_with (at_builtin; refine wpList_append_own _ rfl _ _ 25 rfl base 37 i0 _ 5 32 Try.underlying25 hi hz0 hz1 hz2 rfl (by decide) v L.length (cellsOf L) rfl (HO.out.alloc _) ⟨w.heap.size, 0, none⟩ 1 1 (cellsOf [⟨f + a, kd, rf, decide (a = 0), 2 * a⟩]) rfl ?c0 ?c1 ?c2 (by unfold maxLen; omega) (by omega) (by simp; omega) ?_)
  case c0 => rw [cellsOf_length]; rfl
  case c1 =>
    intro j u hj
    rw [HP.out] at hj
    rw [add_new]
    match j, hj with
    | 0, hj => simp at hj; subst hj; simp
    | 1, hj => simp at hj; subst hj; simp
    | 2, hj => simp at hj; subst hj; simp
    | 3, hj => simp at hj; subst hj; simp
    | 4, hj => simp at hj; subst hj; simp
  case c2 =>
    intro u hu
    rw [HP.out] at hu
    simp at hu
    rcases hu with rfl | rfl | rfl | rfl | rfl <;> rfl
  intro v' w2 hown hgr _
  have hk : Bk w2 g 25 #[v] := (HG.out.alloc _).grown hgr (fun q => HN.out q.symm)
  have hs : w.heap.size ≤ w2.heap.size := by have := hgr.size; simp at this; omega
  have hT : Touch (fun k => k = g ∨ v.ownBlock = some k) w w2 := ((Touch.refl _ _).alloc _).grown hgr fun k hk _ => .inr hk
  have k1 : w2.cell? ⟨g, 0, none⟩ = some v := hk.cell 0
  have k2 : w2.frozen? ⟨g, 0, none⟩ = false := hk.frozen 0
  rw [← cellsOf_append] at hown
  have hne : v'.ownBlock ≠ some g := hk.ne_own hown (by decide)
  obtain ⟨A', c', rfl, _, _, _⟩ := own_slice hown
  have H1 := Lib.hid hown
  have H2 := Lib.hid hk
  have H3 := Lib.hid hT
  have H4 := Lib.hid hne
  clear hown hk hT hne hgr
  go_wp2_with fail
  go_end0
  refine ⟨.slice A' (L.length + 1) c', rfl, ?_, ?_, ?_⟩
  · exact H2.out.set_ 0 _
  · rw [List.length_append]
    exact own_setFar H1.out (p := ⟨g, 0, none⟩) H4.out _
  · exact H3.out.setCell (fun _ => .inl rfl) _

end Go.Proofs.Ytoniejneoibpoaa
