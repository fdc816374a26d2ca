/- sync.Once's slow road; the ranges of parameters, made; is a number in one? -/
import Derived.Test.YtjokibagciehlaaGreatParA
namespace Go.Proofs.YtjokibagciehlaaGreat
open Go.RowKit
set_option linter.unusedVariables false
set_option linter.unusedSimpArgs false

theorem rg_lock {w : World} {g : Nat} (h : Bk w g 145 (rg0 0 0)) : Bk (w.setCell ⟨g, 1, none⟩ (.int .i32 1)) g 145 (rg0 1 0) := bk_set h 1 _ rfl
theorem rg_done {w : World} {g : Nat} (h : Bk w g 145 (rgV 1 0)) : Bk ((w.drew.setCell ⟨g, 0, none⟩ (.int .u32 1)).setCell ⟨g, 1, none⟩ (.int .i32 0)) g 145 (rgV 0 1) :=
  bk_set (cs' := rgV 0 1) (bk_set (cs' := rgV 1 1) h.drew 0 (.int .u32 1) rfl) 1 (.int .i32 0) rfl

set_option maxRecDepth 100000 in
set_option maxHeartbeats 1600000 in
theorem slow_any (g pb : Nat) (w : World) (hp : w.cell? ⟨pb, 0, none⟩ = some (.pointer (some ⟨g, 0, none⟩))) (hpg : ¬ pb = g) (hg : Bk w g 145 (rg0 0 0)) :
    Calls Tryz.prog 119 #[.pointer (some ⟨g, 0, none⟩), .func (.func 110) #[] #[.pointer (some ⟨pb, 0, none⟩)]] w fun e w' => e = .returned (.tuple #[]) ∧ Bk w' g 145 (rgV 0 1) ∧ Touch (fun k => k = g) w w' := by
  have ht1 : Touch (fun k => k = g) w (w.setCell ⟨g, 1, none⟩ (.int .i32 1)) := (Touch.refl (fun k => k = g) w).setCell (p := ⟨g, 1, none⟩) (fun _ => rfl) _
  have HB1 := Lib.hid (rg_lock hg)
  have HP1 := Lib.hid ((ht1.cell (World.block_lt_of_cell? w _ hp) hpg).trans hp)
  have HT1 := Lib.hid ht1
  have c1 := hg.cell 1
  have f1 := hg.frozen 1
  simp [rg0] at c1
  have hnot : ∀ (x : Bool) (w : World), (Op.unary .not (.bool x)).run Tryz.prog w = .ok (.bool (!x)) w := fun _ _ => rfl
  clear ht1 hp hg
  go_enter_defers Tryz.func119, Tryz.ntmps119
  go_wp2_with fail
  refine (sy_lock ⟨g, 1, none⟩ _ c1 f1).mono ?_
  rintro e w' ⟨rfl, rfl⟩
  generalize w.setCell ⟨g, 1, none⟩ (.int .i32 1) = W1 at HB1 HP1 HT1 ⊢
  clear c1 f1
  have c0 := HB1.out.cell 0
  simp [rg0] at c0
  go_wp2_with fail
  refine (sy_load ⟨g, 0, none⟩ 0 _ c0 (b := false) rfl).mono ?_
  rintro e w' ⟨rfl, rfl⟩
  go_wp2_with fail
  refine (fill_any g pb _ HP1.out hpg HB1.out).mono ?_
  rintro e W2 ⟨rfl, hb2, ht2⟩
  have HB2 := Lib.hid hb2
  have HT2 := Lib.hid (HT1.out.trans ht2)
  clear hb2 ht2 HB1 HP1 HT1 c0
  go_wp2_with fail
  have c0 := HB2.out.cell 0
  have c1 := HB2.out.cell 1
  have f0 := HB2.out.frozen 0
  have f1 := HB2.out.frozen 1
  simp [rgV] at c0 c1
  refine leaves_cons (f := 126) (args := #[.pointer (some ⟨g, 0, none⟩), .bool true]) (by simp) (by simp [go_sem]) ?_
  refine (sy_store ⟨g, 0, none⟩ (.int .u32 0) .returning _ c0 f0).mono ?_
  rintro e u' w'' ⟨rfl, rfl, rfl⟩
  refine leaves_cons (f := 125) (args := #[.pointer (some ⟨g, 1, none⟩)]) (by simp [settle]) (by simp [go_sem]) ?_
  refine (sy_unlock ⟨g, 1, none⟩ _ _ ?_ (by rw [World.frozen?_setCell]; exact f1)).mono ?_
  · exact (World.cell?_setCell_other _ ⟨g, 0, none⟩ ⟨g, 1, none⟩ _ (by simp)).trans c1
  rintro e u' w'' ⟨rfl, rfl, rfl⟩
  have hend := And.intro (rg_done HB2.out) (HT2.out.trans (((Touch.refl (fun k => k = g) W2).drew.setCell (p := ⟨g, 0, none⟩) (fun _ => rfl) (.int .u32 1)).setCell (p := ⟨g, 1, none⟩) (fun _ => rfl) (.int .i32 0)))
  generalize ((W2.drew.setCell ⟨g, 0, none⟩ (.int .u32 1)).setCell ⟨g, 1, none⟩ (.int .i32 0)) = W3 at hend ⊢
  simp [Leaves, settle, results, Tryz.results119]
  exact hend

set_option maxRecDepth 100000 in
theorem do_any (g pb : Nat) (w : World) (hp : w.cell? ⟨pb, 0, none⟩ = some (.pointer (some ⟨g, 0, none⟩))) (hpg : ¬ pb = g) (hg : Bk w g 145 (rg0 0 0)) :
    Calls Tryz.prog 109 #[.pointer (some ⟨g, 0, none⟩), .func (.func 110) #[] #[.pointer (some ⟨pb, 0, none⟩)]] w fun e w' => e = .returned (.tuple #[]) ∧ Bk w' g 145 (rgV 0 1) ∧ Touch (fun k => k = g) w w' := by
  have c0 := hg.cell 0
  simp [rg0] at c0
  have HS := Lib.hid (slow_any g pb w hp hpg hg)
  have hnot : ∀ (x : Bool) (w : World), (Op.unary .not (.bool x)).run Tryz.prog w = .ok (.bool (!x)) w := fun _ _ => rfl
  clear hp hg
  go_enter Tryz.func109, Tryz.ntmps109
  go_wp2_with fail
  refine (sy_load ⟨g, 0, none⟩ 0 _ c0 (b := false) rfl).mono ?_
  rintro e w' ⟨rfl, rfl⟩
  go_wp2_with fail
  refine HS.out.mono ?_
  rintro e W1 ⟨rfl, hb, ht⟩
  go_wp2_with fail
  go_end0
  exact ⟨rfl, hb, ht⟩

set_option maxRecDepth 100000 in
/-- the ranges, made: new memory but for their own block -/
theorem get_any (g : Nat) (w : World) (hg : Bk w g 145 (rg0 0 0)) :
    Calls Tryz.prog 80 #[.pointer (some ⟨g, 0, none⟩)] w fun e w' => e = .returned (.pointer (some ⟨g, 0, none⟩)) ∧ Bk w' g 145 (rgV 0 1) ∧ Touch (fun k => k = g) w w' := by
  have hlt := hg.lt
  have hne : ¬ w.heap.size = g := by omega
  have hbox : (w.alloc (.cells #[.pointer (some ⟨g, 0, none⟩)] 131)).cell? ⟨w.heap.size, 0, none⟩ = some (.pointer (some ⟨g, 0, none⟩)) := (Bk.new w _ _).cell 0
  have HD := Lib.hid (do_any g w.heap.size (w.alloc (.cells #[.pointer (some ⟨g, 0, none⟩)] 131)) hbox hne (hg.alloc _))
  have HT := Lib.hid ((Touch.refl (fun k => k = g) w).alloc (.cells #[.pointer (some ⟨g, 0, none⟩)] 131))
  clear hg hbox
  go_enter Tryz.func80, Tryz.ntmps80
  go_wp2_with fail
  refine HD.out.mono ?_
  rintro e W1 ⟨rfl, hb, ht⟩
  have hbox : W1.cell? ⟨w.heap.size, 0, none⟩ = some (.pointer (some ⟨g, 0, none⟩)) := (ht.cell (by simp) hne).trans ((Bk.new w _ _).cell 0)
  have HB := Lib.hid hb
  have HT := Lib.hid (HT.out.trans (ht.mono fun k hk h => h))
  clear hb ht HD
  go_wp2_with fail
  go_ret
  exact ⟨rfl, HB.out, HT.out⟩

/-- .. and of new ranges: new memory alone -/
theorem ranges_any (w : World) :
    Calls Tryz.prog 80 #[.pointer (some ⟨w.heap.size, 0, none⟩)] (w.alloc (.cells (rg0 0 0) 145)) fun e w' => e = .returned (.pointer (some ⟨w.heap.size, 0, none⟩)) ∧ Bk w' w.heap.size 145 (rgV 0 1) ∧ Below w.heap.size w w' :=
  (get_any w.heap.size _ (Bk.new w _ _)).mono fun e w' q => ⟨q.1, q.2.1, Below.touch ((Below.refl w.heap.size w).alloc (Nat.le_refl _) _) q.2.2 (fun i hi h => by omega) (Nat.le_refl _)⟩

set_option maxRecDepth 100000 in
theorem has_any (l h x : Int) (w : World) : Calls Tryz.prog 81 #[.agg #[.int .i64 l, .int .i64 h], .int .i64 x] w fun e w' => e = .returned (.bool (decide (l ≤ x ∧ x ≤ h))) ∧ Below w.heap.size w w' := by
  by_cases h1 : l ≤ x
  · by_cases h2 : x ≤ h
    · rw [decide_eq_true ⟨h1, h2⟩]
      go_enter Tryz.func81, Tryz.ntmps81
      go_wp2_with fail
      go_ret
      exact ⟨rfl, (Below.refl _ _).alloc (Nat.le_refl _) _⟩
    · rw [decide_eq_false (fun q => h2 q.2)]
      go_enter Tryz.func81, Tryz.ntmps81
      go_wp2_with fail
      go_ret
      exact ⟨rfl, (Below.refl _ _).alloc (Nat.le_refl _) _⟩
  · rw [decide_eq_false (fun q => h1 q.1)]
    go_enter Tryz.func81, Tryz.ntmps81
    go_wp2_with fail
    go_ret
    exact ⟨rfl, (Below.refl _ _).alloc (Nat.le_refl _) _⟩
end Go.Proofs.YtjokibagciehlaaGreat
