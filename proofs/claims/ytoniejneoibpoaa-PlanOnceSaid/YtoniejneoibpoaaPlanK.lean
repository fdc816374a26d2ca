/- Plan of both: every input, in one word; fine, awake; the statement PlanAll: the walk. -/
import Derived.Test.YtoniejneoibpoaaPlanJ
namespace Go.Proofs.Ytoniejneoibpoaa
open Go.RowKit
set_option linter.unusedVariables false
set_option linter.unusedSimpArgs false
attribute [local go_sem] ite_max ite_min

def okP (wide high refs qp bs period slices poc bits many : Int) : Bool := mayB wide high refs qp bs period slices poc bits && decide (0 ≤ many ∧ many ≤ 64)
def resL (ok : Bool) (bs period many : Int) : List Pic := if ok = true then planned period.toNat bs.toNat many.toNat else []
def resC (ok : Bool) : Int := if ok = true then 0 else 2500

theorem okP_no {wide high refs qp bs period slices poc bits many : Int} (h : okP wide high refs qp bs period slices poc bits many = false) :
    mayB wide high refs qp bs period slices poc bits = false ∨ (mayB wide high refs qp bs period slices poc bits = true ∧ ¬ (0 ≤ many ∧ many ≤ 64)) := by
  unfold okP at h
  rw [Bool.and_eq_false_iff] at h
  rcases h with h | h
  · exact .inl h
  · by_cases hm : mayB wide high refs qp bs period slices poc bits = true
    · exact .inr ⟨hm, of_decide_eq_false h⟩
    · exact .inl (by simpa using hm)
theorem resL_len (ok : Bool) (bs period many : Int) (h : ok = true → 1 ≤ period ∧ many ≤ 64) : (resL ok bs period many).length ≤ 64 := by
  unfold resL
  split
  · rename_i hk
    have := planned_len period.toNat bs.toNat many.toNat (by have := h hk; omega)
    have := h hk
    omega
  · simp
theorem okP_bd {wide high refs qp bs period slices poc bits many : Int} (h : okP wide high refs qp bs period slices poc bits many = true) : (1 ≤ period ∧ period ≤ 7) ∧ (0 ≤ bs ∧ bs ≤ 2) ∧ 0 ≤ many ∧ many ≤ 64 := by
  unfold okP at h
  rw [Bool.and_eq_true, mayB_iff] at h
  obtain ⟨⟨_, _, _, _, h1, h2, _⟩, h3⟩ := h
  exact ⟨h2, h1, of_decide_eq_true h3⟩

theorem plan_any (wide high refs qp bs period : Int) (cabac : Bool) (slices : Int) (pcm deblock : Bool) (poc bits many : Int) (w : World) :
    Calls Try.prog 19 #[.agg (cfgV wide high refs qp bs period cabac slices pcm deblock poc bits), .int .i64 many] w (Row w (resL (okP wide high refs qp bs period slices poc bits many) bs period many) (resC (okP wide high refs qp bs period slices poc bits many))) := by
  cases hk : okP wide high refs qp bs period slices poc bits many
  · exact plan_no _ _ _ _ _ _ _ _ _ _ _ _ _ _ (okP_no hk)
  · obtain ⟨h1, h2, h3⟩ := okP_bd hk
    unfold okP at hk
    rw [Bool.and_eq_true] at hk
    have := plan_yes wide high refs qp bs.toNat period.toNat cabac slices pcm deblock poc bits many.toNat w (by rw [Int.toNat_of_nonneg h2.1, Int.toNat_of_nonneg (by omega)]; exact hk.1) (by omega) (by omega) (by omega)
    rw [Int.toNat_of_nonneg h2.1, Int.toNat_of_nonneg (by omega), Int.toNat_of_nonneg h3.1] at this
    exact this
theorem plan2_any (wide high refs qp bs period : Int) (cabac : Bool) (slices : Int) (pcm deblock : Bool) (poc bits many : Int) (w : World) :
    Calls Try.prog 20 #[.agg (cfgV wide high refs qp bs period cabac slices pcm deblock poc bits), .int .i64 many] w (Row w (resL (okP wide high refs qp bs period slices poc bits many) bs period many) (resC (okP wide high refs qp bs period slices poc bits many))) := by
  cases hk : okP wide high refs qp bs period slices poc bits many
  · exact plan2_no _ _ _ _ _ _ _ _ _ _ _ _ _ _ (okP_no hk)
  · obtain ⟨h1, h2, h3⟩ := okP_bd hk
    unfold okP at hk
    rw [Bool.and_eq_true] at hk
    have := plan2_yes wide high refs qp bs.toNat period.toNat cabac slices pcm deblock poc bits many.toNat w (by rw [Int.toNat_of_nonneg h2.1, Int.toNat_of_nonneg (by omega)]; exact hk.1) (by omega) (by omega) (by omega)
    rw [Int.toNat_of_nonneg h2.1, Int.toNat_of_nonneg (by omega), Int.toNat_of_nonneg h3.1] at this
    exact this

/-- what a call of Plan's kind leaves, opened -/
theorem Row.open_ {w w' : World} {L : List Pic} {c : Int} {e : Ending} (h : Row w L c e w') :
    ∃ A cp, e = .returned (.tuple #[.slice A L.length cp, .int .i64 c]) ∧ L.length ≤ cp ∧ cp ≤ maxLen ∧ Rp w' A L ∧ (∀ g, A = some ⟨g, 0, none⟩ → w.heap.size ≤ g ∧ g < w'.heap.size) ∧ (A = none → L.length = 0) ∧ (∀ a, A = some a → ∃ g, a = ⟨g, 0, none⟩ ∧ ∀ o, w'.frozen? ⟨g, o, none⟩ = false) ∧ Below w.heap.size w w' := by
  obtain ⟨v, rfl, ho, hb⟩ := h
  obtain ⟨A, c, rfl, h1, h2, h3, h4, h5, h6⟩ := Rp.of_own ho
  exact ⟨A, c, rfl, h1, h2, h3, h4, h5, h6, hb⟩

theorem fine_any (w : World) : Calls Try.prog 25 #[] w fun e w' => e = .returned (.agg (cfgV 1 1 2 30 1 4 false 1 false false 0 0)) ∧ Below w.heap.size w w' := by
  go_enter Try.func25, Try.ntmps25
  go_wp2_with fail
  exact bodyPost_ret (v := .agg (cfgV 1 1 2 30 1 4 false 1 false false 0 0)) (by simp [results, Try.results25, go_sem, cfgV]) rfl ⟨rfl, (Below.refl _ _).alloc (Nat.le_refl _) _⟩

theorem num_eq (x y : Int) (w : World) (h : x = y) : Calls Try.prog 22 #[.int .i64 x] w fun e w' => e = .returned (.int .i64 y) ∧ w = w' := by
  subst h
  exact num_any x w

set_option maxRecDepth 100000 in
set_option maxHeartbeats 3200000 in
theorem awake_any (w : World) :
    Calls Try.prog 24 #[] w fun e w' => e = .returned (.bool true) ∧ Below w.heap.size w w' := by
  have e1 : okP 1 1 2 30 1 4 1 0 0 4 = true := by decide
  have e2 : okP 0 0 0 0 0 0 0 0 0 1 = false := by decide
  have H1 := Lib.hid (plan_any 1 1 2 30 1 4 false 1 false false 0 0 4)
  have H2 := Lib.hid (plan_no 0 0 0 0 0 0 false 0 false false 0 0 1)
  go_enter Try.func24, Try.ntmps24
  go_wp2_with fail
  refine (fine_any _).mono ?_
  rintro e w1 ⟨rfl, hb⟩
  have BB := Lib.hid hb
  clear hb
  go_wp2_with fail
  refine (H1.out _).mono ?_
  rintro e w2 hq
  rw [e1] at hq
  obtain ⟨A, cp, rfl, c1, c2, hr, -, -, -, hb⟩ := Row.open_ hq
  have BB := Lib.hid (BB.out.trans (hb.mono BB.out.size))
  have hr' : Rp w2 A [⟨0, 2, true, true, 0⟩, ⟨2, 0, true, false, 4⟩, ⟨1, 1, false, false, 2⟩, ⟨3, 0, true, false, 6⟩] := hr
  have R1 := Lib.hid hr'
  have hl : (resL true 1 4 4).length = 4 := by decide
  rw [hl] at c1 ⊢
  clear hb hq hr hr' H1 hl
  go_wp2_with fail
  refine Calls.mono (H2.out _ (okP_no e2)) ?_
  rintro e w3 hq
  obtain ⟨A3, cp3, rfl, -, -, -, -, -, -, hb⟩ := Row.open_ hq
  have BB := Lib.hid (BB.out.trans (hb.mono BB.out.size))
  have R1 := Lib.hid (R1.out.go hb)
  clear hb hq H2 e1 e2
  obtain ⟨g, rfl, hg, hc⟩ := R1.out 0 _ rfl
  have f0 : w3.cell? ⟨g, 0, none⟩ = _ := hc 0 _ rfl
  have f1 : w3.cell? ⟨g, 1, none⟩ = _ := hc 1 _ rfl
  have f2 : w3.cell? ⟨g, 2, none⟩ = _ := hc 2 _ rfl
  have f3 : w3.cell? ⟨g, 3, none⟩ = _ := hc 3 _ rfl
  have f4 : w3.cell? ⟨g, 4, none⟩ = _ := hc 4 _ rfl
  clear hc
  obtain ⟨g', q, _, hc⟩ := R1.out 1 _ rfl
  obtain rfl : g = g' := by injection q with q; injection q
  have f5 : w3.cell? ⟨g, 5, none⟩ = _ := hc 0 _ rfl
  have f6 : w3.cell? ⟨g, 6, none⟩ = _ := hc 1 _ rfl
  have f7 : w3.cell? ⟨g, 7, none⟩ = _ := hc 2 _ rfl
  have f8 : w3.cell? ⟨g, 8, none⟩ = _ := hc 3 _ rfl
  have f9 : w3.cell? ⟨g, 9, none⟩ = _ := hc 4 _ rfl
  clear hc q
  obtain ⟨g', q, _, hc⟩ := R1.out 2 _ rfl
  obtain rfl : g = g' := by injection q with q; injection q
  have f10 : w3.cell? ⟨g, 10, none⟩ = _ := hc 0 _ rfl
  have f11 : w3.cell? ⟨g, 11, none⟩ = _ := hc 1 _ rfl
  have f12 : w3.cell? ⟨g, 12, none⟩ = _ := hc 2 _ rfl
  have f13 : w3.cell? ⟨g, 13, none⟩ = _ := hc 3 _ rfl
  have f14 : w3.cell? ⟨g, 14, none⟩ = _ := hc 4 _ rfl
  clear hc q
  obtain ⟨g', q, _, hc⟩ := R1.out 3 _ rfl
  obtain rfl : g = g' := by injection q with q; injection q
  have f15 : w3.cell? ⟨g, 15, none⟩ = _ := hc 0 _ rfl
  clear hc q
  go_wp2_with (go_at_call 22; refine (num_any _ _).mono ?_; rintro e w' ⟨rfl, rfl⟩)
  go_goals
  go_ret
  exact ⟨rfl, BB.out⟩

end Go.Proofs.Ytoniejneoibpoaa
