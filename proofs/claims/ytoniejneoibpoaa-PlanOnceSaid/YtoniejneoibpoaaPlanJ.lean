/- SamePlans, SpoilPlans, fine, awake. -/
import Derived.Test.YtoniejneoibpoaaPlanI
namespace Go.Proofs.Ytoniejneoibpoaa
open Go.RowKit
set_option linter.unusedVariables false
set_option linter.unusedSimpArgs false
attribute [local go_sem] ite_max ite_min

/-- Behind A lie the pictures of L. -/
def Rp (w : World) (A : Option Addr) (L : List Pic) : Prop :=
  ∀ (k : Nat) (p : Pic), L[k]? = some p → ∃ g, A = some ⟨g, 0, none⟩ ∧ g < w.heap.size ∧ ∀ (j : Nat) (u : Value), p.cells[j]? = some u → w.cell? ⟨g, k * 5 + j, none⟩ = some u

theorem flat_get (L : List Pic) (k : Nat) (p : Pic) (h : L[k]? = some p) (j : Nat) (u : Value) (hu : p.cells[j]? = some u) : (cellsOf L)[k * 5 + j]? = some u := by
  induction L generalizing k with
  | nil => simp at h
  | cons q L ih =>
    have hq : q.cells.length = 5 := rfl
    have hj : j < 5 := by
      have := (List.getElem?_eq_some_iff.1 hu).1
      simpa [Pic.cells] using this
    show (q.cells ++ cellsOf L)[k * 5 + j]? = some u
    cases k with
    | zero =>
      simp at h
      subst h
      rw [List.getElem?_append_left (by omega)]
      simpa using hu
    | succ k =>
      rw [List.getElem?_append_right (by omega), hq]
      have := ih k (by simpa using h)
      rw [← this]
      congr 1
      omega
theorem Rp.of_own {w : World} {base : Nat} {v : Value} {L : List Pic} (h : w.ownsRow base 37 5 v L.length (cellsOf L)) :
    ∃ A c, v = .slice A L.length c ∧ L.length ≤ c ∧ c ≤ maxLen ∧ Rp w A L ∧ (∀ g, A = some ⟨g, 0, none⟩ → base ≤ g ∧ g < w.heap.size) ∧ (A = none → L.length = 0) ∧ (∀ a, A = some a → ∃ g, a = ⟨g, 0, none⟩ ∧ ∀ o, w.frozen? ⟨g, o, none⟩ = false) := by
  rcases h.2 with ⟨rfl, h0⟩ | ⟨g, cap, cur, rfl, hbg, hh, hnc, hcm, _, htake⟩
  · refine ⟨none, 0, by rw [h0], by omega, Nat.zero_le _, fun k p hk => ?_, ?_⟩
    · have := (List.getElem?_eq_some_iff.1 hk).1
      omega
    · exact ⟨(fun g q => by cases q), fun _ => h0, (fun a q => by cases q)⟩
  · refine ⟨_, _, rfl, hnc, hcm, fun k p hk => ⟨g, rfl, (Array.getElem?_eq_some_iff.1 hh).1, fun j u hu => ?_⟩, ?_, (fun q => by cases q), ?_⟩
    · have := h.cells (g := g) rfl _ _ (flat_get L k p hk j u hu)
      rwa [add_new] at this
    · intro g' q
      obtain rfl : g = g' := by injection q with q; injection q
      exact ⟨hbg, (Array.getElem?_eq_some_iff.1 hh).1⟩
    · intro a q
      obtain rfl : (⟨g, 0, none⟩ : Addr) = a := by injection q
      exact ⟨g, rfl, fun o => Bk.frozen (t := 37) hh o⟩
theorem Rp.go {w w' : World} {A : Option Addr} {L : List Pic} (h : Rp w A L) (hb : Below w.heap.size w w') : Rp w' A L := fun k p hk => by
  obtain ⟨g, rfl, hg, hc⟩ := h k p hk
  exact ⟨g, rfl, Nat.lt_of_lt_of_le hg hb.size, fun j u hu => (hb.cell hg).trans (hc j u hu)⟩
theorem Rp.at_ {w : World} {A : Option Addr} {L : List Pic} (h : Rp w A L) {k : Nat} (hk : k < L.length) :
    ∃ g, A = some ⟨g, 0, none⟩ ∧ g < w.heap.size ∧ w.cell? ⟨g, k * 5, none⟩ = some (.int .i64 L[k].frame) ∧ w.cell? ⟨g, k * 5 + 1, none⟩ = some (.int .i64 L[k].type) ∧ w.cell? ⟨g, k * 5 + 2, none⟩ = some (.bool L[k].ref) ∧
      w.cell? ⟨g, k * 5 + 3, none⟩ = some (.bool L[k].key) ∧ w.cell? ⟨g, k * 5 + 4, none⟩ = some (.int .i64 L[k].poc) := by
  obtain ⟨g, e, hg, hc⟩ := h k L[k] (List.getElem?_eq_getElem hk)
  exact ⟨g, e, hg, hc 0 _ rfl, hc 1 _ rfl, hc 2 _ rfl, hc 3 _ rfl, hc 4 _ rfl⟩

set_option maxHeartbeats 1600000 in
theorem samep_yes (A C : Option Addr) (c d : Nat) (L : List Pic) (w : World) (h : Rp w A L) (g : Rp w C L) (hn : L.length ≤ 1000) :
    Calls Try.prog 21 #[.slice A L.length c, .slice C L.length d] w fun e w' => e = .returned (.bool true) ∧ Below w.heap.size w w' := by
  obtain ⟨n, hN⟩ : ∃ n, n = L.length := ⟨_, rfl⟩
  rw [← hN] at hn ⊢
  have HN := Lib.hid hN
  clear hN
  go_enter Try.func21, Try.ntmps21
  go_wp2_with fail
  go_loopw [5] (fun i wr => ∃ k : Nat, k ≤ n ∧ i = .int .i64 k ∧ Below w.heap.size w wr) (fun i _ => n - (intOf i).toNat)
  case atStart => exact ⟨0, Nat.zero_le _, rfl, Below.refl _ _⟩
  case round =>
    obtain ⟨k, hk, rfl, hbl⟩ := hrel
    by_cases hlt : k < n
    · have hk' : k < L.length := by rw [← HN.out]; exact hlt
      obtain ⟨g1, rfl, hg1, a0, a1, a2, a3, a4⟩ := Rp.at_ (h.go hbl) hk'
      obtain ⟨g2, rfl, hg2, b0, b1, b2, b3, b4⟩ := Rp.at_ (g.go hbl) hk'
      have HB := Lib.hid hbl
      have HX := Lib.hid h
      have HY := Lib.hid g
      clear hbl h g
      have hi0 : (0 : Int) ≤ (k : Int) := Int.natCast_nonneg _
      have hi1 : (k : Int) < (n : Int) := by omega
      generalize L[k].frame = x0 at *
      generalize L[k].type = x1 at *
      generalize L[k].ref = x2 at *
      generalize L[k].key = x3 at *
      generalize L[k].poc = x4 at *
      go_wp2_with fail
      go_quiet (fail)
      go_wp2_with fail
      go_roundw
      case rel => exact ⟨k + 1, by omega, by go_num, ⟨HB.out.os, HB.out.tape, HB.out.output, HB.out.size, HB.out.block⟩⟩
      case measure => simp [intOf]; omega
    · go_wp2_with fail
      go_ret
      exact ⟨rfl, hbl⟩

theorem Rp.touch {S : Nat → Prop} {w w' : World} {A : Option Addr} {L : List Pic} (h : Rp w A L) (ht : Touch S w w') (hs : ∀ g, A = some ⟨g, 0, none⟩ → ¬ S g) : Rp w' A L := fun k p hk => by
  obtain ⟨g, rfl, hg, hc⟩ := h k p hk
  exact ⟨g, rfl, Nat.lt_of_lt_of_le hg ht.size, fun j u hu => (ht.cell (p := ⟨g, k * 5 + j, none⟩) hg (hs g rfl)).trans (hc j u hu)⟩

/-- Block g's counters can be written. -/
def Pocs (w : World) (g n : Nat) : Prop := (∀ j, j < n → ∃ x, w.cell? ⟨g, j * 5 + 4, none⟩ = some (.int .i64 x)) ∧ ∀ o, w.frozen? ⟨g, o, none⟩ = false
theorem Pocs.set_ {w : World} {g n k : Nat} (h : Pocs w g n) (hk : k < n) (x : Int) : Pocs (w.setCell ⟨g, k * 5 + 4, none⟩ (.int .i64 x)) g n := by
  refine ⟨fun j hj => ?_, fun o => ?_⟩
  · obtain ⟨y, hy⟩ := h.1 j hj
    obtain ⟨z, hz⟩ := h.1 k hk
    by_cases hjk : j = k
    · subst hjk
      exact ⟨x, World.cell?_setCell_same _ _ _ hz⟩
    · exact ⟨y, (World.cell?_setCell_other _ _ _ _ (fun q => hjk (by injection q with _ q _; omega))).trans hy⟩
  · rw [World.frozen?_setCell]
    exact h.2 o

set_option maxHeartbeats 1600000 in
theorem spoil_any (A : Option Addr) (n c : Nat) (w : World) (h : 0 < n → ∃ g, A = some ⟨g, 0, none⟩ ∧ Pocs w g n) (hn : n ≤ 1000) :
    Calls Try.prog 23 #[.slice A n c] w fun e w' => e = .returned (.tuple #[]) ∧ Touch (fun k => A = some ⟨k, 0, none⟩) w w' := by
  go_enter Try.func23, Try.ntmps23
  go_wp2_with fail
  go_loopw [2] (fun i wr => ∃ k : Nat, k ≤ n ∧ i = .int .i64 k ∧ Touch (fun k => A = some ⟨k, 0, none⟩) w wr ∧ (0 < n → ∃ g, A = some ⟨g, 0, none⟩ ∧ Pocs wr g n)) (fun i _ => n - (intOf i).toNat)
  case atStart => exact ⟨0, Nat.zero_le _, rfl, Touch.refl _ _, h⟩
  case round =>
    clear h
    obtain ⟨k, hk, rfl, ht, hp⟩ := hrel
    by_cases hlt : k < n
    · obtain ⟨g, rfl, hpo⟩ := hp (by omega)
      obtain ⟨x, hx⟩ := hpo.1 k hlt
      have hfr := hpo.2 (k * 5 + 4)
      have HP := Lib.hid hpo
      have HT := Lib.hid ht
      clear hp hpo ht
      have hi0 : (0 : Int) ≤ (k : Int) := Int.natCast_nonneg _
      have hi1 : (k : Int) < (n : Int) := by omega
      go_wp2_with fail
      go_roundw
      case rel => exact ⟨k + 1, by omega, by go_num, HT.out.setCell (fun _ => rfl) _, fun _ => ⟨g, rfl, HP.out.set_ hlt _⟩⟩
      case measure => simp [intOf]; omega
    · have HT := Lib.hid ht
      clear hp ht
      go_wp2_with fail
      go_end0
      exact ⟨rfl, HT.out⟩

end Go.Proofs.Ytoniejneoibpoaa
