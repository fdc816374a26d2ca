/- Blocks of coefficients: the document's Get, outside. -/
import Derived.Test.YtocooplmfkeepaaLevU
namespace Go.Proofs.Ytocooplmfkeepaa
open Go.RowKit
set_option linter.unusedVariables false
set_option linter.unusedSimpArgs false

theorem dget_no (g gB N : Nat) (f : Nat → Bool) (a : Nat) (x : Int) (w : World) (h : RR w g gB N f a) (hx : sizeI x = false) :
    Calls Try.prog 26 #[.pointer (some ⟨g, 0, none⟩), .int .i64 x] w fun e w' => e = .returned (.tuple #[.slice none 0 0, .int .i64 700]) ∧ RRPost w g gB N f a w' := by
  have H := Lib.hid h
  clear h
  go_enter Try.func26, Try.ntmps26
  go_wp2_with fail
  refine (sizei2_any x _).mono ?_
  rintro e w' ⟨rfl, rfl⟩
  rw [hx]
  clear hx
  go_wp2_with fail
  go_ret2
  exact ⟨rfl, H.out, Touch.refl _ _⟩
def TG2 (w : World) (g gB N : Nat) (f : Nat → Bool) (a size : Nat) (r : Except Int ((Nat → Int) × Nat)) (e : Ending) (w' : World) : Prop :=
  match r with
  | .ok (z, b) => ∃ O, e = .returned (.tuple #[.slice (some ⟨O, 0, none⟩) size size, .int .i64 0]) ∧ w.heap.size ≤ O ∧ Ar w' O size (fun k => .int .i64 (z k)) ∧ b ≤ N ∧ RRPost w g gB N f b w'
  | .error c => e = .returned (.tuple #[.slice none 0 0, .int .i64 c]) ∧ RRPost w g gB N f a w'

set_option maxRecDepth 100000 in
theorem dget_any (g gB N : Nat) (f : Nat → Bool) (a size : Nat) (w : World) (h : RR w g gB N f a) (hN : N ≤ 1125899906842624) (ha : a ≤ N) (hx : sizeOk size = true) :
    Calls Try.prog 26 #[.pointer (some ⟨g, 0, none⟩), .int .i64 size] w (TG2 w g gB N f a size (getB f N size a)) := by
  have hk := sizeOk_le hx
  have HG := Lib.hid (dget_in g gB N f a size w h hN ha hk.1 hk.2)
  have c1 : w.cell? ⟨g, 1, none⟩ = some (.int .i64 a) := by obtain ⟨⟨cp, hk⟩, hr⟩ := h; exact hk.cell 1
  have H := Lib.hid h
  clear h hk
  generalize getB f N size a = R at *
  go_enter Try.func26, Try.ntmps26
  go_wp2_with fail
  refine (size2_any size _).mono ?_
  rintro e w' ⟨rfl, rfl⟩
  rw [hx]
  clear hx
  go_wp2_with fail
  refine HG.out.mono ?_
  rintro e w1 hq
  clear HG c1
  rcases R with c | ⟨z, b⟩
  · obtain ⟨rfl, hc, b, hq⟩ := hq
    have hcz : (c != 0) = true := by rw [bne_iff_ne]; exact hc
    obtain ⟨⟨cp, hk⟩, hr⟩ := hq.1
    have c1 := hk.cell 1
    have f1 := hk.frozen 1
    simp at c1
    have hs := hq.then (RR.set hq.1 a)
    have HS := Lib.hid hs
    clear hc hq hk hr hs
    go_wp2_with fail
    go_ret2
    exact ⟨rfl, HS.out⟩
  · obtain ⟨O, rfl, hO, har, hb, hq⟩ := hq
    have HQ := Lib.hid hq
    have HA := Lib.hid har
    clear hq har
    go_wp2_with fail
    go_ret2
    exact ⟨O, rfl, hO, HA.out, hb, HQ.out⟩
end Go.Proofs.Ytocooplmfkeepaa
