/- The document's reader's fields. -/
import Derived.Test.YtegfglpaabddlaaParH
namespace Go.Proofs.Ytegfglpaabddlaa
open Go.RowKit
set_option linter.unusedVariables false
set_option linter.unusedSimpArgs false

/-- the document's reader: a Reader, and whether a field was none -/
def DG (w : World) (h g gB N : Nat) (f : Nat → Bool) (t : St) : Prop := Bk w h 96 #[.pointer (some ⟨g, 0, none⟩), .bool t.bad] ∧ RR w g gB N f t.a ∧ h ≠ gB
/-- a field that is read where none was wrong -/
def dX (b : Bool) (x : Int) : Int := if b = true then 0 else x
def dS (t u : St) : St := if t.bad = true then t else u
theorem RR.bk {w : World} {g gB N : Nat} {f : Nat → Bool} {a : Nat} (h : RR w g gB N f a) : ∃ cp, Bk w g 94 #[.slice (some ⟨gB, 0, none⟩) N cp, .int .i64 a] := h.1
theorem DG.ne {w : World} {h g gB N : Nat} {f : Nat → Bool} {t : St} (q : DG w h g gB N f t) : h ≠ g := by
  obtain ⟨cp, hk⟩ := q.2.1.bk
  exact Bk.ne_ q.1 hk (by decide)
theorem DG.rd {w w1 : World} {h g gB N : Nat} {f : Nat → Bool} {t : St} {a : Nat} (H : DG w h g gB N f t) (q : RRPost w g gB N f a w1) : DG w1 h g gB N f ⟨a, t.bad⟩ ∧ Touch (RGS h g) w w1 :=
  ⟨⟨H.1.touch q.2 (fun e => H.ne e), q.1, H.2.2⟩, q.2.mono fun k _ e => .inr e⟩
theorem RR.far {w : World} {h g gB N : Nat} {f : Nat → Bool} {a : Nat} (H : RR w g gB N f a) (h1 : h ≠ g) (h2 : h ≠ gB) (i : Nat) (u : Value) : RR (w.setCell ⟨h, i, none⟩ u) g gB N f a := by
  obtain ⟨⟨cp, hk⟩, q1, q2, q3⟩ := H
  exact ⟨⟨cp, hk.far (fun e => h1 e.symm) _⟩, q1, by simpa [World.setCell] using q2, fun k hk' => (World.cell?_of_block (Below.heap_setCell _ _ _ _ (fun e => h2 e.symm))).trans (q3 k hk')⟩

section
variable {w : World} {h g gB N : Nat} {f : Nat → Bool} {t : St} (H : DG w h g gB N f t) (hN : N ≤ 1125899906842624) (ha : t.a ≤ N)
include H hN ha
set_option maxRecDepth 100000 in
theorem dg_ue  : Calls Try.prog 45 #[.pointer (some ⟨h, 0, none⟩)] w fun r w' => r = .returned (.int .i64 (dX t.bad (ueX f N t))) ∧ DG w' h g gB N f (dS t (ueS f N t)) ∧ Touch (RGS h g) w w' := by
  obtain ⟨a, bad⟩ := t
  have c0 := H.1.cell 0
  have c1 := H.1.cell 1
  simp at c0 c1 ha
  cases bad
  · have HR := Lib.hid (uer_any g gB N f a w H.2.1 hN ha)
    have HH := Lib.hid H
    clear H
    go_enter Try.func45, Try.ntmps45
    go_wp2_with fail
    refine HR.out.mono ?_
    rintro e w1 ⟨rfl, hq⟩
    obtain ⟨h1, h2⟩ := HH.out.rd hq
    have H1 := Lib.hid h1
    have H2 := Lib.hid h2
    have c0 := h1.1.cell 0
    have c1 := h1.1.cell 1
    have f1 := h1.1.frozen 1
    simp at c0 c1
    obtain ⟨b, hb⟩ : ∃ b, ((((ueR f N a).e : Nat) : Int) != 0) = b := ⟨_, rfl⟩
    have hb2 : neB (ueR f N a).e = b := hb
    have HB := Lib.hid hb2
    clear hq h1 h2 HR hb2
    go_wp2_with fail
    go_ret
    refine ⟨rfl, ⟨?_, ?_, H1.out.2.2⟩, ?_⟩
    · have e := H1.out.1.set_ 1 (.bool b)
      show Bk _ h _ #[_, .bool (false || neB _)]
      rw [Bool.false_or]
      first | rw [HB.out] | (rw [show neB (ueR f N a).e = b from HB.out])
      exact e
    · exact H1.out.2.1.far H1.out.ne H1.out.2.2 1 _
    · exact H2.out.setCell (fun _ => .inl rfl) _
  · have HH := Lib.hid H
    clear H
    go_enter Try.func45, Try.ntmps45
    go_wp2_with fail
    go_ret
    exact ⟨rfl, HH.out, Touch.refl _ _⟩
set_option maxRecDepth 100000 in
theorem dg_se  : Calls Try.prog 46 #[.pointer (some ⟨h, 0, none⟩)] w fun r w' => r = .returned (.int .i64 (dX t.bad (seX f N t))) ∧ DG w' h g gB N f (dS t (ueS f N t)) ∧ Touch (RGS h g) w w' := by
  obtain ⟨a, bad⟩ := t
  have c0 := H.1.cell 0
  have c1 := H.1.cell 1
  simp at c0 c1 ha
  cases bad
  · have HR := Lib.hid (ser_any g gB N f a w H.2.1 hN ha)
    have HH := Lib.hid H
    clear H
    go_enter Try.func46, Try.ntmps46
    go_wp2_with fail
    refine HR.out.mono ?_
    rintro e w1 ⟨rfl, hq⟩
    obtain ⟨h1, h2⟩ := HH.out.rd hq
    have H1 := Lib.hid h1
    have H2 := Lib.hid h2
    have c0 := h1.1.cell 0
    have c1 := h1.1.cell 1
    have f1 := h1.1.frozen 1
    simp at c0 c1
    obtain ⟨b, hb⟩ : ∃ b, ((((seR f N a).e : Nat) : Int) != 0) = b := ⟨_, rfl⟩
    have hb2 : neB (seR f N a).e = b := hb
    have HB := Lib.hid hb2
    clear hq h1 h2 HR hb2
    go_wp2_with fail
    go_ret
    refine ⟨rfl, ⟨?_, ?_, H1.out.2.2⟩, ?_⟩
    · have e := H1.out.1.set_ 1 (.bool b)
      show Bk _ h _ #[_, .bool (false || neB _)]
      rw [Bool.false_or]
      first | rw [HB.out] | (rw [show neB (ueR f N a).e = b from HB.out])
      exact e
    · exact H1.out.2.1.far H1.out.ne H1.out.2.2 1 _
    · exact H2.out.setCell (fun _ => .inl rfl) _
  · have HH := Lib.hid H
    clear H
    go_enter Try.func46, Try.ntmps46
    go_wp2_with fail
    go_ret
    exact ⟨rfl, HH.out, Touch.refl _ _⟩
set_option maxRecDepth 100000 in
theorem dg_bits (n : Nat) : Calls Try.prog 58 #[.pointer (some ⟨h, 0, none⟩), .int .i64 n] w fun r w' => r = .returned (.int .i64 (dX t.bad (btX f N n t))) ∧ DG w' h g gB N f (dS t (btS f N n t)) ∧ Touch (RGS h g) w w' := by
  obtain ⟨a, bad⟩ := t
  have c0 := H.1.cell 0
  have c1 := H.1.cell 1
  simp at c0 c1 ha
  cases bad
  · have HR := Lib.hid (bits2_any g gB N f a n w H.2.1 hN ha)
    have HH := Lib.hid H
    clear H
    go_enter Try.func58, Try.ntmps58
    go_wp2_with fail
    refine HR.out.mono ?_
    rintro e w1 ⟨rfl, hq⟩
    obtain ⟨h1, h2⟩ := HH.out.rd hq
    have H1 := Lib.hid h1
    have H2 := Lib.hid h2
    have c0 := h1.1.cell 0
    have c1 := h1.1.cell 1
    have f1 := h1.1.frozen 1
    simp at c0 c1
    obtain ⟨b, hb⟩ : ∃ b, ((((bitsR f N a n).e : Nat) : Int) != 0) = b := ⟨_, rfl⟩
    have hb2 : neB (bitsR f N a n).e = b := hb
    have HB := Lib.hid hb2
    clear hq h1 h2 HR hb2
    go_wp2_with fail
    go_ret
    refine ⟨rfl, ⟨?_, ?_, H1.out.2.2⟩, ?_⟩
    · have e := H1.out.1.set_ 1 (.bool b)
      show Bk _ h _ #[_, .bool (false || neB _)]
      rw [Bool.false_or]
      first | rw [HB.out] | (rw [show neB (ueR f N a).e = b from HB.out])
      exact e
    · exact H1.out.2.1.far H1.out.ne H1.out.2.2 1 _
    · exact H2.out.setCell (fun _ => .inl rfl) _
  · have HH := Lib.hid H
    clear H
    go_enter Try.func58, Try.ntmps58
    go_wp2_with fail
    go_ret
    exact ⟨rfl, HH.out, Touch.refl _ _⟩
end
end Go.Proofs.Ytegfglpaabddlaa
