/- reading's fields; the document's reader's. -/
import Derived.Test.YtegfglpaabddlaaParP
import Derived.Test.YtegfglpaabddlaaBitJ
namespace Go.Proofs.Ytegfglpaabddlaa
open Go.RowKit
set_option linter.unusedVariables false
set_option linter.unusedSimpArgs false

/-- the program's reading: a Reader at h.. and whether a field was none -/
def RG (w : World) (h g : Nat) (s : ByteArray) (t : St) : Prop := Bk w h 69 #[.pointer (some ⟨g, 0, none⟩), .bool t.bad] ∧ Rr w g s t.a
def RGS (h g : Nat) (k : Nat) : Prop := k = h ∨ k = g
theorem RG.ne {w : World} {h g : Nat} {s : ByteArray} {t : St} (q : RG w h g s t) : h ≠ g := Bk.ne_ q.1 q.2 (by decide)
theorem neB_ne (e : Nat) : ((e : Int) != 0) = neB e := rfl

set_option maxRecDepth 100000 in
theorem got_any (w : World) (h g : Nat) (s : ByteArray) (t : St) (x : Int) (e : Nat) (H : RG w h g s t) :
    Calls Try.prog 56 #[.pointer (some ⟨h, 0, none⟩), .int .i64 x, .int .i64 e] w fun r w' => r = .returned (.int .i64 x) ∧ RG w' h g s ⟨t.a, t.bad || neB e⟩ ∧ Touch (RGS h g) w w' := by
  obtain ⟨a, bad⟩ := t
  have c0 := H.1.cell 0
  have c1 := H.1.cell 1
  have f1 := H.1.frozen 1
  simp at c0 c1
  have HH := Lib.hid H
  have hne : ((e : Int) != 0) = neB e := rfl
  obtain ⟨b, hb⟩ : ∃ b, b = neB e := ⟨_, rfl⟩
  rw [← hb] at hne ⊢
  clear H hb
  cases bad <;> cases b
  all_goals
    go_enter Try.func56, Try.ntmps56
    go_wp2_with fail
    go_ret
    refine ⟨rfl, ⟨(HH.out.1.set_ 1 _), HH.out.2.far (fun q => HH.out.ne q.symm) _⟩, (Touch.refl _ _).setCell (fun _ => .inl rfl) _⟩
theorem RG.rd {w w1 : World} {h g : Nat} {s : ByteArray} {t : St} {a : Nat} (H : RG w h g s t) (q : RPost w g s a w1) : RG w1 h g s ⟨a, t.bad⟩ ∧ Touch (RGS h g) w w1 :=
  ⟨⟨H.1.touch q.2 (fun e => H.ne e), q.1⟩, q.2.mono fun k _ e => .inr e⟩

section
variable {w : World} {h g : Nat} {s : ByteArray} {t : St} (H : RG w h g s t) (hs : s.size ≤ 140737488351232) (ha : t.a ≤ 8 * s.size)
include H hs ha
set_option maxRecDepth 100000 in
theorem rg_ue : Calls Try.prog 39 #[.pointer (some ⟨h, 0, none⟩)] w fun r w' => r = .returned (.int .i64 (ueX (sbit s) (8 * s.size) t)) ∧ RG w' h g s (ueS (sbit s) (8 * s.size) t) ∧ Touch (RGS h g) w w' := by
  have c0 := H.1.cell 0
  simp at c0
  have HR := Lib.hid (rue_any g s t.a w H.2 hs ha)
  have HH := Lib.hid H
  clear H
  go_enter Try.func39, Try.ntmps39
  go_wp2_with fail
  refine HR.out.mono ?_
  rintro e w1 ⟨rfl, hq⟩
  obtain ⟨h1, h2⟩ := HH.out.rd hq
  have H1 := Lib.hid h1
  have H2 := Lib.hid h2
  clear hq h1 h2 c0
  go_wp2_with fail
  refine (got_any w1 h g s _ _ _ H1.out).mono ?_
  rintro e w2 ⟨rfl, h3, h4⟩
  have H3 := Lib.hid h3
  have H4 := Lib.hid (H2.out.trans h4)
  clear h3 h4
  go_wp2_with fail
  go_ret
  exact ⟨rfl, H3.out, H4.out⟩
set_option maxRecDepth 100000 in
theorem rg_se : Calls Try.prog 40 #[.pointer (some ⟨h, 0, none⟩)] w fun r w' => r = .returned (.int .i64 (seX (sbit s) (8 * s.size) t)) ∧ RG w' h g s (ueS (sbit s) (8 * s.size) t) ∧ Touch (RGS h g) w w' := by
  have c0 := H.1.cell 0
  simp at c0
  have HR := Lib.hid (rse_any g s t.a w H.2 hs ha)
  have HH := Lib.hid H
  clear H
  go_enter Try.func40, Try.ntmps40
  go_wp2_with fail
  refine HR.out.mono ?_
  rintro e w1 ⟨rfl, hq⟩
  obtain ⟨h1, h2⟩ := HH.out.rd hq
  have H1 := Lib.hid h1
  have H2 := Lib.hid h2
  clear hq h1 h2 c0
  go_wp2_with fail
  refine (got_any w1 h g s _ _ _ H1.out).mono ?_
  rintro e w2 ⟨rfl, h3, h4⟩
  have H3 := Lib.hid h3
  have H4 := Lib.hid (H2.out.trans h4)
  clear h3 h4
  go_wp2_with fail
  go_ret
  exact ⟨rfl, H3.out, H4.out⟩
set_option maxRecDepth 100000 in
theorem rg_bit : Calls Try.prog 55 #[.pointer (some ⟨h, 0, none⟩)] w fun r w' => r = .returned (.bool (btX (sbit s) (8 * s.size) 1 t == 1)) ∧ RG w' h g s (btS (sbit s) (8 * s.size) 1 t) ∧ Touch (RGS h g) w w' := by
  have c0 := H.1.cell 0
  simp at c0
  have HR := Lib.hid (rbits_any g s t.a 1 w H.2 hs ha)
  have HH := Lib.hid H
  clear H
  obtain ⟨b, hb⟩ : ∃ b, (btX (sbit s) (8 * s.size) 1 t == 1) = b := ⟨_, rfl⟩
  rw [hb]
  have HBB := Lib.hid hb
  clear hb
  go_enter Try.func55, Try.ntmps55
  go_wp2_with fail
  refine HR.out.mono ?_
  rintro e w1 ⟨rfl, hq⟩
  obtain ⟨h1, h2⟩ := HH.out.rd hq
  have H1 := Lib.hid h1
  have H2 := Lib.hid h2
  clear hq h1 h2 c0
  go_wp2_with fail
  refine (got_any w1 h g s _ _ _ H1.out).mono ?_
  rintro e w2 ⟨rfl, h3, h4⟩
  have H3 := Lib.hid h3
  have H4 := Lib.hid (H2.out.trans h4)
  clear h3 h4
  go_wp2_with fail
  go_ret
  exact ⟨ret_bool HBB.out, H3.out, H4.out⟩
set_option maxRecDepth 100000 in
/-- two bits, handed to got -/
theorem rg_over : Calls Try.prog 43 #[.pointer (some ⟨h, 0, none⟩)] w fun r w' => r = .returned (.bool (!t.bad && ((trailR (sbit s) (8 * s.size) t.a).1 : Int) == 0)) ∧ Touch (RGS h g) w w' := by
  have c0 := H.1.cell 0
  have c1 := H.1.cell 1
  simp at c0 c1
  have HR := Lib.hid (trail_any g s t.a w H.2 hs ha)
  have HH := Lib.hid H
  clear H
  obtain ⟨a, bad⟩ := t
  simp only at *
  obtain ⟨b, hb⟩ : ∃ b, (((trailR (sbit s) (8 * s.size) a).1 : Int) == 0) = b := ⟨_, rfl⟩
  rw [hb]
  cases bad
  · go_enter Try.func43, Try.ntmps43
    go_wp2_with fail
    refine HR.out.mono ?_
    rintro e w1 ⟨rfl, hq⟩
    have HT := Lib.hid (HH.out.rd hq).2
    clear hq
    go_wp2_with fail
    go_ret
    exact ⟨ret_bool (by simp), HT.out⟩
  · go_enter Try.func43, Try.ntmps43
    go_wp2_with fail
    go_ret
    exact ⟨rfl, Touch.refl _ _⟩
end
end Go.Proofs.Ytegfglpaabddlaa
