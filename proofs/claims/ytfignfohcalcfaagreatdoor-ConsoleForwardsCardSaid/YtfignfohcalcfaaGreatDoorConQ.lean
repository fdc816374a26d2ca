/- quant's tables, made once; ChromaQp. -/
import Derived.Test.YtfignfohcalcfaaGreatDoorConS
import Derived.Test.YtfignfohcalcfaaGreatDoorOnce
import Derived.Test.YtfignfohcalcfaaGreatDoorSetC
namespace Go.Proofs.YtfignfohcalcfaaGreatDoor
open Go.RowKit
set_option linter.unusedVariables false
set_option linter.unusedSimpArgs false
attribute [local go_sem] ite_max ite_min

def qpV : Nat → Value := fun i => .int .i64 (qpT.getD i 0)
def mC : Array Value := #[.int .i64 13107, .int .i64 5243, .int .i64 8066, .int .i64 11916, .int .i64 4660, .int .i64 7490, .int .i64 10082, .int .i64 4194, .int .i64 6554, .int .i64 9362, .int .i64 3647, .int .i64 5825, .int .i64 8192, .int .i64 3355, .int .i64 5243, .int .i64 7282, .int .i64 2893, .int .i64 4559]
def vC : Array Value := #[.int .i64 10, .int .i64 16, .int .i64 13, .int .i64 11, .int .i64 18, .int .i64 14, .int .i64 13, .int .i64 20, .int .i64 16, .int .i64 14, .int .i64 23, .int .i64 18, .int .i64 16, .int .i64 25, .int .i64 20, .int .i64 18, .int .i64 29, .int .i64 23]
def qC : Array Value := #[.int .i64 29, .int .i64 30, .int .i64 31, .int .i64 32, .int .i64 32, .int .i64 33, .int .i64 34, .int .i64 34, .int .i64 35, .int .i64 35, .int .i64 36, .int .i64 36, .int .i64 37, .int .i64 37, .int .i64 37, .int .i64 38, .int .i64 38, .int .i64 38, .int .i64 39, .int .i64 39, .int .i64 39, .int .i64 39]
theorem bk_mid {b o n : Nat} {T : TypeId} {cs : Array Value} {w : World} (vs : List Value) (h : Bk w b T cs) (hs : cs.size = 61) (hl : vs.length = n) (hn : o + n ≤ 61) :
    ∃ cs', Bk (w.setCells b o vs) b T cs' ∧ cs'.size = 61 ∧ (∀ j, j < n → cs'[o + j]? = vs[j]?) ∧ ∀ i, i < o ∨ o + n ≤ i → cs'[i]? = cs[i]? := by
  subst hl
  obtain ⟨cs', h1, h2, h3, h4⟩ := bk_setCells vs o h (by omega)
  exact ⟨cs', h1, h2.trans hs, h3, h4⟩
set_option maxRecDepth 100000 in
set_option maxHeartbeats 3200000 in
theorem tinit_any (b c : Nat) (cs : Array Value) (w : World) (hb : Bk w b 127 cs) (hs : cs.size = 61) (hc : w.cell? ⟨c, 0, none⟩ = some (.pointer (some ⟨b, 0, none⟩))) (hne : c ≠ b) :
    Calls Tryz.prog 100 #[.pointer (some ⟨c, 0, none⟩)] w fun e w' => e = .returned (.tuple #[]) ∧ ∃ cs', Bk w' b 127 cs' ∧ cs'.size = 61 ∧ (∀ i, i < 3 → cs'[i]? = cs[i]?) ∧ (∀ i, i < 22 → cs'[39 + i]? = some (qpV i)) ∧ Touch (fun k => k = b) w w' := by
  have HB := Lib.hid hb
  have HS := Lib.hid hs
  have hcl := cell_lt hc
  have HC := Lib.hid (And.intro hc hcl)
  clear hb hs hcl
  go_enter Tryz.func100, Tryz.ntmps100
  go_upto_region 1 with (refine wpList_store_mid rfl _ _ _ rfl b 3 mC rfl rfl (show World.there _ b 3 18 from there_bk HB.out (by rw [HS.out]; decide)) (by kernel_rfl) (by kernel_rfl) ?_)
  obtain ⟨c1, h1, s1, _, k1⟩ := bk_mid (o := 3) mC.toList HB.out HS.out (n := 18) rfl (by decide)
  have t1 : Touch (fun k => k = b) w (w.setCells b 3 mC.toList) := touch_setCells (S := fun k => k = b) b rfl _ _ (Touch.refl _ w)
  have hc : (w.setCells b 3 mC.toList).cell? ⟨c, 0, none⟩ = some (.pointer (some ⟨b, 0, none⟩)) := (t1.cell (p := ⟨c, 0, none⟩) HC.out.2 hne).trans HC.out.1
  have H1 := Lib.hid h1
  obtain ⟨w1, hw1⟩ : ∃ x, x = w.setCells b 3 mC.toList := ⟨_, rfl⟩
  rw [← hw1] at H1 hc t1
  rw [← hw1]
  clear hw1 h1
  have T1 := Lib.hid t1
  go_upto_region 2 with (refine wpList_store_mid rfl _ _ _ rfl b 21 vC rfl rfl (show World.there _ b 21 18 from there_bk H1.out (by rw [s1]; decide)) (by kernel_rfl) (by kernel_rfl) ?_)
  obtain ⟨c2, h2, s2, _, k2⟩ := bk_mid (o := 21) vC.toList H1.out s1 (n := 18) rfl (by decide)
  have t2 : Touch (fun k => k = b) w (w1.setCells b 21 vC.toList) := touch_setCells (S := fun k => k = b) b rfl _ _ T1.out
  have hc : (w1.setCells b 21 vC.toList).cell? ⟨c, 0, none⟩ = some (.pointer (some ⟨b, 0, none⟩)) := (t2.cell (p := ⟨c, 0, none⟩) HC.out.2 hne).trans HC.out.1
  have H2 := Lib.hid h2
  obtain ⟨w2, hw2⟩ : ∃ x, x = w1.setCells b 21 vC.toList := ⟨_, rfl⟩
  rw [← hw2] at H2 hc t2
  rw [← hw2]
  clear hw2 h2 T1
  have T2 := Lib.hid t2
  go_wp2_with (refine wpList_store_mid rfl _ _ _ rfl b 39 qC rfl rfl (show World.there _ b 39 22 from there_bk H2.out (by rw [s2]; decide)) (by kernel_rfl) (by kernel_rfl) ?_)
  obtain ⟨c3, h3, s3, g3, k3⟩ := bk_mid (o := 39) qC.toList H2.out s2 (n := 22) rfl (by decide)
  go_end0
  refine ⟨rfl, c3, h3, s3, fun i hi => (k3 i (Or.inl (by omega))).trans ((k2 i (Or.inl (by omega))).trans (k1 i (Or.inl (by omega)))), fun i hi => (g3 i hi).trans ?_, touch_setCells (S := fun k => k = b) b rfl _ _ T2.out⟩
  rw [show qC.toList = qpT.map (Value.int .i64) from rfl]
  have hl : i < qpT.length := hi
  unfold qpV
  simp [hl]
end Go.Proofs.YtfignfohcalcfaaGreatDoor
