/- The commands ue, se. -/
import Derived.Test.YtfignfohcalcfaaGreatDoorBitX
import Derived.Test.YtfignfohcalcfaaGreatDoorConX
import Derived.Test.YtfignfohcalcfaaGreatDoorHexC
namespace Go.Proofs.YtfignfohcalcfaaGreatDoor
open Go.RowKit
set_option linter.unusedVariables false
set_option linter.unusedSimpArgs false

theorem packS_len (b : List Bool) : (packS b).size = (b.length + 7) / 8 := by unfold packS; rw [strOfNums_size]; simp
/-- the innermost closure: its writer is the call's own -/
def CPost (w : World) (g : Nat) (r : Option (List Bool)) (e : Ending) (w' : World) : Prop := match r with
  | some b => e = .returned (.int .i64 0) ∧ ∃ v', Wr w' g g v' b ∧ Below g w w'
  | none => e = .returned (.int .i64 101) ∧ w' = w
def code0 (x : Int) : Option (List Bool) := if 0 ≤ x ∧ x ≤ 2147483646 then some (ueL x.toNat) else none
theorem code0_f (x : Int) : ueF x = match code0 x with | some b => hexF (packS b) | none => faultF 101 := by
  unfold ueF code0
  split <;> rfl
theorem code0_len (x : Int) (b : List Bool) (h : code0 x = some b) : b.length ≤ 100 := by
  unfold code0 at h
  split at h
  · injection h with h
    subst h
    rename_i hx
    
    rw [ueL_len]
    have h2 := lg_le (x.toNat + 1) 31 (by omega)
    omega
  · cases h
theorem inner0 (x : Int) (c : Nat) (ad : Addr) (g : Nat) (r : Nat) (n : Nat) (w : World) (hr : w.cell? ⟨r, 0, none⟩ = some (.slice (some ad) 1 n)) (hx : w.cell? ad = some (.int .i64 x)) (hw : Wr w g g (.slice none 0 0) []) (hg : g ≤ w.heap.size) :
    Calls Tryz.prog 52 #[.pointer (some ⟨g, 0, none⟩), .pointer (some ⟨r, 0, none⟩)] w fun e w' => CPost w g (code0 x) e w' := by
  have HP : Hid (Calls Tryz.prog 12 #[.pointer (some ⟨g, 0, none⟩), .int .i64 x] w fun e w' => CPost w g (code0 x) e w') := Lib.hid (by
    unfold code0
    split
    · rename_i h
      refine (ue_yes g g _ [] x w hw (by simp) h.1 h.2 hg).mono ?_
      rintro e w' ⟨rfl, v', h1, h2, h3⟩
      exact ⟨rfl, v', h1, h2.below (fun k hk => by rcases hk with rfl | hk; exact Nat.le_refl _; cases hk) hg⟩
    · rename_i h
      refine (ue_no g x w (by omega)).mono ?_
      rintro e w' ⟨rfl, rfl⟩
      exact ⟨rfl, rfl⟩)
  obtain ⟨P, hP⟩ : ∃ P, code0 x = P := ⟨_, rfl⟩
  rw [hP] at HP ⊢
  clear hw hP
  cases P with
  | none =>
    simp only [CPost] at HP ⊢
    go_enter Tryz.func52, Tryz.ntmps52
    go_wp2_with fail
    refine HP.out.mono ?_
    rintro e w' ⟨rfl, rfl⟩
    go_wp2_with fail
    go_ret
    exact ⟨rfl, rfl⟩
  | some b =>
    simp only [CPost] at HP ⊢
    go_enter Tryz.func52, Tryz.ntmps52
    go_wp2_with fail
    refine HP.out.mono ?_
    rintro e w' ⟨rfl, hq⟩
    go_wp2_with fail
    go_ret
    exact ⟨rfl, hq⟩
set_option maxRecDepth 100000 in
set_option maxHeartbeats 1600000 in
theorem ccode0_any (x : Int) (ad : Addr) (r : Nat) (n : Nat) (w : World) (hr : w.cell? ⟨r, 0, none⟩ = some (.slice (some ad) 1 n)) (hx : w.cell? ad = some (.int .i64 x)) (T : Tabs w) :
    Calls Tryz.prog 51 #[.func (.func 52) #[] #[.pointer (some ⟨r, 0, none⟩)]] w fun e w' => e = .returned (.string (ueF x)) ∧ Below w.heap.size w w' := by
  have hF := code0_f x
  have hlr := cell_lt hr
  have hlx := cell_lt hx
  simp at hlr
  have hl2 : ∀ b, code0 x = some b → (packS b).size ≤ 4194304 := fun b hb => by
    rw [packS_len]
    have := code0_len x b hb
    omega
  have hr1 := (World.cell?_alloc_lt w (.cells #[.slice none 0 0, .int .i64 0, .int .i64 0] 76) ⟨r, 0, none⟩ hlr).trans hr
  have hx1 := (World.cell?_alloc_lt w (.cells #[.slice none 0 0, .int .i64 0, .int .i64 0] 76) ad hlx).trans hx
  have HI := Lib.hid (inner0 x 0 ad w.heap.size r n _ hr1 hx1 (Wr.new w _) (by simp))
  have HB := Lib.hid ((Below.refl w.heap.size w).alloc (Nat.le_refl _) (.cells #[.slice none 0 0, .int .i64 0, .int .i64 0] 76))
  have HN := Lib.hid (new_any w)
  obtain ⟨w1, hw1⟩ : ∃ y, w.alloc (.cells #[.slice none 0 0, .int .i64 0, .int .i64 0] 76) = y := ⟨_, rfl⟩
  rw [hw1] at HI HB HN
  have HT := Lib.hid T
  obtain ⟨P, hP⟩ : ∃ P, code0 x = P := ⟨_, rfl⟩
  rw [hP] at HI hF hl2
  obtain ⟨F, hFF⟩ : ∃ F, ueF x = F := ⟨_, rfl⟩
  rw [hFF] at hF ⊢
  have HL := Lib.hid hl2
  clear hr hx hr1 hx1 T hP hw1 hFF hl2
  cases P with
  | none =>
    simp only at hF
    have HFF := Lib.hid hF
    clear hF
    simp only [CPost] at HI
    go_enter Tryz.func51, Tryz.ntmps51
    go_wp2_with fail
    refine HN.out.mono ?_
    rintro e w' ⟨rfl, rfl⟩
    go_wp2_with fail
    refine HI.out.mono ?_
    rintro e w' ⟨rfl, rfl⟩
    go_wp2_with fail
    refine (fault_any 101 _ (HT.out.go HB.out) (by decide) (by decide)).mono ?_
    rintro e w' ⟨rfl, hb⟩
    go_wp2_with fail
    go_ret
    exact ⟨by rw [HFF.out]; rfl, HB.out.trans (hb.mono HB.out.size)⟩
  | some b =>
    simp only at hF
    have HFF := Lib.hid hF
    have HL2 := Lib.hid (HL.out b rfl)
    clear hF HL
    simp only [CPost] at HI
    go_enter Tryz.func51, Tryz.ntmps51
    go_wp2_with fail
    refine HN.out.mono ?_
    rintro e w' ⟨rfl, rfl⟩
    go_wp2_with fail
    refine HI.out.mono ?_
    rintro e w2 ⟨rfl, v', hwr, hb⟩
    have HW := Lib.hid hwr
    have HB2 := Lib.hid (HB.out.trans hb)
    clear hwr hb
    go_wp2_with fail
    refine (wbytes_any _ _ _ _ _ HW.out).mono ?_
    rintro e w' ⟨rfl, rfl⟩
    go_wp2_with fail
    refine (chex_any _ _ HL2.out).mono ?_
    rintro e w' ⟨rfl, hb⟩
    go_wp2_with fail
    go_ret
    exact ⟨by rw [HFF.out]; rfl, HB2.out.trans (hb.mono HB2.out.size)⟩
set_option maxRecDepth 100000 in
set_option maxHeartbeats 1600000 in
theorem cue_any (x : Int) (g c : Nat) (w : World) (h0 : w.cell? ⟨g, 0, none⟩ = some (.int .i64 x)) (T : Tabs w) :
    Calls Tryz.prog 50 #[.slice (some ⟨g, 0, none⟩) 1 c] w fun e w' => e = .returned (.string (ueF x)) ∧ Below w.heap.size w w' := by
  have hg := cell_lt h0
  simp at hg
  have hb := (Below.refl w.heap.size w).alloc (Nat.le_refl _) (.cells #[.slice (some ⟨g, 0, none⟩) 1 c] 37)
  have HB := Lib.hid hb
  have hr : (w.alloc (.cells #[.slice (some ⟨g, 0, none⟩) 1 c] 37)).cell? ⟨w.heap.size, 0, none⟩ = some (.slice (some ⟨g, 0, none⟩) 1 c) := (Bk.new w 37 _).cell 0
  have HC := Lib.hid (ccode0_any x ⟨g, 0, none⟩ w.heap.size c _ hr ((World.cell?_alloc_lt w _ ⟨g, 0, none⟩ hg).trans h0) (T.go hb))
  obtain ⟨F, hF⟩ : ∃ F, ueF x = F := ⟨_, rfl⟩
  rw [hF] at HC ⊢
  clear hb hr T h0 hF
  go_enter Tryz.func50, Tryz.ntmps50
  go_wp2_with fail
  refine HC.out.mono ?_
  rintro e w' ⟨rfl, hb⟩
  go_wp2_with fail
  go_ret
  exact ⟨rfl, HB.out.trans (hb.mono HB.out.size)⟩
def code1 (x : Int) : Option (List Bool) := if -1073741823 ≤ x ∧ x ≤ 1073741823 then some (seL x) else none
theorem code1_f (x : Int) : seF x = match code1 x with | some b => hexF (packS b) | none => faultF 101 := by
  unfold seF code1
  split <;> rfl
theorem code1_len (x : Int) (b : List Bool) (h : code1 x = some b) : b.length ≤ 100 := by
  unfold code1 at h
  split at h
  · injection h with h
    subst h
    rename_i hx
    unfold seL
    rw [ueL_len]
    have h2 := lg_le (seN x + 1) 31 (by have := seN_le x hx; omega)
    omega
  · cases h
theorem inner1 (x : Int) (c : Nat) (ad : Addr) (g : Nat) (r : Nat) (n : Nat) (w : World) (hr : w.cell? ⟨r, 0, none⟩ = some (.slice (some ad) 1 n)) (hx : w.cell? ad = some (.int .i64 x)) (hw : Wr w g g (.slice none 0 0) []) (hg : g ≤ w.heap.size) :
    Calls Tryz.prog 54 #[.pointer (some ⟨g, 0, none⟩), .pointer (some ⟨r, 0, none⟩)] w fun e w' => CPost w g (code1 x) e w' := by
  have HP : Hid (Calls Tryz.prog 11 #[.pointer (some ⟨g, 0, none⟩), .int .i64 x] w fun e w' => CPost w g (code1 x) e w') := Lib.hid (by
    unfold code1
    split
    · rename_i h
      refine (se_yes g g _ [] x w hw (by simp) h.1 h.2 hg).mono ?_
      rintro e w' ⟨rfl, v', h1, h2, h3⟩
      exact ⟨rfl, v', h1, h2.below (fun k hk => by rcases hk with rfl | hk; exact Nat.le_refl _; cases hk) hg⟩
    · rename_i h
      refine (se_no g x w (by omega)).mono ?_
      rintro e w' ⟨rfl, rfl⟩
      exact ⟨rfl, rfl⟩)
  obtain ⟨P, hP⟩ : ∃ P, code1 x = P := ⟨_, rfl⟩
  rw [hP] at HP ⊢
  clear hw hP
  cases P with
  | none =>
    simp only [CPost] at HP ⊢
    go_enter Tryz.func54, Tryz.ntmps54
    go_wp2_with fail
    refine HP.out.mono ?_
    rintro e w' ⟨rfl, rfl⟩
    go_wp2_with fail
    go_ret
    exact ⟨rfl, rfl⟩
  | some b =>
    simp only [CPost] at HP ⊢
    go_enter Tryz.func54, Tryz.ntmps54
    go_wp2_with fail
    refine HP.out.mono ?_
    rintro e w' ⟨rfl, hq⟩
    go_wp2_with fail
    go_ret
    exact ⟨rfl, hq⟩
set_option maxRecDepth 100000 in
set_option maxHeartbeats 1600000 in
theorem ccode1_any (x : Int) (ad : Addr) (r : Nat) (n : Nat) (w : World) (hr : w.cell? ⟨r, 0, none⟩ = some (.slice (some ad) 1 n)) (hx : w.cell? ad = some (.int .i64 x)) (T : Tabs w) :
    Calls Tryz.prog 51 #[.func (.func 54) #[] #[.pointer (some ⟨r, 0, none⟩)]] w fun e w' => e = .returned (.string (seF x)) ∧ Below w.heap.size w w' := by
  have hF := code1_f x
  have hlr := cell_lt hr
  have hlx := cell_lt hx
  simp at hlr
  have hl2 : ∀ b, code1 x = some b → (packS b).size ≤ 4194304 := fun b hb => by
    rw [packS_len]
    have := code1_len x b hb
    omega
  have hr1 := (World.cell?_alloc_lt w (.cells #[.slice none 0 0, .int .i64 0, .int .i64 0] 76) ⟨r, 0, none⟩ hlr).trans hr
  have hx1 := (World.cell?_alloc_lt w (.cells #[.slice none 0 0, .int .i64 0, .int .i64 0] 76) ad hlx).trans hx
  have HI := Lib.hid (inner1 x 0 ad w.heap.size r n _ hr1 hx1 (Wr.new w _) (by simp))
  have HB := Lib.hid ((Below.refl w.heap.size w).alloc (Nat.le_refl _) (.cells #[.slice none 0 0, .int .i64 0, .int .i64 0] 76))
  have HN := Lib.hid (new_any w)
  obtain ⟨w1, hw1⟩ : ∃ y, w.alloc (.cells #[.slice none 0 0, .int .i64 0, .int .i64 0] 76) = y := ⟨_, rfl⟩
  rw [hw1] at HI HB HN
  have HT := Lib.hid T
  obtain ⟨P, hP⟩ : ∃ P, code1 x = P := ⟨_, rfl⟩
  rw [hP] at HI hF hl2
  obtain ⟨F, hFF⟩ : ∃ F, seF x = F := ⟨_, rfl⟩
  rw [hFF] at hF ⊢
  have HL := Lib.hid hl2
  clear hr hx hr1 hx1 T hP hw1 hFF hl2
  cases P with
  | none =>
    simp only at hF
    have HFF := Lib.hid hF
    clear hF
    simp only [CPost] at HI
    go_enter Tryz.func51, Tryz.ntmps51
    go_wp2_with fail
    refine HN.out.mono ?_
    rintro e w' ⟨rfl, rfl⟩
    go_wp2_with fail
    refine HI.out.mono ?_
    rintro e w' ⟨rfl, rfl⟩
    go_wp2_with fail
    refine (fault_any 101 _ (HT.out.go HB.out) (by decide) (by decide)).mono ?_
    rintro e w' ⟨rfl, hb⟩
    go_wp2_with fail
    go_ret
    exact ⟨by rw [HFF.out]; rfl, HB.out.trans (hb.mono HB.out.size)⟩
  | some b =>
    simp only at hF
    have HFF := Lib.hid hF
    have HL2 := Lib.hid (HL.out b rfl)
    clear hF HL
    simp only [CPost] at HI
    go_enter Tryz.func51, Tryz.ntmps51
    go_wp2_with fail
    refine HN.out.mono ?_
    rintro e w' ⟨rfl, rfl⟩
    go_wp2_with fail
    refine HI.out.mono ?_
    rintro e w2 ⟨rfl, v', hwr, hb⟩
    have HW := Lib.hid hwr
    have HB2 := Lib.hid (HB.out.trans hb)
    clear hwr hb
    go_wp2_with fail
    refine (wbytes_any _ _ _ _ _ HW.out).mono ?_
    rintro e w' ⟨rfl, rfl⟩
    go_wp2_with fail
    refine (chex_any _ _ HL2.out).mono ?_
    rintro e w' ⟨rfl, hb⟩
    go_wp2_with fail
    go_ret
    exact ⟨by rw [HFF.out]; rfl, HB2.out.trans (hb.mono HB2.out.size)⟩
set_option maxRecDepth 100000 in
set_option maxHeartbeats 1600000 in
theorem cse_any (x : Int) (g c : Nat) (w : World) (h0 : w.cell? ⟨g, 0, none⟩ = some (.int .i64 x)) (T : Tabs w) :
    Calls Tryz.prog 53 #[.slice (some ⟨g, 0, none⟩) 1 c] w fun e w' => e = .returned (.string (seF x)) ∧ Below w.heap.size w w' := by
  have hg := cell_lt h0
  simp at hg
  have hb := (Below.refl w.heap.size w).alloc (Nat.le_refl _) (.cells #[.slice (some ⟨g, 0, none⟩) 1 c] 37)
  have HB := Lib.hid hb
  have hr : (w.alloc (.cells #[.slice (some ⟨g, 0, none⟩) 1 c] 37)).cell? ⟨w.heap.size, 0, none⟩ = some (.slice (some ⟨g, 0, none⟩) 1 c) := (Bk.new w 37 _).cell 0
  have HC := Lib.hid (ccode1_any x ⟨g, 0, none⟩ w.heap.size c _ hr ((World.cell?_alloc_lt w _ ⟨g, 0, none⟩ hg).trans h0) (T.go hb))
  obtain ⟨F, hF⟩ : ∃ F, seF x = F := ⟨_, rfl⟩
  rw [hF] at HC ⊢
  clear hb hr T h0 hF
  go_enter Tryz.func53, Tryz.ntmps53
  go_wp2_with fail
  refine HC.out.mono ?_
  rintro e w' ⟨rfl, hb⟩
  go_wp2_with fail
  go_ret
  exact ⟨rfl, HB.out.trans (hb.mono HB.out.size)⟩
end Go.Proofs.YtfignfohcalcfaaGreatDoor
