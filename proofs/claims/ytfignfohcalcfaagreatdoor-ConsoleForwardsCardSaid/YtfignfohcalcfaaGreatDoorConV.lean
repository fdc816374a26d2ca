/- bins.Bits. Printed by gen-conv.py. -/
import Derived.Test.YtfignfohcalcfaaGreatDoorConU
namespace Go.Proofs.YtfignfohcalcfaaGreatDoor
open Go.RowKit
set_option linter.unusedVariables false
set_option linter.unusedSimpArgs false
attribute [local go_sem] ite_max ite_min

def binV (k v m : Int) : Value := if mayB k v m = true then .tuple #[.string (tx (binL k v m)), .int .i64 0] else .tuple #[.string ⟨#[]⟩, .int .i64 600]
theorem MB.conv {w : World} {base g : Nat} {L : List UInt8} (H : MB w base g L) : ∃ A n c, w.cell? ⟨g, 0, none⟩ = some (.slice A n c) ∧ (convert 61 9 (.slice A n c)).run Tryz.prog w = .ok (.string (tx L)) w := by
  obtain ⟨v, h1, h2, h3⟩ := H.box
  have h4 := run_txt h2
  rw [txt_nL] at h4
  obtain ⟨A, c, hv, _⟩ := own_slice h2
  subst hv
  exact ⟨A, _, c, h1.cell 0, h4⟩
theorem MB.new {w : World} {base : Nat} (hb : base ≤ w.heap.size) : MB (w.alloc (.cells #[.slice none 0 0] 144)) base w.heap.size [] := ⟨hb, _, Bk.new _ _ _, World.ownsRow_nil _ _ _ _, by simp [Value.ownBlock]⟩
theorem tailU_len : ∀ (f x k : Nat), (tailU f x k).1.length ≤ f ∧ (tailU f x k).2.2 ≤ k + f
  | 0, x, k => ⟨Nat.le_refl _, Nat.le_refl _⟩
  | f + 1, x, k => by
    by_cases h : 2 ^ k ≤ x
    · rw [tailU_more h]
      have := tailU_len f (x - 2 ^ k) (k + 1)
      simp only [List.length_cons]
      omega
    · rw [tailU_end h]
      exact ⟨Nat.zero_le _, Nat.le_add_right _ _⟩
theorem tailD_len (x : Nat) : ∀ k, (tailD x k).length = k
  | 0 => rfl
  | k + 1 => by show (_ :: tailD x k).length = _; rw [List.length_cons, tailD_len x k]
theorem tailL_len (x k : Nat) : (tailL x k).length ≤ k + 41 := by
  unfold tailL
  have h1 := tailU_len 20 x k
  rw [List.length_append, List.length_cons, tailD_len]
  omega
theorem great_len (v own k : Nat) (hv : v ≤ 65535) (ho : own ≤ 20) (hk : k ≤ 3) : (([] : List UInt8) ++ greatL (v : Int) own k).length ≤ 100000 := by
  rw [List.nil_append]
  unfold greatL onesL
  have h1 : (min (v : Int) own).toNat ≤ 20 := by omega
  have h2 := tailL_len ((v : Int) - own).toNat k
  have h3 := tailL_len (v - own) k
  split <;> split <;> simp <;> omega
set_option maxRecDepth 100000 in
set_option maxHeartbeats 3200000 in
theorem bits_0 (el v m : Int) (w : World) (hK : kindF el = 0) :
    Calls Tryz.prog 74 #[.int .i64 el, .int .i64 (v), .int .i64 m] w fun e w' => e = .returned (binV 0 v m) ∧ Below w.heap.size w w' := by
  have k0 := Bk.new w 140 kn0
  have HG := Lib.hid (hK ▸ kget_any w.heap.size el _ k0)
  have hb0 : Below w.heap.size w (w.alloc (.cells kn0 140)) := (Below.refl _ _).alloc (Nat.le_refl _) _
  have HB := Lib.hid hb0
  obtain ⟨w1, hw1⟩ : ∃ x, x = w.alloc (.cells kn0 140) := ⟨_, rfl⟩
  rw [← hw1] at HG HB
  clear k0 hb0 hK
  obtain ⟨r, hr⟩ : ∃ r, w.heap.size = r := ⟨_, rfl⟩
  rw [hr] at HG
  have HR := Lib.hid hr
  rw [show binV 0 v m = .tuple #[.string ⟨#[]⟩, .int .i64 600] from rfl]
  go_enter Tryz.func74, Tryz.ntmps74
  go_upto_region 1 with fail
  refine wp_region_lit ?_
  refine wpList_buildTo rfl _ _ rfl _ rfl kn0 (by kernel_rfl) ?_
  simp only [Act.put, List.setIfInBounds_toArray, List.set_cons_zero, List.set_cons_succ]
  refine Go.Great.wpList_boxTo rfl _ _ rfl _ rfl r hr kn0 rfl ?_
  simp only [Act.put, List.setIfInBounds_toArray, List.set_cons_zero, List.set_cons_succ]
  rw [← hw1]
  clear hw1 hr
  go_wp2_with fail
  refine HG.out.mono ?_
  rintro e w2 ⟨rfl, ht⟩
  have HB2 : Hid (Below w.heap.size w w2) := Lib.hid (Below.touch HB.out ht (fun i hi e => by have := HR.out; omega) (Nat.le_refl _))
  clear ht HB HG
  go_wp2_with fail
  refine (may_0 _ _ w2).mono ?_
  rintro e w' ⟨rfl, rfl⟩
  rw [show mayB 0 v m = false from rfl]
  go_wp2_with fail
  go_ret2
  exact ⟨rfl, HB2.out⟩
set_option maxRecDepth 100000 in
set_option maxHeartbeats 3200000 in
theorem bits_n1 (el v m : Int) (w : World) (hK : kindF el = 1) (hm : mayB 1 v m = false) :
    Calls Tryz.prog 74 #[.int .i64 el, .int .i64 (v), .int .i64 m] w fun e w' => e = .returned (binV 1 v m) ∧ Below w.heap.size w w' := by
  have k0 := Bk.new w 140 kn0
  have HG := Lib.hid (hK ▸ kget_any w.heap.size el _ k0)
  have hb0 : Below w.heap.size w (w.alloc (.cells kn0 140)) := (Below.refl _ _).alloc (Nat.le_refl _) _
  have HB := Lib.hid hb0
  obtain ⟨w1, hw1⟩ : ∃ x, x = w.alloc (.cells kn0 140) := ⟨_, rfl⟩
  rw [← hw1] at HG HB
  clear k0 hb0 hK
  obtain ⟨r, hr⟩ : ∃ r, w.heap.size = r := ⟨_, rfl⟩
  rw [hr] at HG
  have HR := Lib.hid hr
  have e : binV 1 v m = .tuple #[.string ⟨#[]⟩, .int .i64 600] := by unfold binV; rw [hm]; rfl
  rw [e]
  clear e
  have HMM := Lib.hid hm
  clear hm
  go_enter Tryz.func74, Tryz.ntmps74
  go_upto_region 1 with fail
  refine wp_region_lit ?_
  refine wpList_buildTo rfl _ _ rfl _ rfl kn0 (by kernel_rfl) ?_
  simp only [Act.put, List.setIfInBounds_toArray, List.set_cons_zero, List.set_cons_succ]
  refine Go.Great.wpList_boxTo rfl _ _ rfl _ rfl r hr kn0 rfl ?_
  simp only [Act.put, List.setIfInBounds_toArray, List.set_cons_zero, List.set_cons_succ]
  rw [← hw1]
  clear hw1 hr
  go_wp2_with fail
  refine HG.out.mono ?_
  rintro e w2 ⟨rfl, ht⟩
  have HB2 : Hid (Below w.heap.size w w2) := Lib.hid (Below.touch HB.out ht (fun i hi e => by have := HR.out; omega) (Nat.le_refl _))
  clear ht HB HG
  go_wp2_with fail
  refine (may_1 _ _ w2).mono ?_
  rintro e w' ⟨rfl, rfl⟩
  rw [HMM.out]
  go_wp2_with fail
  go_ret2
  exact ⟨rfl, HB2.out⟩
set_option maxRecDepth 100000 in
set_option maxHeartbeats 3200000 in
theorem bits_n2 (el v m : Int) (w : World) (hK : kindF el = 2) (hm : mayB 2 v m = false) :
    Calls Tryz.prog 74 #[.int .i64 el, .int .i64 (v), .int .i64 m] w fun e w' => e = .returned (binV 2 v m) ∧ Below w.heap.size w w' := by
  have k0 := Bk.new w 140 kn0
  have HG := Lib.hid (hK ▸ kget_any w.heap.size el _ k0)
  have hb0 : Below w.heap.size w (w.alloc (.cells kn0 140)) := (Below.refl _ _).alloc (Nat.le_refl _) _
  have HB := Lib.hid hb0
  obtain ⟨w1, hw1⟩ : ∃ x, x = w.alloc (.cells kn0 140) := ⟨_, rfl⟩
  rw [← hw1] at HG HB
  clear k0 hb0 hK
  obtain ⟨r, hr⟩ : ∃ r, w.heap.size = r := ⟨_, rfl⟩
  rw [hr] at HG
  have HR := Lib.hid hr
  have e : binV 2 v m = .tuple #[.string ⟨#[]⟩, .int .i64 600] := by unfold binV; rw [hm]; rfl
  rw [e]
  clear e
  have HMM := Lib.hid hm
  clear hm
  go_enter Tryz.func74, Tryz.ntmps74
  go_upto_region 1 with fail
  refine wp_region_lit ?_
  refine wpList_buildTo rfl _ _ rfl _ rfl kn0 (by kernel_rfl) ?_
  simp only [Act.put, List.setIfInBounds_toArray, List.set_cons_zero, List.set_cons_succ]
  refine Go.Great.wpList_boxTo rfl _ _ rfl _ rfl r hr kn0 rfl ?_
  simp only [Act.put, List.setIfInBounds_toArray, List.set_cons_zero, List.set_cons_succ]
  rw [← hw1]
  clear hw1 hr
  go_wp2_with fail
  refine HG.out.mono ?_
  rintro e w2 ⟨rfl, ht⟩
  have HB2 : Hid (Below w.heap.size w w2) := Lib.hid (Below.touch HB.out ht (fun i hi e => by have := HR.out; omega) (Nat.le_refl _))
  clear ht HB HG
  go_wp2_with fail
  refine (may_2 _ _ w2).mono ?_
  rintro e w' ⟨rfl, rfl⟩
  rw [HMM.out]
  go_wp2_with fail
  go_ret2
  exact ⟨rfl, HB2.out⟩
set_option maxRecDepth 100000 in
set_option maxHeartbeats 3200000 in
theorem bits_n3 (el v m : Int) (w : World) (hK : kindF el = 3) (hm : mayB 3 v m = false) :
    Calls Tryz.prog 74 #[.int .i64 el, .int .i64 (v), .int .i64 m] w fun e w' => e = .returned (binV 3 v m) ∧ Below w.heap.size w w' := by
  have k0 := Bk.new w 140 kn0
  have HG := Lib.hid (hK ▸ kget_any w.heap.size el _ k0)
  have hb0 : Below w.heap.size w (w.alloc (.cells kn0 140)) := (Below.refl _ _).alloc (Nat.le_refl _) _
  have HB := Lib.hid hb0
  obtain ⟨w1, hw1⟩ : ∃ x, x = w.alloc (.cells kn0 140) := ⟨_, rfl⟩
  rw [← hw1] at HG HB
  clear k0 hb0 hK
  obtain ⟨r, hr⟩ : ∃ r, w.heap.size = r := ⟨_, rfl⟩
  rw [hr] at HG
  have HR := Lib.hid hr
  have e : binV 3 v m = .tuple #[.string ⟨#[]⟩, .int .i64 600] := by unfold binV; rw [hm]; rfl
  rw [e]
  clear e
  have HMM := Lib.hid hm
  clear hm
  go_enter Tryz.func74, Tryz.ntmps74
  go_upto_region 1 with fail
  refine wp_region_lit ?_
  refine wpList_buildTo rfl _ _ rfl _ rfl kn0 (by kernel_rfl) ?_
  simp only [Act.put, List.setIfInBounds_toArray, List.set_cons_zero, List.set_cons_succ]
  refine Go.Great.wpList_boxTo rfl _ _ rfl _ rfl r hr kn0 rfl ?_
  simp only [Act.put, List.setIfInBounds_toArray, List.set_cons_zero, List.set_cons_succ]
  rw [← hw1]
  clear hw1 hr
  go_wp2_with fail
  refine HG.out.mono ?_
  rintro e w2 ⟨rfl, ht⟩
  have HB2 : Hid (Below w.heap.size w w2) := Lib.hid (Below.touch HB.out ht (fun i hi e => by have := HR.out; omega) (Nat.le_refl _))
  clear ht HB HG
  go_wp2_with fail
  refine (may_3 _ _ w2).mono ?_
  rintro e w' ⟨rfl, rfl⟩
  rw [HMM.out]
  go_wp2_with fail
  go_ret2
  exact ⟨rfl, HB2.out⟩
set_option maxRecDepth 100000 in
set_option maxHeartbeats 3200000 in
theorem bits_n4 (el v m : Int) (w : World) (hK : kindF el = 4) (hm : mayB 4 v m = false) :
    Calls Tryz.prog 74 #[.int .i64 el, .int .i64 (v), .int .i64 m] w fun e w' => e = .returned (binV 4 v m) ∧ Below w.heap.size w w' := by
  have k0 := Bk.new w 140 kn0
  have HG := Lib.hid (hK ▸ kget_any w.heap.size el _ k0)
  have hb0 : Below w.heap.size w (w.alloc (.cells kn0 140)) := (Below.refl _ _).alloc (Nat.le_refl _) _
  have HB := Lib.hid hb0
  obtain ⟨w1, hw1⟩ : ∃ x, x = w.alloc (.cells kn0 140) := ⟨_, rfl⟩
  rw [← hw1] at HG HB
  clear k0 hb0 hK
  obtain ⟨r, hr⟩ : ∃ r, w.heap.size = r := ⟨_, rfl⟩
  rw [hr] at HG
  have HR := Lib.hid hr
  have e : binV 4 v m = .tuple #[.string ⟨#[]⟩, .int .i64 600] := by unfold binV; rw [hm]; rfl
  rw [e]
  clear e
  have HMM := Lib.hid hm
  clear hm
  go_enter Tryz.func74, Tryz.ntmps74
  go_upto_region 1 with fail
  refine wp_region_lit ?_
  refine wpList_buildTo rfl _ _ rfl _ rfl kn0 (by kernel_rfl) ?_
  simp only [Act.put, List.setIfInBounds_toArray, List.set_cons_zero, List.set_cons_succ]
  refine Go.Great.wpList_boxTo rfl _ _ rfl _ rfl r hr kn0 rfl ?_
  simp only [Act.put, List.setIfInBounds_toArray, List.set_cons_zero, List.set_cons_succ]
  rw [← hw1]
  clear hw1 hr
  go_wp2_with fail
  refine HG.out.mono ?_
  rintro e w2 ⟨rfl, ht⟩
  have HB2 : Hid (Below w.heap.size w w2) := Lib.hid (Below.touch HB.out ht (fun i hi e => by have := HR.out; omega) (Nat.le_refl _))
  clear ht HB HG
  go_wp2_with fail
  refine (may_4 _ _ w2).mono ?_
  rintro e w' ⟨rfl, rfl⟩
  rw [HMM.out]
  go_wp2_with fail
  go_ret2
  exact ⟨rfl, HB2.out⟩
set_option maxRecDepth 100000 in
set_option maxHeartbeats 3200000 in
theorem bits_y2 (el v m : Int) (w : World) (hK : kindF el = 2) (hm : mayB 2 v m = true) :
    Calls Tryz.prog 74 #[.int .i64 el, .int .i64 (v), .int .i64 m] w fun e w' => e = .returned (binV 2 v m) ∧ Below w.heap.size w w' := by
  have k0 := Bk.new w 140 kn0
  have HG := Lib.hid (hK ▸ kget_any w.heap.size el _ k0)
  have hb0 : Below w.heap.size w (w.alloc (.cells kn0 140)) := (Below.refl _ _).alloc (Nat.le_refl _) _
  have HB := Lib.hid hb0
  obtain ⟨w1, hw1⟩ : ∃ x, x = w.alloc (.cells kn0 140) := ⟨_, rfl⟩
  rw [← hw1] at HG HB
  clear k0 hb0 hK
  obtain ⟨r, hr⟩ : ∃ r, w.heap.size = r := ⟨_, rfl⟩
  rw [hr] at HG
  have HR := Lib.hid hr
  have e : binV 2 v m = .tuple #[.string (tx (binL 2 v m)), .int .i64 0] := by unfold binV; rw [hm]; rfl
  rw [e]
  clear e
  have HMM := Lib.hid hm
  obtain ⟨T, hT⟩ : ∃ T, binL 2 v m = T := ⟨_, rfl⟩
  rw [hT]
  have HT := Lib.hid hT
  clear hm hT
  have hv : 1 ≤ m ∧ m ≤ 63 ∧ 0 ≤ v ∧ v ≤ m := of_decide_eq_true ((show mayB 2 v m = decide (1 ≤ m ∧ m ≤ 63 ∧ 0 ≤ v ∧ v ≤ m) from rfl).symm.trans HMM.out)
  obtain ⟨a, rfl⟩ : ∃ a : Nat, (a : Int) = v := ⟨v.toNat, by omega⟩
  obtain ⟨b, rfl⟩ : ∃ b : Nat, (b : Int) = m := ⟨m.toNat, by omega⟩
  have HV := Lib.hid hv
  clear hv
  go_enter Tryz.func74, Tryz.ntmps74
  go_upto_region 1 with fail
  refine wp_region_lit ?_
  refine wpList_buildTo rfl _ _ rfl _ rfl kn0 (by kernel_rfl) ?_
  simp only [Act.put, List.setIfInBounds_toArray, List.set_cons_zero, List.set_cons_succ]
  refine Go.Great.wpList_boxTo rfl _ _ rfl _ rfl r hr kn0 rfl ?_
  simp only [Act.put, List.setIfInBounds_toArray, List.set_cons_zero, List.set_cons_succ]
  rw [← hw1]
  clear hw1 hr
  go_wp2_with fail
  refine HG.out.mono ?_
  rintro e w2 ⟨rfl, ht⟩
  have HB2 : Hid (Below w.heap.size w w2) := Lib.hid (Below.touch HB.out ht (fun i hi e => by have := HR.out; omega) (Nat.le_refl _))
  clear ht HB HG
  go_wp2_with fail
  refine (may_2 _ _ w2).mono ?_
  rintro e w' ⟨rfl, rfl⟩
  rw [HMM.out]
  have HM := Lib.hid (MB.new (w := w2) HB2.out.size)
  have HB3 := Lib.hid (HB2.out.alloc HB2.out.size (.cells #[.slice none 0 0] 144))
  obtain ⟨w3, hw3⟩ : ∃ x, x = w2.alloc (.cells #[.slice none 0 0] 144) := ⟨_, rfl⟩
  obtain ⟨g, hg⟩ : ∃ g, w2.heap.size = g := ⟨_, rfl⟩
  rw [← hw3, hg] at HM
  rw [← hw3] at HB3
  go_upto_region 5 with fail
  rw [← hw3]
  clear hw3 hg HB2
  go_wp2_with fail
  refine (ones_any a b w3 HM.out HB3.out.size (by simp) (by have := HV.out; omega) (by have := HV.out; omega)).mono ?_
  rintro e w4 ⟨rfl, hm, hb⟩
  replace HM := Lib.hid hm
  replace HB3 := Lib.hid (HB3.out.trans hb)
  clear hm hb
  obtain ⟨A, n, c, hc, hcv⟩ := HM.out.conv
  go_wp2_with fail
  go_ret2
  exact ⟨by rw [← HT.out]; rfl, HB3.out⟩
set_option maxRecDepth 100000 in
set_option maxHeartbeats 3200000 in
theorem bits_y4 (el v m : Int) (w : World) (hK : kindF el = 4) (hm : mayB 4 v m = true) :
    Calls Tryz.prog 74 #[.int .i64 el, .int .i64 (v), .int .i64 m] w fun e w' => e = .returned (binV 4 v m) ∧ Below w.heap.size w w' := by
  have k0 := Bk.new w 140 kn0
  have HG := Lib.hid (hK ▸ kget_any w.heap.size el _ k0)
  have hb0 : Below w.heap.size w (w.alloc (.cells kn0 140)) := (Below.refl _ _).alloc (Nat.le_refl _) _
  have HB := Lib.hid hb0
  obtain ⟨w1, hw1⟩ : ∃ x, x = w.alloc (.cells kn0 140) := ⟨_, rfl⟩
  rw [← hw1] at HG HB
  clear k0 hb0 hK
  obtain ⟨r, hr⟩ : ∃ r, w.heap.size = r := ⟨_, rfl⟩
  rw [hr] at HG
  have HR := Lib.hid hr
  have e : binV 4 v m = .tuple #[.string (tx (binL 4 v m)), .int .i64 0] := by unfold binV; rw [hm]; rfl
  rw [e]
  clear e
  have HMM := Lib.hid hm
  obtain ⟨T, hT⟩ : ∃ T, binL 4 v m = T := ⟨_, rfl⟩
  rw [hT]
  have HT := Lib.hid hT
  clear hm hT
  have hv : 0 ≤ v ∧ v ≤ 65535 := of_decide_eq_true ((show mayB 4 v m = decide (0 ≤ v ∧ v ≤ 65535) from rfl).symm.trans HMM.out)
  obtain ⟨a, rfl⟩ : ∃ a : Nat, (a : Int) = v := ⟨v.toNat, by omega⟩
  go_enter Tryz.func74, Tryz.ntmps74
  go_upto_region 1 with fail
  refine wp_region_lit ?_
  refine wpList_buildTo rfl _ _ rfl _ rfl kn0 (by kernel_rfl) ?_
  simp only [Act.put, List.setIfInBounds_toArray, List.set_cons_zero, List.set_cons_succ]
  refine Go.Great.wpList_boxTo rfl _ _ rfl _ rfl r hr kn0 rfl ?_
  simp only [Act.put, List.setIfInBounds_toArray, List.set_cons_zero, List.set_cons_succ]
  rw [← hw1]
  clear hw1 hr
  go_wp2_with fail
  refine HG.out.mono ?_
  rintro e w2 ⟨rfl, ht⟩
  have HB2 : Hid (Below w.heap.size w w2) := Lib.hid (Below.touch HB.out ht (fun i hi e => by have := HR.out; omega) (Nat.le_refl _))
  clear ht HB HG
  go_wp2_with fail
  refine (may_4 _ _ w2).mono ?_
  rintro e w' ⟨rfl, rfl⟩
  rw [HMM.out]
  have HM := Lib.hid (MB.new (w := w2) HB2.out.size)
  have HB3 := Lib.hid (HB2.out.alloc HB2.out.size (.cells #[.slice none 0 0] 144))
  obtain ⟨w3, hw3⟩ : ∃ x, x = w2.alloc (.cells #[.slice none 0 0] 144) := ⟨_, rfl⟩
  obtain ⟨g, hg⟩ : ∃ g, w2.heap.size = g := ⟨_, rfl⟩
  rw [← hw3, hg] at HM
  rw [← hw3] at HB3
  go_upto_region 5 with fail
  rw [← hw3]
  clear hw3 hg HB2
  go_wp2_with fail
  refine (great_any a 14 0 w3 HM.out HB3.out.size (by simp) (by omega) (by omega) (by omega)).mono ?_
  rintro e w4 ⟨rfl, hm, hb⟩
  replace HM := Lib.hid hm
  replace HB3 := Lib.hid (HB3.out.trans hb)
  clear hm hb
  obtain ⟨A, n, c, hc, hcv⟩ := HM.out.conv
  go_wp2_with fail
  go_ret2
  exact ⟨by rw [← HT.out]; rfl, HB3.out⟩
set_option maxRecDepth 100000 in
set_option maxHeartbeats 3200000 in
theorem bits_y10 (el  m : Int) (w : World) (hK : kindF el = 1) (hm : mayB 1 (0 : Int) m = true) :
    Calls Tryz.prog 74 #[.int .i64 el, .int .i64 ((0 : Int)), .int .i64 m] w fun e w' => e = .returned (binV 1 (0 : Int) m) ∧ Below w.heap.size w w' := by
  have k0 := Bk.new w 140 kn0
  have HG := Lib.hid (hK ▸ kget_any w.heap.size el _ k0)
  have hb0 : Below w.heap.size w (w.alloc (.cells kn0 140)) := (Below.refl _ _).alloc (Nat.le_refl _) _
  have HB := Lib.hid hb0
  obtain ⟨w1, hw1⟩ : ∃ x, x = w.alloc (.cells kn0 140) := ⟨_, rfl⟩
  rw [← hw1] at HG HB
  clear k0 hb0 hK
  obtain ⟨r, hr⟩ : ∃ r, w.heap.size = r := ⟨_, rfl⟩
  rw [hr] at HG
  have HR := Lib.hid hr
  have e : binV 1 (0 : Int) m = .tuple #[.string (tx (binL 1 (0 : Int) m)), .int .i64 0] := by unfold binV; rw [hm]; rfl
  rw [e]
  clear e
  have HMM := Lib.hid hm
  obtain ⟨T, hT⟩ : ∃ T, binL 1 (0 : Int) m = T := ⟨_, rfl⟩
  rw [hT]
  have HT := Lib.hid hT
  clear hm hT
  have hv : True := trivial
  go_enter Tryz.func74, Tryz.ntmps74
  go_upto_region 1 with fail
  refine wp_region_lit ?_
  refine wpList_buildTo rfl _ _ rfl _ rfl kn0 (by kernel_rfl) ?_
  simp only [Act.put, List.setIfInBounds_toArray, List.set_cons_zero, List.set_cons_succ]
  refine Go.Great.wpList_boxTo rfl _ _ rfl _ rfl r hr kn0 rfl ?_
  simp only [Act.put, List.setIfInBounds_toArray, List.set_cons_zero, List.set_cons_succ]
  rw [← hw1]
  clear hw1 hr
  go_wp2_with fail
  refine HG.out.mono ?_
  rintro e w2 ⟨rfl, ht⟩
  have HB2 : Hid (Below w.heap.size w w2) := Lib.hid (Below.touch HB.out ht (fun i hi e => by have := HR.out; omega) (Nat.le_refl _))
  clear ht HB HG
  go_wp2_with fail
  refine (may_1 _ _ w2).mono ?_
  rintro e w' ⟨rfl, rfl⟩
  rw [HMM.out]
  have HM := Lib.hid (MB.new (w := w2) HB2.out.size)
  have HB3 := Lib.hid (HB2.out.alloc HB2.out.size (.cells #[.slice none 0 0] 144))
  obtain ⟨w3, hw3⟩ : ∃ x, x = w2.alloc (.cells #[.slice none 0 0] 144) := ⟨_, rfl⟩
  obtain ⟨g, hg⟩ : ∃ g, w2.heap.size = g := ⟨_, rfl⟩
  rw [← hw3, hg] at HM
  rw [← hw3] at HB3
  go_upto_region 5 with fail
  rw [← hw3]
  clear hw3 hg HB2
  obtain ⟨i0, hi, hz0, hz1, hz2⟩ := info_parts u8_info
  obtain ⟨hge, v, h1, h2, h3⟩ := HM.out
  have HO := Lib.hid h2
  have HK := Lib.hid h1
  have H3 := Lib.hid h3
  have HG := Lib.hid hge
  have HBS := Lib.hid HB3.out.size
  have c0 : w3.cell? ⟨g, 0, none⟩ = some v := h1.cell 0
  have hlt := h1.lt
  clear h1 h2 h3 hge HM
  go_wp2_with (at_builtin; refine wpList_append_own_at (P := Tryz.prog) _ rfl (.tmp 28) (.tmp 32) 61 rfl w.heap.size 5 i0 (.int .u8 0) 1 1 Tryz.underlying61 hi hz0 hz1 hz2 rfl (by decide) v 0 (bV (nL [])) rfl (HO.out.alloc _) ⟨w3.heap.size, 0, none⟩ 1 1 [.int .u8 48] rfl rfl (cells_new _ _ _) (one_cell _) (by unfold maxLen; omega) (by omega) (by have := HO.out; have := HBS.out; simp; omega) ?_)
  intro v3 w5 hown3 hg3 _ hat
  have hat2 : v3.ownBlock ≠ some g := by
    rcases hat with e | e
    · rw [e]; exact H3.out
    · rw [e]; simp; omega
  have k5 : Bk w5 g 144 #[v] := (HK.out.alloc _).grown hg3 (fun e => H3.out e.symm)
  have HP := Lib.hid (MB.put (c := 48) HG.out HK.out HO.out H3.out rfl rfl hown3 hg3 hat2)
  obtain ⟨A3, c3, hv3, _, _, _⟩ := own_slice hown3
  subst hv3
  have c5 : w5.cell? ⟨g, 0, none⟩ = some v := k5.cell 0
  have f5 := k5.frozen 0
  clear hown3 hg3 hat k5 c0 hlt HO HK H3
  go_upto_region 18 with fail
  clear c5 f5
  have HM := Lib.hid HP.out.1
  replace HB3 := Lib.hid (HB3.out.trans HP.out.2)
  obtain ⟨A, n, c, hc, hcv⟩ := HM.out.conv
  go_wp2_with fail
  go_ret2
  exact ⟨by rw [← HT.out]; rfl, HB3.out⟩
set_option maxRecDepth 100000 in
set_option maxHeartbeats 3200000 in
theorem bits_y11 (el  m : Int) (w : World) (hK : kindF el = 1) (hm : mayB 1 (1 : Int) m = true) :
    Calls Tryz.prog 74 #[.int .i64 el, .int .i64 ((1 : Int)), .int .i64 m] w fun e w' => e = .returned (binV 1 (1 : Int) m) ∧ Below w.heap.size w w' := by
  have k0 := Bk.new w 140 kn0
  have HG := Lib.hid (hK ▸ kget_any w.heap.size el _ k0)
  have hb0 : Below w.heap.size w (w.alloc (.cells kn0 140)) := (Below.refl _ _).alloc (Nat.le_refl _) _
  have HB := Lib.hid hb0
  obtain ⟨w1, hw1⟩ : ∃ x, x = w.alloc (.cells kn0 140) := ⟨_, rfl⟩
  rw [← hw1] at HG HB
  clear k0 hb0 hK
  obtain ⟨r, hr⟩ : ∃ r, w.heap.size = r := ⟨_, rfl⟩
  rw [hr] at HG
  have HR := Lib.hid hr
  have e : binV 1 (1 : Int) m = .tuple #[.string (tx (binL 1 (1 : Int) m)), .int .i64 0] := by unfold binV; rw [hm]; rfl
  rw [e]
  clear e
  have HMM := Lib.hid hm
  obtain ⟨T, hT⟩ : ∃ T, binL 1 (1 : Int) m = T := ⟨_, rfl⟩
  rw [hT]
  have HT := Lib.hid hT
  clear hm hT
  have hv : True := trivial
  go_enter Tryz.func74, Tryz.ntmps74
  go_upto_region 1 with fail
  refine wp_region_lit ?_
  refine wpList_buildTo rfl _ _ rfl _ rfl kn0 (by kernel_rfl) ?_
  simp only [Act.put, List.setIfInBounds_toArray, List.set_cons_zero, List.set_cons_succ]
  refine Go.Great.wpList_boxTo rfl _ _ rfl _ rfl r hr kn0 rfl ?_
  simp only [Act.put, List.setIfInBounds_toArray, List.set_cons_zero, List.set_cons_succ]
  rw [← hw1]
  clear hw1 hr
  go_wp2_with fail
  refine HG.out.mono ?_
  rintro e w2 ⟨rfl, ht⟩
  have HB2 : Hid (Below w.heap.size w w2) := Lib.hid (Below.touch HB.out ht (fun i hi e => by have := HR.out; omega) (Nat.le_refl _))
  clear ht HB HG
  go_wp2_with fail
  refine (may_1 _ _ w2).mono ?_
  rintro e w' ⟨rfl, rfl⟩
  rw [HMM.out]
  have HM := Lib.hid (MB.new (w := w2) HB2.out.size)
  have HB3 := Lib.hid (HB2.out.alloc HB2.out.size (.cells #[.slice none 0 0] 144))
  obtain ⟨w3, hw3⟩ : ∃ x, x = w2.alloc (.cells #[.slice none 0 0] 144) := ⟨_, rfl⟩
  obtain ⟨g, hg⟩ : ∃ g, w2.heap.size = g := ⟨_, rfl⟩
  rw [← hw3, hg] at HM
  rw [← hw3] at HB3
  go_upto_region 5 with fail
  rw [← hw3]
  clear hw3 hg HB2
  obtain ⟨i0, hi, hz0, hz1, hz2⟩ := info_parts u8_info
  obtain ⟨hge, v, h1, h2, h3⟩ := HM.out
  have HO := Lib.hid h2
  have HK := Lib.hid h1
  have H3 := Lib.hid h3
  have HG := Lib.hid hge
  have HBS := Lib.hid HB3.out.size
  have c0 : w3.cell? ⟨g, 0, none⟩ = some v := h1.cell 0
  have hlt := h1.lt
  clear h1 h2 h3 hge HM
  go_wp2_with (at_builtin; refine wpList_append_own_at (P := Tryz.prog) _ rfl (.tmp 28) (.tmp 32) 61 rfl w.heap.size 5 i0 (.int .u8 0) 1 1 Tryz.underlying61 hi hz0 hz1 hz2 rfl (by decide) v 0 (bV (nL [])) rfl (HO.out.alloc _) ⟨w3.heap.size, 0, none⟩ 1 1 [.int .u8 49] rfl rfl (cells_new _ _ _) (one_cell _) (by unfold maxLen; omega) (by omega) (by have := HO.out; have := HBS.out; simp; omega) ?_)
  intro v3 w5 hown3 hg3 _ hat
  have hat2 : v3.ownBlock ≠ some g := by
    rcases hat with e | e
    · rw [e]; exact H3.out
    · rw [e]; simp; omega
  have k5 : Bk w5 g 144 #[v] := (HK.out.alloc _).grown hg3 (fun e => H3.out e.symm)
  have HP := Lib.hid (MB.put (c := 49) HG.out HK.out HO.out H3.out rfl rfl hown3 hg3 hat2)
  obtain ⟨A3, c3, hv3, _, _, _⟩ := own_slice hown3
  subst hv3
  have c5 : w5.cell? ⟨g, 0, none⟩ = some v := k5.cell 0
  have f5 := k5.frozen 0
  clear hown3 hg3 hat k5 c0 hlt HO HK H3
  go_upto_region 18 with fail
  clear c5 f5
  have HM := Lib.hid HP.out.1
  replace HB3 := Lib.hid (HB3.out.trans HP.out.2)
  obtain ⟨A, n, c, hc, hcv⟩ := HM.out.conv
  go_wp2_with fail
  go_ret2
  exact ⟨by rw [← HT.out]; rfl, HB3.out⟩
set_option maxRecDepth 100000 in
set_option maxHeartbeats 3200000 in
theorem bits_y3p (el v m : Int) (w : World) (hK : kindF el = 3) (hp : 0 < v) (hm : mayB 3 v m = true) :
    Calls Tryz.prog 74 #[.int .i64 el, .int .i64 (v), .int .i64 m] w fun e w' => e = .returned (binV 3 v m) ∧ Below w.heap.size w w' := by
  have k0 := Bk.new w 140 kn0
  have HG := Lib.hid (hK ▸ kget_any w.heap.size el _ k0)
  have hb0 : Below w.heap.size w (w.alloc (.cells kn0 140)) := (Below.refl _ _).alloc (Nat.le_refl _) _
  have HB := Lib.hid hb0
  obtain ⟨w1, hw1⟩ : ∃ x, x = w.alloc (.cells kn0 140) := ⟨_, rfl⟩
  rw [← hw1] at HG HB
  clear k0 hb0 hK
  obtain ⟨r, hr⟩ : ∃ r, w.heap.size = r := ⟨_, rfl⟩
  rw [hr] at HG
  have HR := Lib.hid hr
  have e : binV 3 v m = .tuple #[.string (tx (binL 3 v m)), .int .i64 0] := by unfold binV; rw [hm]; rfl
  rw [e]
  clear e
  have HMM := Lib.hid hm
  obtain ⟨T, hT⟩ : ∃ T, binL 3 v m = T := ⟨_, rfl⟩
  rw [hT]
  have HT := Lib.hid hT
  clear hm hT
  have hv : -32767 ≤ v ∧ v ≤ 32767 := of_decide_eq_true ((show mayB 3 v m = decide (-32767 ≤ v ∧ v ≤ 32767) from rfl).symm.trans HMM.out)
  obtain ⟨a, ha⟩ : ∃ a : Nat, (a : Int) = max v (-v) := ⟨(max v (-v)).toNat, by omega⟩
  have HA := Lib.hid ha
  have HV := Lib.hid hv
  have HT2 : Hid (greatL (a : Int) 9 3 ++ (if 0 < v then [97] else if v < 0 then [98] else []) = T) := Lib.hid (by rw [ha]; exact HT.out)
  clear ha hv
  go_enter Tryz.func74, Tryz.ntmps74
  go_upto_region 1 with fail
  refine wp_region_lit ?_
  refine wpList_buildTo rfl _ _ rfl _ rfl kn0 (by kernel_rfl) ?_
  simp only [Act.put, List.setIfInBounds_toArray, List.set_cons_zero, List.set_cons_succ]
  refine Go.Great.wpList_boxTo rfl _ _ rfl _ rfl r hr kn0 rfl ?_
  simp only [Act.put, List.setIfInBounds_toArray, List.set_cons_zero, List.set_cons_succ]
  rw [← hw1]
  clear hw1 hr
  go_wp2_with fail
  refine HG.out.mono ?_
  rintro e w2 ⟨rfl, ht⟩
  have HB2 : Hid (Below w.heap.size w w2) := Lib.hid (Below.touch HB.out ht (fun i hi e => by have := HR.out; omega) (Nat.le_refl _))
  clear ht HB HG
  go_wp2_with fail
  refine (may_3 _ _ w2).mono ?_
  rintro e w' ⟨rfl, rfl⟩
  rw [HMM.out]
  have HM := Lib.hid (MB.new (w := w2) HB2.out.size)
  have HB3 := Lib.hid (HB2.out.alloc HB2.out.size (.cells #[.slice none 0 0] 144))
  obtain ⟨w3, hw3⟩ : ∃ x, x = w2.alloc (.cells #[.slice none 0 0] 144) := ⟨_, rfl⟩
  obtain ⟨g, hg⟩ : ∃ g, w2.heap.size = g := ⟨_, rfl⟩
  rw [← hw3, hg] at HM
  rw [← hw3] at HB3
  go_upto_region 5 with fail
  rw [← hw3]
  clear hw3 hg HB2
  go_wp2_with fail
  refine (size_any v w3 (by have := HV.out; omega) (by have := HV.out; omega)).mono ?_
  rintro e w' ⟨rfl, rfl⟩
  rw [← HA.out]
  go_wp2_with fail
  refine (great_any a 9 3 w3 HM.out HB3.out.size (by simp) (by have := HV.out; have := HA.out; omega) (by omega) (by omega)).mono ?_
  rintro e w4 ⟨rfl, hm, hb⟩
  replace HM := Lib.hid hm
  replace HB3 := Lib.hid (HB3.out.trans hb)
  clear hm hb
  have HL : Hid (([] ++ greatL (a : Int) 9 3).length ≤ 100000) := Lib.hid (great_len a 9 3 (by have := HV.out; have := HA.out; omega) (by omega) (by omega))
  go_wp2_with fail
  refine (byp0 _ HM.out HB3.out.size HL.out).mono ?_
  rintro e w5 ⟨rfl, hm, hb⟩
  replace HM := Lib.hid hm
  replace HB3 := Lib.hid (HB3.out.trans hb)
  clear hm hb HL
  obtain ⟨A, n, c, hc, hcv⟩ := HM.out.conv
  go_wp2_with fail
  go_ret2
  exact ⟨by rw [← HT2.out, if_pos hp]; rfl, HB3.out⟩
set_option maxRecDepth 100000 in
set_option maxHeartbeats 3200000 in
theorem bits_y3n (el v m : Int) (w : World) (hK : kindF el = 3) (hp : v < 0) (hm : mayB 3 v m = true) :
    Calls Tryz.prog 74 #[.int .i64 el, .int .i64 (v), .int .i64 m] w fun e w' => e = .returned (binV 3 v m) ∧ Below w.heap.size w w' := by
  have k0 := Bk.new w 140 kn0
  have HG := Lib.hid (hK ▸ kget_any w.heap.size el _ k0)
  have hb0 : Below w.heap.size w (w.alloc (.cells kn0 140)) := (Below.refl _ _).alloc (Nat.le_refl _) _
  have HB := Lib.hid hb0
  obtain ⟨w1, hw1⟩ : ∃ x, x = w.alloc (.cells kn0 140) := ⟨_, rfl⟩
  rw [← hw1] at HG HB
  clear k0 hb0 hK
  obtain ⟨r, hr⟩ : ∃ r, w.heap.size = r := ⟨_, rfl⟩
  rw [hr] at HG
  have HR := Lib.hid hr
  have e : binV 3 v m = .tuple #[.string (tx (binL 3 v m)), .int .i64 0] := by unfold binV; rw [hm]; rfl
  rw [e]
  clear e
  have HMM := Lib.hid hm
  obtain ⟨T, hT⟩ : ∃ T, binL 3 v m = T := ⟨_, rfl⟩
  rw [hT]
  have HT := Lib.hid hT
  clear hm hT
  have hv : -32767 ≤ v ∧ v ≤ 32767 := of_decide_eq_true ((show mayB 3 v m = decide (-32767 ≤ v ∧ v ≤ 32767) from rfl).symm.trans HMM.out)
  obtain ⟨a, ha⟩ : ∃ a : Nat, (a : Int) = max v (-v) := ⟨(max v (-v)).toNat, by omega⟩
  have HA := Lib.hid ha
  have HV := Lib.hid hv
  have HT2 : Hid (greatL (a : Int) 9 3 ++ (if 0 < v then [97] else if v < 0 then [98] else []) = T) := Lib.hid (by rw [ha]; exact HT.out)
  clear ha hv
  have hq : ¬ 0 < v := by omega
  go_enter Tryz.func74, Tryz.ntmps74
  go_upto_region 1 with fail
  refine wp_region_lit ?_
  refine wpList_buildTo rfl _ _ rfl _ rfl kn0 (by kernel_rfl) ?_
  simp only [Act.put, List.setIfInBounds_toArray, List.set_cons_zero, List.set_cons_succ]
  refine Go.Great.wpList_boxTo rfl _ _ rfl _ rfl r hr kn0 rfl ?_
  simp only [Act.put, List.setIfInBounds_toArray, List.set_cons_zero, List.set_cons_succ]
  rw [← hw1]
  clear hw1 hr
  go_wp2_with fail
  refine HG.out.mono ?_
  rintro e w2 ⟨rfl, ht⟩
  have HB2 : Hid (Below w.heap.size w w2) := Lib.hid (Below.touch HB.out ht (fun i hi e => by have := HR.out; omega) (Nat.le_refl _))
  clear ht HB HG
  go_wp2_with fail
  refine (may_3 _ _ w2).mono ?_
  rintro e w' ⟨rfl, rfl⟩
  rw [HMM.out]
  have HM := Lib.hid (MB.new (w := w2) HB2.out.size)
  have HB3 := Lib.hid (HB2.out.alloc HB2.out.size (.cells #[.slice none 0 0] 144))
  obtain ⟨w3, hw3⟩ : ∃ x, x = w2.alloc (.cells #[.slice none 0 0] 144) := ⟨_, rfl⟩
  obtain ⟨g, hg⟩ : ∃ g, w2.heap.size = g := ⟨_, rfl⟩
  rw [← hw3, hg] at HM
  rw [← hw3] at HB3
  go_upto_region 5 with fail
  rw [← hw3]
  clear hw3 hg HB2
  go_wp2_with fail
  refine (size_any v w3 (by have := HV.out; omega) (by have := HV.out; omega)).mono ?_
  rintro e w' ⟨rfl, rfl⟩
  rw [← HA.out]
  go_wp2_with fail
  refine (great_any a 9 3 w3 HM.out HB3.out.size (by simp) (by have := HV.out; have := HA.out; omega) (by omega) (by omega)).mono ?_
  rintro e w4 ⟨rfl, hm, hb⟩
  replace HM := Lib.hid hm
  replace HB3 := Lib.hid (HB3.out.trans hb)
  clear hm hb
  have HL : Hid (([] ++ greatL (a : Int) 9 3).length ≤ 100000) := Lib.hid (great_len a 9 3 (by have := HV.out; have := HA.out; omega) (by omega) (by omega))
  go_wp2_with fail
  refine (byp1 _ HM.out HB3.out.size HL.out).mono ?_
  rintro e w5 ⟨rfl, hm, hb⟩
  replace HM := Lib.hid hm
  replace HB3 := Lib.hid (HB3.out.trans hb)
  clear hm hb HL
  obtain ⟨A, n, c, hc, hcv⟩ := HM.out.conv
  go_wp2_with fail
  go_ret2
  exact ⟨by rw [← HT2.out, if_neg (by omega), if_pos hp]; rfl, HB3.out⟩
set_option maxRecDepth 100000 in
set_option maxHeartbeats 3200000 in
theorem bits_y3z (el v m : Int) (w : World) (hK : kindF el = 3) (hp : ¬ v < 0) (hq : ¬ 0 < v) (hm : mayB 3 v m = true) :
    Calls Tryz.prog 74 #[.int .i64 el, .int .i64 (v), .int .i64 m] w fun e w' => e = .returned (binV 3 v m) ∧ Below w.heap.size w w' := by
  have k0 := Bk.new w 140 kn0
  have HG := Lib.hid (hK ▸ kget_any w.heap.size el _ k0)
  have hb0 : Below w.heap.size w (w.alloc (.cells kn0 140)) := (Below.refl _ _).alloc (Nat.le_refl _) _
  have HB := Lib.hid hb0
  obtain ⟨w1, hw1⟩ : ∃ x, x = w.alloc (.cells kn0 140) := ⟨_, rfl⟩
  rw [← hw1] at HG HB
  clear k0 hb0 hK
  obtain ⟨r, hr⟩ : ∃ r, w.heap.size = r := ⟨_, rfl⟩
  rw [hr] at HG
  have HR := Lib.hid hr
  have e : binV 3 v m = .tuple #[.string (tx (binL 3 v m)), .int .i64 0] := by unfold binV; rw [hm]; rfl
  rw [e]
  clear e
  have HMM := Lib.hid hm
  obtain ⟨T, hT⟩ : ∃ T, binL 3 v m = T := ⟨_, rfl⟩
  rw [hT]
  have HT := Lib.hid hT
  clear hm hT
  have hv : -32767 ≤ v ∧ v ≤ 32767 := of_decide_eq_true ((show mayB 3 v m = decide (-32767 ≤ v ∧ v ≤ 32767) from rfl).symm.trans HMM.out)
  obtain ⟨a, ha⟩ : ∃ a : Nat, (a : Int) = max v (-v) := ⟨(max v (-v)).toNat, by omega⟩
  have HA := Lib.hid ha
  have HV := Lib.hid hv
  have HT2 : Hid (greatL (a : Int) 9 3 ++ (if 0 < v then [97] else if v < 0 then [98] else []) = T) := Lib.hid (by rw [ha]; exact HT.out)
  clear ha hv
  go_enter Tryz.func74, Tryz.ntmps74
  go_upto_region 1 with fail
  refine wp_region_lit ?_
  refine wpList_buildTo rfl _ _ rfl _ rfl kn0 (by kernel_rfl) ?_
  simp only [Act.put, List.setIfInBounds_toArray, List.set_cons_zero, List.set_cons_succ]
  refine Go.Great.wpList_boxTo rfl _ _ rfl _ rfl r hr kn0 rfl ?_
  simp only [Act.put, List.setIfInBounds_toArray, List.set_cons_zero, List.set_cons_succ]
  rw [← hw1]
  clear hw1 hr
  go_wp2_with fail
  refine HG.out.mono ?_
  rintro e w2 ⟨rfl, ht⟩
  have HB2 : Hid (Below w.heap.size w w2) := Lib.hid (Below.touch HB.out ht (fun i hi e => by have := HR.out; omega) (Nat.le_refl _))
  clear ht HB HG
  go_wp2_with fail
  refine (may_3 _ _ w2).mono ?_
  rintro e w' ⟨rfl, rfl⟩
  rw [HMM.out]
  have HM := Lib.hid (MB.new (w := w2) HB2.out.size)
  have HB3 := Lib.hid (HB2.out.alloc HB2.out.size (.cells #[.slice none 0 0] 144))
  obtain ⟨w3, hw3⟩ : ∃ x, x = w2.alloc (.cells #[.slice none 0 0] 144) := ⟨_, rfl⟩
  obtain ⟨g, hg⟩ : ∃ g, w2.heap.size = g := ⟨_, rfl⟩
  rw [← hw3, hg] at HM
  rw [← hw3] at HB3
  go_upto_region 5 with fail
  rw [← hw3]
  clear hw3 hg HB2
  go_wp2_with fail
  refine (size_any v w3 (by have := HV.out; omega) (by have := HV.out; omega)).mono ?_
  rintro e w' ⟨rfl, rfl⟩
  rw [← HA.out]
  go_wp2_with fail
  refine (great_any a 9 3 w3 HM.out HB3.out.size (by simp) (by have := HV.out; have := HA.out; omega) (by omega) (by omega)).mono ?_
  rintro e w4 ⟨rfl, hm, hb⟩
  replace HM := Lib.hid hm
  replace HB3 := Lib.hid (HB3.out.trans hb)
  clear hm hb
  obtain ⟨A, n, c, hc, hcv⟩ := HM.out.conv
  go_wp2_with fail
  go_ret2
  exact ⟨by rw [← HT2.out, if_neg (by omega), if_neg (by omega), List.append_nil]; rfl, HB3.out⟩
theorem bits_any (el v m : Int) (w : World) : Calls Tryz.prog 74 #[.int .i64 el, .int .i64 v, .int .i64 m] w fun e w' => e = .returned (binV (kindF el) v m) ∧ Below w.heap.size w w' := by
  rcases kindF_is el with h | h | h | h | h
  · rw [h]; exact bits_0 el v m w h
  · rw [h]
    cases hm : mayB 1 v m
    · exact bits_n1 el v m w h hm
    · have hv : v = 0 ∨ v = 1 := of_decide_eq_true ((show mayB 1 v m = decide (v = 0 ∨ v = 1) from rfl).symm.trans hm)
      rcases hv with rfl | rfl
      · exact bits_y10 el m w h hm
      · exact bits_y11 el m w h hm
  · rw [h]
    cases hm : mayB 2 v m
    · exact bits_n2 el v m w h hm
    · exact bits_y2 el v m w h hm
  · rw [h]
    cases hm : mayB 3 v m
    · exact bits_n3 el v m w h hm
    · by_cases h1 : 0 < v
      · exact bits_y3p el v m w h h1 hm
      · by_cases h2 : v < 0
        · exact bits_y3n el v m w h h2 hm
        · exact bits_y3z el v m w h h2 h1 hm
  · rw [h]
    cases hm : mayB 4 v m
    · exact bits_n4 el v m w h hm
    · exact bits_y4 el v m w h hm
end Go.Proofs.YtfignfohcalcfaaGreatDoor
