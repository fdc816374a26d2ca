/- The document's Decimal. -/
import Derived.Test.YtfignfohcalcfaaGreatDoorLinB
import Derived.Test.YtfignfohcalcfaaGreatDoorHexC
import Derived.Test.YtfignfohcalcfaaGreatDoorAppend
namespace Go.Proofs.YtfignfohcalcfaaGreatDoor
open Go.RowKit
set_option linter.unusedVariables false
set_option linter.unusedSimpArgs false

def sliceLen : Value → Nat
  | .slice _ n _ => n
  | _ => 0
/-- digits made so far, and what is left -/
def DI (m u : Nat) (D : List UInt8) : Prop := (D = [] ∧ u = m) ∨ (D ≠ [] ∧ u ≠ 0 ∧ Lib.decDigits u ++ D = Lib.decDigits m) ∨ (D ≠ [] ∧ u = 0 ∧ D = Lib.decDigits m)
theorem DI.step {m u : Nat} {D : List UInt8} (h : DI m u D) (hg : 0 < u ∨ D = []) : DI m (u / 10) (UInt8.ofNat (48 + u % 10) :: D) := by
  have hd : Lib.decDigits u ++ D = Lib.decDigits m := by
    rcases h with ⟨rfl, rfl⟩ | ⟨_, _, h⟩ | ⟨h1, h2, h3⟩
    · simp
    · exact h
    · rcases hg with hg | hg
      · omega
      · exact absurd hg h1
  by_cases h10 : u < 10
  · refine .inr (.inr ⟨by simp, by omega, ?_⟩)
    rw [← hd, Lib.decDigits, dif_pos h10, show u % 10 = u by omega]
    rfl
  · refine .inr (.inl ⟨by simp, by omega, ?_⟩)
    rw [← hd]
    conv => rhs; rw [Lib.decDigits, dif_neg h10]
    simp
theorem DI.done {m u : Nat} {D : List UInt8} (h : DI m u D) (hg : ¬ (0 < u ∨ D = [])) : D = Lib.decDigits m := by
  rcases h with ⟨h1, _⟩ | ⟨_, h2, _⟩ | ⟨_, _, h3⟩
  · exact absurd (Or.inr h1) hg
  · exact absurd (Or.inl (by omega)) hg
  · exact h3
theorem DI.len {m u : Nat} {D : List UInt8} (h : DI m u D) (hm : m < 10 ^ 20) : D.length ≤ 20 := by
  have hl := dec_length 19 m hm
  rcases h with ⟨rfl, _⟩ | ⟨_, _, h⟩ | ⟨_, _, h⟩
  · simp
  · have := congrArg List.length h
    rw [List.length_append] at this
    omega
  · rw [h]; exact hl
theorem own_one (w : World) (B : Nat) (x : Int) (hB : B ≤ w.heap.size) : (w.alloc (.cells #[.int .u8 x] 5)).ownsRow B 5 1 (.slice (some ⟨w.heap.size, 0, none⟩) 1 1) 1 [.int .u8 x] :=
  ⟨rfl, .inr ⟨w.heap.size, 1, _, rfl, hB, heap_alloc_new w _, Nat.le_refl _, by unfold maxLen; omega, by simp, rfl⟩⟩
theorem bO_rd (D : List UInt8) : (List.range D.length).map (fun k => Value.int .u8 (((bO D).getD k 0 : Nat) : Int)) = bV (bO D) := by
  apply List.ext_getElem
  · simp [bV, bO]
  · intro i h1 h2
    have hi : i < D.length := by simpa using h1
    simp [bV, bO, hi]
theorem bO_cons (c : UInt8) (D : List UInt8) : Value.int .u8 (c.toNat : Int) :: bV (bO D) = bV (bO (c :: D)) := rfl
set_option maxRecDepth 100000 in
set_option maxHeartbeats 3200000 in
theorem dec_any (x : Int) (w : World) (h0 : -1000000000000 ≤ x) (h1 : x ≤ 1000000000000) :
    Calls Tryz.prog 14 #[.int .i64 x] w fun e w' => e = .returned (.string (tx (Lib.itoa x))) ∧ Below w.heap.size w w' := by
  obtain ⟨i0, hi, hz0, hz1, hz2⟩ := info_parts u8_info
  obtain ⟨m, hm⟩ : ∃ m : Nat, m = x.natAbs := ⟨_, rfl⟩
  have hm20 : m < 10 ^ 20 := by omega
  have hm2 : (m : Int) ≤ 1000000000000 := by omega
  have HM20 := Lib.hid hm20
  clear hm20
  by_cases hx : x < 0
  · have hF : Lib.itoa x = 45 :: Lib.decDigits m := by unfold Lib.itoa; rw [if_pos hx, hm]
    have e1 : IntKind.u64.wrap x = x + 18446744073709551616 := by rw [u64_wrap]; omega
    have e2 : IntKind.u64.wrap (-(x + 1)) = -(x + 1) := by rw [u64_wrap]; omega
    have e3 : -(x + 1) + 1 = (m : Int) := by omega
    rw [hF]
    clear hF hm
    go_enter Tryz.func14, Tryz.ntmps14
    go_wp2_with fail
    go_loopw [4, 3] (fun v z wr => ∃ (u : Nat) (D : List UInt8), z = .int .u64 u ∧ u ≤ m ∧ DI m u D ∧ wr.ownsRow w.heap.size 5 1 v (bO D).length (bV (bO D)) ∧ Below w.heap.size w wr) (fun v z _ => (intOf z).toNat + (if sliceLen v = 0 then 1 else 0))
    case atStart => exact ⟨m, [], rfl, Nat.le_refl _, .inl ⟨rfl, rfl⟩, World.ownsRow_nil _ _ _ _, Below.refl _ _⟩
    case round =>
      obtain ⟨u, D, rfl, hum, hdi, ho, hb⟩ := hrel
      have HDI := Lib.hid hdi
      have hdl := hdi.len HM20.out
      obtain ⟨A, c, rfl, hlc, hcm, hn0⟩ := own_slice ho
      obtain ⟨A', c', hv', hrd⟩ := Rd.bV ho
      injection hv' with e1 e2 e3
      subst e1 e3
      have HO := Lib.hid ho
      have HB := Lib.hid hb
      have HN0 := Lib.hid hn0
      have HRD := Lib.hid hrd
      have hsz := hb.size
      have hbl : (bO D).length = D.length := by simp [bO]
      rw [hbl] at HO hlc HRD HN0
      rw [hbl]
      obtain ⟨dn, hdn⟩ : ∃ dn, D.length = dn := ⟨_, rfl⟩
      rw [hdn] at HO hlc HRD HN0 hdl
      rw [hdn]
      have HDN := Lib.hid hdn
      have hu0 : (0 : Int) ≤ (u : Int) := Int.natCast_nonneg _
      have hd0 : (0 : Int) ≤ (dn : Int) := Int.natCast_nonneg _
      clear hdi ho hb hn0 hrd hbl e2 hdn
      by_cases hg : 0 < u ∨ D = []
      · have HS := Lib.hid (HDI.out.step hg)
        have hways : (0 : Int) < (u : Int) ∨ (¬ (0 : Int) < (u : Int) ∧ dn = 0) := by
          by_cases h : 0 < u
          · exact .inl (by omega)
          · refine .inr ⟨by omega, ?_⟩
            rcases hg with hg | hg
            · exact absurd hg h
            · rw [← HDN.out, hg]; rfl
        have hnat : (UInt8.ofNat (48 + u % 10)).toNat = 48 + u % 10 := ofNat_toNat _ (by omega)
        obtain ⟨r, hr⟩ : ∃ r, u % 10 = r := ⟨_, rfl⟩
        have hr10 : r < 10 := by omega
        have er : (u : Int) % 10 = (r : Int) := by omega
        have er2 : (48 + (r : Int)) % 256 = 48 + (r : Int) := by omega
        obtain ⟨u2, hu2⟩ : ∃ u2, u / 10 = u2 := ⟨_, rfl⟩
        have etd : (u : Int).tdiv 10 = (u2 : Int) := by rw [Int.tdiv_eq_ediv_of_nonneg hu0]; omega
        have etw : IntKind.u64.wrap (u2 : Int) = (u2 : Int) := by rw [u64_wrap]; omega
        rw [hu2] at HS
        have HU2 := Lib.hid hu2
        rw [hr] at hnat HS
        have HNAT := Lib.hid hnat
        have HHG := Lib.hid hg
        clear hnat hr hg hu2
        have HOW := Lib.hid (own_one wr w.heap.size (48 + (r : Int)) hsz)
        have HEND := Lib.hid (fun (v3 : Value) (w3 : World) (hown3 : w3.ownsRow w.heap.size 5 1 v3 (1 + dn) ([.int .u8 (48 + (r : Int))] ++ (List.range dn).map (fun k => .int .u8 (((bO D).getD k 0 : Nat) : Int)))) => (by
          have e1 : (48 + (r : Int)) = ((UInt8.ofNat (48 + r)).toNat : Int) := by rw [HNAT.out]; omega
          have e2 := bO_rd D
          rw [HDN.out] at e2
          rw [e2, e1] at hown3
          have e3 : (bO (UInt8.ofNat (48 + r) :: D)).length = 1 + dn := by
            unfold bO
            rw [List.length_map, List.length_cons, HDN.out]
            omega
          rw [e3]
          exact hown3 : w3.ownsRow w.heap.size 5 1 v3 (bO (UInt8.ofNat (48 + r) :: D)).length (bV (bO (UInt8.ofNat (48 + r) :: D)))))
        rcases hways with hu | ⟨hu, hdz⟩
        · go_wp2_with (at_builtin; refine wpList_append_rd _ rfl _ _ 61 rfl w.heap.size 5 i0 (.int .u8 0) 1 Tryz.underlying61 hi hz0 hz1 hz2 rfl (.slice (some ⟨wr.heap.size, 0, none⟩) 1 1) 1 [.int .u8 (48 + (r : Int))] rfl HOW.out wr.heap.size A _ c (fun k => .int .u8 (((bO D).getD k 0 : Nat) : Int)) rfl (Rd.alloc HRD.out (Nat.le_refl _) _) HN0.out (fun k => rfl) (by unfold maxLen; omega) (by omega) (by simp; omega) ?_; intro v3 w3 hown3 hg3)
          have HO3 := Lib.hid (HEND.out v3 w3 hown3)
          have HB3 := Lib.hid ((HB.out.alloc hsz _).grown hg3 (by simp; omega) (fun k hk => (HOW.out.lt k hk).1))
          obtain ⟨A3, c3, rfl, hc3, hm3, _⟩ := own_slice hown3
          clear hown3 hg3
          go_wp2_with fail
          go_roundw
          case rel => exact ⟨u2, _ :: D, rfl, by have := HU2.out; omega, HS.out, HO3.out, HB3.out⟩
          case measure => have := HU2.out; simp [intOf, sliceLen]; omega
        · obtain rfl : u = 0 := by omega
          obtain rfl : r = 0 := by omega
          obtain rfl : u2 = 0 := by have := HU2.out; omega
          clear etd etw er er2
          subst hdz
          go_wp2_with (at_builtin; refine wpList_append_rd _ rfl _ _ 61 rfl w.heap.size 5 i0 (.int .u8 0) 1 Tryz.underlying61 hi hz0 hz1 hz2 rfl (.slice (some ⟨wr.heap.size, 0, none⟩) 1 1) 1 [.int .u8 48] rfl HOW.out wr.heap.size A _ c (fun k => .int .u8 (((bO D).getD k 0 : Nat) : Int)) rfl (Rd.alloc HRD.out (Nat.le_refl _) _) HN0.out (fun k => rfl) (by unfold maxLen; omega) (by omega) (by simp; omega) ?_; intro v3 w3 hown3 hg3)
          have HO3 := Lib.hid (HEND.out v3 w3 hown3)
          have HB3 := Lib.hid ((HB.out.alloc hsz _).grown hg3 (by simp; omega) (fun k hk => (HOW.out.lt k hk).1))
          obtain ⟨A3, c3, rfl, hc3, hm3, _⟩ := own_slice hown3
          exact ⟨⟨0, _ :: D, rfl, by omega, HS.out, HO3.out, HB3.out⟩, by simp [intOf, sliceLen]⟩
      · have HD := Lib.hid (HDI.out.done hg)
        have hdm : dn = (Lib.decDigits m).length := by rw [← HDN.out, HD.out]
        have hdp : 0 < dn := by
          rw [hdm]
          exact List.length_pos_iff.2 (dec_digits m).2.2
        have hdp2 : ((dn : Int) == 0) = false := by rw [beq_eq_false_iff_ne]; omega
        obtain rfl : u = 0 := by omega
        have HOW := Lib.hid (own_one wr w.heap.size 45 hsz)
        have HEND := Lib.hid (fun (v3 : Value) (w3 : World) (hown3 : w3.ownsRow w.heap.size 5 1 v3 (1 + dn) ([.int .u8 45] ++ (List.range dn).map (fun k => .int .u8 (((bO D).getD k 0 : Nat) : Int)))) => (by
          have e2 := bO_rd D
          rw [HDN.out] at e2
          rw [e2, HD.out] at hown3
          have e3 : (bO (45 :: Lib.decDigits m)).length = 1 + dn := by
            unfold bO
            rw [List.length_map, List.length_cons, hdm]
            omega
          rw [e3]
          exact hown3 : w3.ownsRow w.heap.size 5 1 v3 (bO (45 :: Lib.decDigits m)).length (bV (bO (45 :: Lib.decDigits m)))))
        clear hdm
        go_wp2_with (at_builtin; refine wpList_append_rd _ rfl _ _ 61 rfl w.heap.size 5 i0 (.int .u8 0) 1 Tryz.underlying61 hi hz0 hz1 hz2 rfl (.slice (some ⟨wr.heap.size, 0, none⟩) 1 1) 1 [.int .u8 45] rfl HOW.out wr.heap.size A _ c (fun k => .int .u8 (((bO D).getD k 0 : Nat) : Int)) rfl (Rd.alloc HRD.out (Nat.le_refl _) _) HN0.out (fun k => rfl) (by unfold maxLen; omega) (by omega) (by simp; omega) ?_; intro v3 w3 hown3 hg3)
        have HB3 := Lib.hid ((HB.out.alloc hsz _).grown hg3 (by simp; omega) (fun k hk => (HOW.out.lt k hk).1))
        have hcv := run_txt (HEND.out v3 w3 hown3)
        rw [show txt (bO (45 :: Lib.decDigits m)) = tx (45 :: Lib.decDigits m) from txt_tx _] at hcv
        obtain ⟨X, hX⟩ : ∃ X, tx (45 :: Lib.decDigits m) = X := ⟨_, rfl⟩
        have HX := Lib.hid hX
        rw [hX] at hcv
        clear hown3 hg3 hX
        go_wp2_with fail
        rw [hcv]
        simp only [Result.andThen]
        rw [Oper.upon_value]
        go_wp2_with fail
        go_ret
        exact ⟨by rw [HX.out]; rfl, HB3.out⟩
  · have hF : Lib.itoa x = Lib.decDigits m := by unfold Lib.itoa; rw [if_neg hx, hm]; congr 1; omega
    have e3 : x = (m : Int) := by omega
    have e1 : IntKind.u64.wrap (m : Int) = (m : Int) := by rw [u64_wrap]; omega
    rw [hF]
    clear hF hm
    subst e3
    go_enter Tryz.func14, Tryz.ntmps14
    go_wp2_with fail
    go_loopw [4, 3] (fun v z wr => ∃ (u : Nat) (D : List UInt8), z = .int .u64 u ∧ u ≤ m ∧ DI m u D ∧ wr.ownsRow w.heap.size 5 1 v (bO D).length (bV (bO D)) ∧ Below w.heap.size w wr) (fun v z _ => (intOf z).toNat + (if sliceLen v = 0 then 1 else 0))
    case atStart => exact ⟨m, [], rfl, Nat.le_refl _, .inl ⟨rfl, rfl⟩, World.ownsRow_nil _ _ _ _, Below.refl _ _⟩
    case round =>
      obtain ⟨u, D, rfl, hum, hdi, ho, hb⟩ := hrel
      have HDI := Lib.hid hdi
      have hdl := hdi.len HM20.out
      obtain ⟨A, c, rfl, hlc, hcm, hn0⟩ := own_slice ho
      obtain ⟨A', c', hv', hrd⟩ := Rd.bV ho
      injection hv' with e1 e2 e3
      subst e1 e3
      have HO := Lib.hid ho
      have HB := Lib.hid hb
      have HN0 := Lib.hid hn0
      have HRD := Lib.hid hrd
      have hsz := hb.size
      have hbl : (bO D).length = D.length := by simp [bO]
      rw [hbl] at HO hlc HRD HN0
      rw [hbl]
      obtain ⟨dn, hdn⟩ : ∃ dn, D.length = dn := ⟨_, rfl⟩
      rw [hdn] at HO hlc HRD HN0 hdl
      rw [hdn]
      have HDN := Lib.hid hdn
      have hu0 : (0 : Int) ≤ (u : Int) := Int.natCast_nonneg _
      have hd0 : (0 : Int) ≤ (dn : Int) := Int.natCast_nonneg _
      clear hdi ho hb hn0 hrd hbl e2 hdn
      by_cases hg : 0 < u ∨ D = []
      · have HS := Lib.hid (HDI.out.step hg)
        have hways : (0 : Int) < (u : Int) ∨ (¬ (0 : Int) < (u : Int) ∧ dn = 0) := by
          by_cases h : 0 < u
          · exact .inl (by omega)
          · refine .inr ⟨by omega, ?_⟩
            rcases hg with hg | hg
            · exact absurd hg h
            · rw [← HDN.out, hg]; rfl
        have hnat : (UInt8.ofNat (48 + u % 10)).toNat = 48 + u % 10 := ofNat_toNat _ (by omega)
        obtain ⟨r, hr⟩ : ∃ r, u % 10 = r := ⟨_, rfl⟩
        have hr10 : r < 10 := by omega
        have er : (u : Int) % 10 = (r : Int) := by omega
        have er2 : (48 + (r : Int)) % 256 = 48 + (r : Int) := by omega
        obtain ⟨u2, hu2⟩ : ∃ u2, u / 10 = u2 := ⟨_, rfl⟩
        have etd : (u : Int).tdiv 10 = (u2 : Int) := by rw [Int.tdiv_eq_ediv_of_nonneg hu0]; omega
        have etw : IntKind.u64.wrap (u2 : Int) = (u2 : Int) := by rw [u64_wrap]; omega
        rw [hu2] at HS
        have HU2 := Lib.hid hu2
        rw [hr] at hnat HS
        have HNAT := Lib.hid hnat
        have HHG := Lib.hid hg
        clear hnat hr hg hu2
        have HOW := Lib.hid (own_one wr w.heap.size (48 + (r : Int)) hsz)
        have HEND := Lib.hid (fun (v3 : Value) (w3 : World) (hown3 : w3.ownsRow w.heap.size 5 1 v3 (1 + dn) ([.int .u8 (48 + (r : Int))] ++ (List.range dn).map (fun k => .int .u8 (((bO D).getD k 0 : Nat) : Int)))) => (by
          have e1 : (48 + (r : Int)) = ((UInt8.ofNat (48 + r)).toNat : Int) := by rw [HNAT.out]; omega
          have e2 := bO_rd D
          rw [HDN.out] at e2
          rw [e2, e1] at hown3
          have e3 : (bO (UInt8.ofNat (48 + r) :: D)).length = 1 + dn := by
            unfold bO
            rw [List.length_map, List.length_cons, HDN.out]
            omega
          rw [e3]
          exact hown3 : w3.ownsRow w.heap.size 5 1 v3 (bO (UInt8.ofNat (48 + r) :: D)).length (bV (bO (UInt8.ofNat (48 + r) :: D)))))
        rcases hways with hu | ⟨hu, hdz⟩
        · go_wp2_with (at_builtin; refine wpList_append_rd _ rfl _ _ 61 rfl w.heap.size 5 i0 (.int .u8 0) 1 Tryz.underlying61 hi hz0 hz1 hz2 rfl (.slice (some ⟨wr.heap.size, 0, none⟩) 1 1) 1 [.int .u8 (48 + (r : Int))] rfl HOW.out wr.heap.size A _ c (fun k => .int .u8 (((bO D).getD k 0 : Nat) : Int)) rfl (Rd.alloc HRD.out (Nat.le_refl _) _) HN0.out (fun k => rfl) (by unfold maxLen; omega) (by omega) (by simp; omega) ?_; intro v3 w3 hown3 hg3)
          have HO3 := Lib.hid (HEND.out v3 w3 hown3)
          have HB3 := Lib.hid ((HB.out.alloc hsz _).grown hg3 (by simp; omega) (fun k hk => (HOW.out.lt k hk).1))
          obtain ⟨A3, c3, rfl, hc3, hm3, _⟩ := own_slice hown3
          clear hown3 hg3
          go_wp2_with fail
          go_roundw
          case rel => exact ⟨u2, _ :: D, rfl, by have := HU2.out; omega, HS.out, HO3.out, HB3.out⟩
          case measure => have := HU2.out; simp [intOf, sliceLen]; omega
        · obtain rfl : u = 0 := by omega
          obtain rfl : r = 0 := by omega
          obtain rfl : u2 = 0 := by have := HU2.out; omega
          clear etd etw er er2
          subst hdz
          go_wp2_with (at_builtin; refine wpList_append_rd _ rfl _ _ 61 rfl w.heap.size 5 i0 (.int .u8 0) 1 Tryz.underlying61 hi hz0 hz1 hz2 rfl (.slice (some ⟨wr.heap.size, 0, none⟩) 1 1) 1 [.int .u8 48] rfl HOW.out wr.heap.size A _ c (fun k => .int .u8 (((bO D).getD k 0 : Nat) : Int)) rfl (Rd.alloc HRD.out (Nat.le_refl _) _) HN0.out (fun k => rfl) (by unfold maxLen; omega) (by omega) (by simp; omega) ?_; intro v3 w3 hown3 hg3)
          have HO3 := Lib.hid (HEND.out v3 w3 hown3)
          have HB3 := Lib.hid ((HB.out.alloc hsz _).grown hg3 (by simp; omega) (fun k hk => (HOW.out.lt k hk).1))
          obtain ⟨A3, c3, rfl, hc3, hm3, _⟩ := own_slice hown3
          exact ⟨⟨0, _ :: D, rfl, by omega, HS.out, HO3.out, HB3.out⟩, by simp [intOf, sliceLen]⟩
      · have HD := Lib.hid (HDI.out.done hg)
        have hdm : dn = (Lib.decDigits m).length := by rw [← HDN.out, HD.out]
        have hdp : 0 < dn := by
          rw [hdm]
          exact List.length_pos_iff.2 (dec_digits m).2.2
        have hdp2 : ((dn : Int) == 0) = false := by rw [beq_eq_false_iff_ne]; omega
        obtain rfl : u = 0 := by omega
        have ho2 := HO.out
        rw [HD.out, hdm] at ho2
        have hcv := run_txt (l := bO (Lib.decDigits m)) (by
          have e3 : (bO (Lib.decDigits m)).length = (Lib.decDigits m).length := by unfold bO; rw [List.length_map]
          rw [e3]
          exact ho2)
        rw [← hdm, show txt (bO (Lib.decDigits m)) = tx (Lib.decDigits m) from txt_tx _] at hcv
        obtain ⟨X, hX⟩ : ∃ X, tx (Lib.decDigits m) = X := ⟨_, rfl⟩
        have HX := Lib.hid hX
        rw [hX] at hcv
        clear ho2 hX hdm
        go_wp2_with fail
        go_ret
        exact ⟨by rw [HX.out]; rfl, HB.out⟩
end Go.Proofs.YtfignfohcalcfaaGreatDoor
