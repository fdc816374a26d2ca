/- The document's Decimal. The statements' own functions: Hex, row, one. The statements' own Hex. -/
import Derived.Test.YtfignfohcalcfaaGreatDoorLinB
import Derived.Test.YtfignfohcalcfaaGreatDoorHexC
import Derived.Test.YtfignfohcalcfaaGreatDoorAppend
import Derived.Test.YtfignfohcalcfaaGreatDoorLawA
import Derived.Test.YtfignfohcalcfaaGreatDoorLinC
import Derived.Deep.RegionHeld3
import Derived.Deep.AppendLies
namespace Go.Proofs.YtfignfohcalcfaaGreatDoor
open Go.RowKit
set_option linter.unusedVariables false
set_option linter.unusedSimpArgs false

theorem tx_app (a b : List UInt8) : tx a ++ tx b = tx (a ++ b) := by
  rw [← tx_data (tx a ++ tx b)]
  simp [tx]
def sliceLen : Value → Nat
  | .slice _ n _ => n
  | _ => 0
/-- digits made so far, and what is left -/
def DI (m u : Nat) (D : List UInt8) : Prop := (D = [] ∧ u = m) ∨ (D ≠ [] ∧ u ≠ 0 ∧ Lib.decDigits u ++ D = Lib.decDigits m) ∨ (D ≠ [] ∧ u = 0 ∧ D = Lib.decDigits m)
theorem DI.step {m u : Nat} {D : List UInt8} (h : DI m u D) (hg : 0 < u ∨ D = []) : DI m (u / 10) (UInt8.ofNat (48 + u % 10) :: D) := by
  have hd : Lib.decDigits u ++ D = Lib.decDigits m := by
    rcases h with ⟨rfl, rfl⟩ | ⟨_, _, h⟩ | ⟨h1, h2, h3⟩
    · simp
    · exact h
    · rcases hg with hg | hg
      · omega
      · exact absurd hg h1
  by_cases h10 : u < 10
  · refine .inr (.inr ⟨by simp, by omega, ?_⟩)
    rw [← hd, Lib.decDigits, dif_pos h10, show u % 10 = u by omega]
    rfl
  · refine .inr (.inl ⟨by simp, by omega, ?_⟩)
    rw [← hd]
    conv => rhs; rw [Lib.decDigits, dif_neg h10]
    simp
theorem DI.done {m u : Nat} {D : List UInt8} (h : DI m u D) (hg : ¬ (0 < u ∨ D = [])) : D = Lib.decDigits m := by
  rcases h with ⟨h1, _⟩ | ⟨_, h2, _⟩ | ⟨_, _, h3⟩
  · exact absurd (Or.inr h1) hg
  · exact absurd (Or.inl (by omega)) hg
  · exact h3
theorem DI.len {m u : Nat} {D : List UInt8} (h : DI m u D) (hm : m < 10 ^ 20) : D.length ≤ 20 := by
  have hl := dec_length 19 m hm
  rcases h with ⟨rfl, _⟩ | ⟨_, _, h⟩ | ⟨_, _, h⟩
  · simp
  · have := congrArg List.length h
    rw [List.length_append] at this
    omega
  · rw [h]; exact hl
theorem own_one (w : World) (B : Nat) (x : Int) (hB : B ≤ w.heap.size) : (w.alloc (.cells #[.int .u8 x] 5)).ownsRow B 5 1 (.slice (some ⟨w.heap.size, 0, none⟩) 1 1) 1 [.int .u8 x] :=
  ⟨rfl, .inr ⟨w.heap.size, 1, _, rfl, hB, heap_alloc_new w _, Nat.le_refl _, by unfold maxLen; omega, by simp, rfl⟩⟩
theorem bO_rd (D : List UInt8) : (List.range D.length).map (fun k => Value.int .u8 (((bO D).getD k 0 : Nat) : Int)) = bV (bO D) := by
  apply List.ext_getElem
  · simp [bV, bO]
  · intro i h1 h2
    have hi : i < D.length := by simpa using h1
    simp [bV, bO, hi]
theorem bO_cons (c : UInt8) (D : List UInt8) : Value.int .u8 (c.toNat : Int) :: bV (bO D) = bV (bO (c :: D)) := rfl
set_option maxRecDepth 100000 in
set_option maxHeartbeats 3200000 in
theorem dec_any (x : Int) (w : World) (h0 : -1000000000000 ≤ x) (h1 : x ≤ 1000000000000) :
    Calls Tryz.prog 14 #[.int .i64 x] w fun e w' => e = .returned (.string (tx (Lib.itoa x))) ∧ Below w.heap.size w w' := by
  obtain ⟨i0, hi, hz0, hz1, hz2⟩ := info_parts u8_info
  obtain ⟨m, hm⟩ : ∃ m : Nat, m = x.natAbs := ⟨_, rfl⟩
  have hm20 : m < 10 ^ 20 := by omega
  have hm2 : (m : Int) ≤ 1000000000000 := by omega
  have HM20 := Lib.hid hm20
  clear hm20
  by_cases hx : x < 0
  · have hF : Lib.itoa x = 45 :: Lib.decDigits m := by unfold Lib.itoa; rw [if_pos hx, hm]
    have e1 : IntKind.u64.wrap x = x + 18446744073709551616 := by rw [u64_wrap]; omega
    have e2 : IntKind.u64.wrap (-(x + 1)) = -(x + 1) := by rw [u64_wrap]; omega
    have e3 : -(x + 1) + 1 = (m : Int) := by omega
    rw [hF]
    clear hF hm
    go_enter Tryz.func14, Tryz.ntmps14
    go_wp2_with fail
    go_loopw [4, 3] (fun v z wr => ∃ (u : Nat) (D : List UInt8), z = .int .u64 u ∧ u ≤ m ∧ DI m u D ∧ wr.ownsRow w.heap.size 5 1 v (bO D).length (bV (bO D)) ∧ Below w.heap.size w wr) (fun v z _ => (intOf z).toNat + (if sliceLen v = 0 then 1 else 0))
    case atStart => exact ⟨m, [], rfl, Nat.le_refl _, .inl ⟨rfl, rfl⟩, World.ownsRow_nil _ _ _ _, Below.refl _ _⟩
    case round =>
      obtain ⟨u, D, rfl, hum, hdi, ho, hb⟩ := hrel
      have HDI := Lib.hid hdi
      have hdl := hdi.len HM20.out
      obtain ⟨A, c, rfl, hlc, hcm, hn0⟩ := own_slice ho
      obtain ⟨A', c', hv', hrd⟩ := Rd.bV ho
      injection hv' with e1 e2 e3
      subst e1 e3
      have HO := Lib.hid ho
      have HB := Lib.hid hb
      have HN0 := Lib.hid hn0
      have HRD := Lib.hid hrd
      have hsz := hb.size
      have hbl : (bO D).length = D.length := by simp [bO]
      rw [hbl] at HO hlc HRD HN0
      rw [hbl]
      obtain ⟨dn, hdn⟩ : ∃ dn, D.length = dn := ⟨_, rfl⟩
      rw [hdn] at HO hlc HRD HN0 hdl
      rw [hdn]
      have HDN := Lib.hid hdn
      have hu0 : (0 : Int) ≤ (u : Int) := Int.natCast_nonneg _
      have hd0 : (0 : Int) ≤ (dn : Int) := Int.natCast_nonneg _
      clear hdi ho hb hn0 hrd hbl e2 hdn
      by_cases hg : 0 < u ∨ D = []
      · have HS := Lib.hid (HDI.out.step hg)
        have hways : (0 : Int) < (u : Int) ∨ (¬ (0 : Int) < (u : Int) ∧ dn = 0) := by
          by_cases h : 0 < u
          · exact .inl (by omega)
          · refine .inr ⟨by omega, ?_⟩
            rcases hg with hg | hg
            · exact absurd hg h
            · rw [← HDN.out, hg]; rfl
        have hnat : (UInt8.ofNat (48 + u % 10)).toNat = 48 + u % 10 := ofNat_toNat _ (by omega)
        obtain ⟨r, hr⟩ : ∃ r, u % 10 = r := ⟨_, rfl⟩
        have hr10 : r < 10 := by omega
        have er : (u : Int) % 10 = (r : Int) := by omega
        have er2 : (48 + (r : Int)) % 256 = 48 + (r : Int) := by omega
        obtain ⟨u2, hu2⟩ : ∃ u2, u / 10 = u2 := ⟨_, rfl⟩
        have etd : (u : Int).tdiv 10 = (u2 : Int) := by rw [Int.tdiv_eq_ediv_of_nonneg hu0]; omega
        have etw : IntKind.u64.wrap (u2 : Int) = (u2 : Int) := by rw [u64_wrap]; omega
        rw [hu2] at HS
        have HU2 := Lib.hid hu2
        rw [hr] at hnat HS
        have HNAT := Lib.hid hnat
        have HHG := Lib.hid hg
        clear hnat hr hg hu2
        have HOW := Lib.hid (own_one wr w.heap.size (48 + (r : Int)) hsz)
        have HEND := Lib.hid (fun (v3 : Value) (w3 : World) (hown3 : w3.ownsRow w.heap.size 5 1 v3 (1 + dn) ([.int .u8 (48 + (r : Int))] ++ (List.range dn).map (fun k => .int .u8 (((bO D).getD k 0 : Nat) : Int)))) => (by
          have e1 : (48 + (r : Int)) = ((UInt8.ofNat (48 + r)).toNat : Int) := by rw [HNAT.out]; omega
          have e2 := bO_rd D
          rw [HDN.out] at e2
          rw [e2, e1] at hown3
          have e3 : (bO (UInt8.ofNat (48 + r) :: D)).length = 1 + dn := by
            unfold bO
            rw [List.length_map, List.length_cons, HDN.out]
            omega
          rw [e3]
          exact hown3 : w3.ownsRow w.heap.size 5 1 v3 (bO (UInt8.ofNat (48 + r) :: D)).length (bV (bO (UInt8.ofNat (48 + r) :: D)))))
        rcases hways with hu | ⟨hu, hdz⟩
        · go_wp2_with (at_builtin; refine wpList_append_rd _ rfl _ _ 61 rfl w.heap.size 5 i0 (.int .u8 0) 1 Tryz.underlying61 hi hz0 hz1 hz2 rfl (.slice (some ⟨wr.heap.size, 0, none⟩) 1 1) 1 [.int .u8 (48 + (r : Int))] rfl HOW.out wr.heap.size A _ c (fun k => .int .u8 (((bO D).getD k 0 : Nat) : Int)) rfl (Rd.alloc HRD.out (Nat.le_refl _) _) HN0.out (fun k => rfl) (by unfold maxLen; omega) (by omega) (by simp; omega) ?_; intro v3 w3 hown3 hg3)
          have HO3 := Lib.hid (HEND.out v3 w3 hown3)
          have HB3 := Lib.hid ((HB.out.alloc hsz _).grown hg3 (by simp; omega) (fun k hk => (HOW.out.lt k hk).1))
          obtain ⟨A3, c3, rfl, hc3, hm3, _⟩ := own_slice hown3
          clear hown3 hg3
          go_wp2_with fail
          go_roundw
          case rel => exact ⟨u2, _ :: D, rfl, by have := HU2.out; omega, HS.out, HO3.out, HB3.out⟩
          case measure => have := HU2.out; simp [intOf, sliceLen]; omega
        · obtain rfl : u = 0 := by omega
          obtain rfl : r = 0 := by omega
          obtain rfl : u2 = 0 := by have := HU2.out; omega
          clear etd etw er er2
          subst hdz
          go_wp2_with (at_builtin; refine wpList_append_rd _ rfl _ _ 61 rfl w.heap.size 5 i0 (.int .u8 0) 1 Tryz.underlying61 hi hz0 hz1 hz2 rfl (.slice (some ⟨wr.heap.size, 0, none⟩) 1 1) 1 [.int .u8 48] rfl HOW.out wr.heap.size A _ c (fun k => .int .u8 (((bO D).getD k 0 : Nat) : Int)) rfl (Rd.alloc HRD.out (Nat.le_refl _) _) HN0.out (fun k => rfl) (by unfold maxLen; omega) (by omega) (by simp; omega) ?_; intro v3 w3 hown3 hg3)
          have HO3 := Lib.hid (HEND.out v3 w3 hown3)
          have HB3 := Lib.hid ((HB.out.alloc hsz _).grown hg3 (by simp; omega) (fun k hk => (HOW.out.lt k hk).1))
          obtain ⟨A3, c3, rfl, hc3, hm3, _⟩ := own_slice hown3
          exact ⟨⟨0, _ :: D, rfl, by omega, HS.out, HO3.out, HB3.out⟩, by simp [intOf, sliceLen]⟩
      · have HD := Lib.hid (HDI.out.done hg)
        have hdm : dn = (Lib.decDigits m).length := by rw [← HDN.out, HD.out]
        have hdp : 0 < dn := by
          rw [hdm]
          exact List.length_pos_iff.2 (dec_digits m).2.2
        have hdp2 : ((dn : Int) == 0) = false := by rw [beq_eq_false_iff_ne]; omega
        obtain rfl : u = 0 := by omega
        have HOW := Lib.hid (own_one wr w.heap.size 45 hsz)
        have HEND := Lib.hid (fun (v3 : Value) (w3 : World) (hown3 : w3.ownsRow w.heap.size 5 1 v3 (1 + dn) ([.int .u8 45] ++ (List.range dn).map (fun k => .int .u8 (((bO D).getD k 0 : Nat) : Int)))) => (by
          have e2 := bO_rd D
          rw [HDN.out] at e2
          rw [e2, HD.out] at hown3
          have e3 : (bO (45 :: Lib.decDigits m)).length = 1 + dn := by
            unfold bO
            rw [List.length_map, List.length_cons, hdm]
            omega
          rw [e3]
          exact hown3 : w3.ownsRow w.heap.size 5 1 v3 (bO (45 :: Lib.decDigits m)).length (bV (bO (45 :: Lib.decDigits m)))))
        clear hdm
        go_wp2_with (at_builtin; refine wpList_append_rd _ rfl _ _ 61 rfl w.heap.size 5 i0 (.int .u8 0) 1 Tryz.underlying61 hi hz0 hz1 hz2 rfl (.slice (some ⟨wr.heap.size, 0, none⟩) 1 1) 1 [.int .u8 45] rfl HOW.out wr.heap.size A _ c (fun k => .int .u8 (((bO D).getD k 0 : Nat) : Int)) rfl (Rd.alloc HRD.out (Nat.le_refl _) _) HN0.out (fun k => rfl) (by unfold maxLen; omega) (by omega) (by simp; omega) ?_; intro v3 w3 hown3 hg3)
        have HB3 := Lib.hid ((HB.out.alloc hsz _).grown hg3 (by simp; omega) (fun k hk => (HOW.out.lt k hk).1))
        have hcv := run_txt (HEND.out v3 w3 hown3)
        rw [show txt (bO (45 :: Lib.decDigits m)) = tx (45 :: Lib.decDigits m) from txt_tx _] at hcv
        obtain ⟨X, hX⟩ : ∃ X, tx (45 :: Lib.decDigits m) = X := ⟨_, rfl⟩
        have HX := Lib.hid hX
        rw [hX] at hcv
        clear hown3 hg3 hX
        go_wp2_with fail
        rw [hcv]
        simp only [Result.andThen]
        rw [Oper.upon_value]
        go_wp2_with fail
        go_ret
        exact ⟨by rw [HX.out]; rfl, HB3.out⟩
  · have hF : Lib.itoa x = Lib.decDigits m := by unfold Lib.itoa; rw [if_neg hx, hm]; congr 1; omega
    have e3 : x = (m : Int) := by omega
    have e1 : IntKind.u64.wrap (m : Int) = (m : Int) := by rw [u64_wrap]; omega
    rw [hF]
    clear hF hm
    subst e3
    go_enter Tryz.func14, Tryz.ntmps14
    go_wp2_with fail
    go_loopw [4, 3] (fun v z wr => ∃ (u : Nat) (D : List UInt8), z = .int .u64 u ∧ u ≤ m ∧ DI m u D ∧ wr.ownsRow w.heap.size 5 1 v (bO D).length (bV (bO D)) ∧ Below w.heap.size w wr) (fun v z _ => (intOf z).toNat + (if sliceLen v = 0 then 1 else 0))
    case atStart => exact ⟨m, [], rfl, Nat.le_refl _, .inl ⟨rfl, rfl⟩, World.ownsRow_nil _ _ _ _, Below.refl _ _⟩
    case round =>
      obtain ⟨u, D, rfl, hum, hdi, ho, hb⟩ := hrel
      have HDI := Lib.hid hdi
      have hdl := hdi.len HM20.out
      obtain ⟨A, c, rfl, hlc, hcm, hn0⟩ := own_slice ho
      obtain ⟨A', c', hv', hrd⟩ := Rd.bV ho
      injection hv' with e1 e2 e3
      subst e1 e3
      have HO := Lib.hid ho
      have HB := Lib.hid hb
      have HN0 := Lib.hid hn0
      have HRD := Lib.hid hrd
      have hsz := hb.size
      have hbl : (bO D).length = D.length := by simp [bO]
      rw [hbl] at HO hlc HRD HN0
      rw [hbl]
      obtain ⟨dn, hdn⟩ : ∃ dn, D.length = dn := ⟨_, rfl⟩
      rw [hdn] at HO hlc HRD HN0 hdl
      rw [hdn]
      have HDN := Lib.hid hdn
      have hu0 : (0 : Int) ≤ (u : Int) := Int.natCast_nonneg _
      have hd0 : (0 : Int) ≤ (dn : Int) := Int.natCast_nonneg _
      clear hdi ho hb hn0 hrd hbl e2 hdn
      by_cases hg : 0 < u ∨ D = []
      · have HS := Lib.hid (HDI.out.step hg)
        have hways : (0 : Int) < (u : Int) ∨ (¬ (0 : Int) < (u : Int) ∧ dn = 0) := by
          by_cases h : 0 < u
          · exact .inl (by omega)
          · refine .inr ⟨by omega, ?_⟩
            rcases hg with hg | hg
            · exact absurd hg h
            · rw [← HDN.out, hg]; rfl
        have hnat : (UInt8.ofNat (48 + u % 10)).toNat = 48 + u % 10 := ofNat_toNat _ (by omega)
        obtain ⟨r, hr⟩ : ∃ r, u % 10 = r := ⟨_, rfl⟩
        have hr10 : r < 10 := by omega
        have er : (u : Int) % 10 = (r : Int) := by omega
        have er2 : (48 + (r : Int)) % 256 = 48 + (r : Int) := by omega
        obtain ⟨u2, hu2⟩ : ∃ u2, u / 10 = u2 := ⟨_, rfl⟩
        have etd : (u : Int).tdiv 10 = (u2 : Int) := by rw [Int.tdiv_eq_ediv_of_nonneg hu0]; omega
        have etw : IntKind.u64.wrap (u2 : Int) = (u2 : Int) := by rw [u64_wrap]; omega
        rw [hu2] at HS
        have HU2 := Lib.hid hu2
        rw [hr] at hnat HS
        have HNAT := Lib.hid hnat
        have HHG := Lib.hid hg
        clear hnat hr hg hu2
        have HOW := Lib.hid (own_one wr w.heap.size (48 + (r : Int)) hsz)
        have HEND := Lib.hid (fun (v3 : Value) (w3 : World) (hown3 : w3.ownsRow w.heap.size 5 1 v3 (1 + dn) ([.int .u8 (48 + (r : Int))] ++ (List.range dn).map (fun k => .int .u8 (((bO D).getD k 0 : Nat) : Int)))) => (by
          have e1 : (48 + (r : Int)) = ((UInt8.ofNat (48 + r)).toNat : Int) := by rw [HNAT.out]; omega
          have e2 := bO_rd D
          rw [HDN.out] at e2
          rw [e2, e1] at hown3
          have e3 : (bO (UInt8.ofNat (48 + r) :: D)).length = 1 + dn := by
            unfold bO
            rw [List.length_map, List.length_cons, HDN.out]
            omega
          rw [e3]
          exact hown3 : w3.ownsRow w.heap.size 5 1 v3 (bO (UInt8.ofNat (48 + r) :: D)).length (bV (bO (UInt8.ofNat (48 + r) :: D)))))
        rcases hways with hu | ⟨hu, hdz⟩
        · go_wp2_with (at_builtin; refine wpList_append_rd _ rfl _ _ 61 rfl w.heap.size 5 i0 (.int .u8 0) 1 Tryz.underlying61 hi hz0 hz1 hz2 rfl (.slice (some ⟨wr.heap.size, 0, none⟩) 1 1) 1 [.int .u8 (48 + (r : Int))] rfl HOW.out wr.heap.size A _ c (fun k => .int .u8 (((bO D).getD k 0 : Nat) : Int)) rfl (Rd.alloc HRD.out (Nat.le_refl _) _) HN0.out (fun k => rfl) (by unfold maxLen; omega) (by omega) (by simp; omega) ?_; intro v3 w3 hown3 hg3)
          have HO3 := Lib.hid (HEND.out v3 w3 hown3)
          have HB3 := Lib.hid ((HB.out.alloc hsz _).grown hg3 (by simp; omega) (fun k hk => (HOW.out.lt k hk).1))
          obtain ⟨A3, c3, rfl, hc3, hm3, _⟩ := own_slice hown3
          clear hown3 hg3
          go_wp2_with fail
          go_roundw
          case rel => exact ⟨u2, _ :: D, rfl, by have := HU2.out; omega, HS.out, HO3.out, HB3.out⟩
          case measure => have := HU2.out; simp [intOf, sliceLen]; omega
        · obtain rfl : u = 0 := by omega
          obtain rfl : r = 0 := by omega
          obtain rfl : u2 = 0 := by have := HU2.out; omega
          clear etd etw er er2
          subst hdz
          go_wp2_with (at_builtin; refine wpList_append_rd _ rfl _ _ 61 rfl w.heap.size 5 i0 (.int .u8 0) 1 Tryz.underlying61 hi hz0 hz1 hz2 rfl (.slice (some ⟨wr.heap.size, 0, none⟩) 1 1) 1 [.int .u8 48] rfl HOW.out wr.heap.size A _ c (fun k => .int .u8 (((bO D).getD k 0 : Nat) : Int)) rfl (Rd.alloc HRD.out (Nat.le_refl _) _) HN0.out (fun k => rfl) (by unfold maxLen; omega) (by omega) (by simp; omega) ?_; intro v3 w3 hown3 hg3)
          have HO3 := Lib.hid (HEND.out v3 w3 hown3)
          have HB3 := Lib.hid ((HB.out.alloc hsz _).grown hg3 (by simp; omega) (fun k hk => (HOW.out.lt k hk).1))
          obtain ⟨A3, c3, rfl, hc3, hm3, _⟩ := own_slice hown3
          exact ⟨⟨0, _ :: D, rfl, by omega, HS.out, HO3.out, HB3.out⟩, by simp [intOf, sliceLen]⟩
      · have HD := Lib.hid (HDI.out.done hg)
        have hdm : dn = (Lib.decDigits m).length := by rw [← HDN.out, HD.out]
        have hdp : 0 < dn := by
          rw [hdm]
          exact List.length_pos_iff.2 (dec_digits m).2.2
        have hdp2 : ((dn : Int) == 0) = false := by rw [beq_eq_false_iff_ne]; omega
        obtain rfl : u = 0 := by omega
        have ho2 := HO.out
        rw [HD.out, hdm] at ho2
        have hcv := run_txt (l := bO (Lib.decDigits m)) (by
          have e3 : (bO (Lib.decDigits m)).length = (Lib.decDigits m).length := by unfold bO; rw [List.length_map]
          rw [e3]
          exact ho2)
        rw [← hdm, show txt (bO (Lib.decDigits m)) = tx (Lib.decDigits m) from txt_tx _] at hcv
        obtain ⟨X, hX⟩ : ∃ X, tx (Lib.decDigits m) = X := ⟨_, rfl⟩
        have HX := Lib.hid hX
        rw [hX] at hcv
        clear ho2 hX hdm
        go_wp2_with fail
        go_ret
        exact ⟨by rw [HX.out]; rfl, HB.out⟩
end Go.Proofs.YtfignfohcalcfaaGreatDoor

namespace Go.Proofs.YtfignfohcalcfaaGreatDoor
open Go.RowKit
set_option linter.unusedVariables false
set_option linter.unusedSimpArgs false

set_option maxRecDepth 100000 in
set_option maxHeartbeats 3200000 in
theorem one_core (s X : ByteArray) (t : List UInt8) (w : World) (HR : Hid (Calls Tryz.prog 8 #[.string s] w fun e w' => e = .returned (.tuple #[.string X, .int .i64 0]) ∧ Below w.heap.size w w')) (hsz : X.size = t.length + 1) (hem : X.toList.isEmpty = false) (hlast : ∀ (h : t.length < X.size), (X[t.length]'h).toNat = 10) (hex : X.extract 0 t.length = tx t) (ht : t.length ≤ 1000) :
    Calls Tryz.prog 13 #[.string s] w fun e w' => e = .returned (.tuple #[.string (tx t), .bool true]) ∧ Below w.heap.size w w' := by
  have hlt : t.length < X.size := by omega
  have hl2 := hlast hlt
  have hs1 : (X.size : Int) - 1 = (t.length : Int) := by omega
  have hn0 : (0 : Int) ≤ (t.length : Int) := Int.natCast_nonneg _
  have hn1 : (t.length : Int) < (X.size : Int) := by omega
  have hn2 : (t.length : Int) ≤ (X.size : Int) := by omega
  have HN := Lib.hid num0_any
  clear hlast hsz
  go_enter Tryz.func13, Tryz.ntmps13
  go_wp2_with fail
  refine HR.out.mono ?_
  rintro e w1 ⟨rfl, hb⟩
  have HB := Lib.hid hb
  clear hb
  go_wp2_with fail
  refine (HN.out _ _).mono ?_
  rintro e w2 ⟨rfl, rfl⟩
  go_wp2_with fail
  go_ret2
  exact ⟨rfl, HB.out⟩
theorem one_any (s : ByteArray) (t : List UInt8) (w : World) (T : Tabs w) (hF : conF s = (tx (t ++ [10]), 0)) (ht : t.length ≤ 1000) :
    Calls Tryz.prog 13 #[.string s] w fun e w' => e = .returned (.tuple #[.string (tx t), .bool true]) ∧ Below w.heap.size w w' := by
  have hR := run_any s w T
  rw [hF] at hR
  refine one_core s (tx (t ++ [10])) t w (Lib.hid hR) (by rw [tx_size, List.length_append]; rfl) ?_ ?_ ?_ ht
  · rw [ba_toList, data_tx]
    cases t <;> rfl
  · intro h
    have e : (tx (t ++ [10]))[t.length]'h = (t ++ [10])[t.length]'(by simp) := rfl
    rw [e]
    simp
  · rw [← tx_data ((tx (t ++ [10])).extract 0 t.length)]
    congr 1
    simp [tx]
def jnT (l : List Int) (i : Nat) : List UInt8 := Lib.join ((l.take i).map Lib.itoa) [32]
theorem jnT_step (l : List Int) (i : Nat) (h : i < l.length) (h0 : 0 < i) : jnT l (i + 1) = jnT l i ++ [32] ++ Lib.itoa l[i] := by
  cases l with
  | nil => simp at h
  | cons x r =>
    obtain ⟨j, rfl⟩ : ∃ j, i = j + 1 := ⟨i - 1, by omega⟩
    unfold jnT
    simp only [List.take_succ_cons, List.map_cons, List.getElem_cons_succ]
    rw [Lib.join_cons, Lib.join_cons, List.append_assoc, List.append_assoc]
    congr 1
    have hj : j < r.length := by simpa using h
    rw [List.map_take, List.map_take, Lib.joinTail_take_succ [32] (r.map Lib.itoa) j (Lib.itoa r[j]) (by simp [hj])]
    simp
theorem jnT_one (l : List Int) (h : 0 < l.length) : jnT l 1 = Lib.itoa l[0] := by
  cases l with
  | nil => simp at h
  | cons x r =>
    unfold jnT
    simp [Lib.join_one]
theorem jnT_len (l : List Int) (hb : ∀ x ∈ l, I64 x) (i : Nat) (hi : i ≤ 16) : (jnT l i).length ≤ 1000 := by
  unfold jnT
  have h := join_len [32] ((l.take i).map Lib.itoa) 21 (fun z hz => by
    obtain ⟨x, hx, rfl⟩ := List.mem_map.1 hz
    have := hb x (List.mem_of_mem_take hx)
    exact itoaF_size x this.1 this.2)
  rw [List.length_map, List.length_take] at h
  simp only [List.length_cons, List.length_nil] at h
  have h2 : min i l.length * (21 + (0 + 1)) ≤ 16 * 22 := Nat.mul_le_mul (by omega) (by omega)
  omega
set_option maxRecDepth 100000 in
set_option maxHeartbeats 3200000 in
theorem rowd_any (l : List Int) (A : Option Addr) (c : Nat) (w : World) (hl : Ri w w.heap.size A l.length (fun k => l.getD k 0)) (hn : l.length ≤ 16) (hb : ∀ x ∈ l, -1000000000000 ≤ x ∧ x ≤ 1000000000000) :
    Calls Tryz.prog 18 #[.slice A l.length c] w fun e w' => e = .returned (.string (rowF l)) ∧ Below w.heap.size w w' := by
  obtain ⟨N, hN⟩ : ∃ N, N = l.length := ⟨_, rfl⟩
  have hF : rowF l = tx (jnT l l.length) := by unfold rowF jnT; rw [List.take_length]
  have HJ := Lib.hid (jnT_len l (fun x hx => by have := hb x hx; unfold I64; omega))
  rw [hF]
  rw [← hN] at hl hn ⊢
  have HN := Lib.hid hN
  have HL := Lib.hid hl
  have HBD := Lib.hid hb
  clear hl hb hN hF
  go_enter Tryz.func18, Tryz.ntmps18
  go_wp2_with fail
  go_loopw [3, 4] (fun s t wr => ∃ k : Nat, k ≤ N ∧ t = .int .i64 k ∧ s = .string (tx (jnT l k)) ∧ Below w.heap.size w wr) (fun _ t _ => N - (intOf t).toNat)
  case atStart => exact ⟨0, Nat.zero_le _, rfl, rfl, Below.refl _ _⟩
  case round =>
    obtain ⟨k, hk, rfl, rfl, hB⟩ := hrel
    have HB := Lib.hid hB
    clear hB
    have hk0 : (0 : Int) ≤ (k : Int) := Int.natCast_nonneg _
    by_cases hlt : k < N
    · have hk1 : (k : Int) < (N : Int) := by omega
      have hkl : k < l.length := HN.out ▸ hlt
      obtain ⟨ad, rfl, had, hcc⟩ := HL.out.at_ hlt
      have hcw : wr.cell? (ad.add k) = some (.int .i64 (l.getD k 0)) := (HB.out.cell (p := ad.add k) (by rw [block_add]; exact had)).trans hcc
      have hx2 : l.getD k 0 = l[k] := by simp [hkl]
      rw [hx2] at hcw
      have hxb := HBD.out l[k] (List.getElem_mem hkl)
      have HD := Lib.hid (fun w => dec_any l[k] w hxb.1 hxb.2)
      have hil := itoa_len l[k] (by omega) (by omega)
      have hjl := HJ.out k (by omega)
      have hjl2 : ((tx (jnT l k)).size : Int) ≤ 8388608 := by rw [tx_size]; omega
      have hil2 : ((tx (Lib.itoa l[k])).size : Int) ≤ 8388608 := by rw [tx_size]; omega
      by_cases hk2 : 0 < k
      · have hst := jnT_step l k hkl hk2
        obtain ⟨x, hx⟩ : ∃ x, l[k] = x := ⟨_, rfl⟩
        rw [hx] at hcw HD hst hil2
        have hE : tx (jnT l k) ++ (⟨#[32]⟩ : ByteArray) ++ tx (Lib.itoa x) = tx (jnT l (k + 1)) := by
          rw [show (⟨#[32]⟩ : ByteArray) = tx [32] from rfl, tx_app, tx_app, hst]
        obtain ⟨Y, hY⟩ : ∃ Y, tx (jnT l k) ++ (⟨#[32]⟩ : ByteArray) = Y := ⟨_, rfl⟩
        have hYs : (Y.size : Int) ≤ 8388608 := by
          rw [← hY, show (⟨#[32]⟩ : ByteArray) = tx [32] from rfl, tx_app, tx_size, List.length_append]
          simp only [List.length_cons, List.length_nil]
          omega
        rw [hY] at hE
        obtain ⟨Z, hZ⟩ : ∃ Z, tx (jnT l k) = Z := ⟨_, rfl⟩
        rw [hZ] at hY hjl2 ⊢
        have hk3 : (0 : Int) < (k : Int) := by omega
        clear hx hst hil hjl hxb hx2 hcc hkl hZ
        obtain ⟨D, hD⟩ : ∃ D, tx (Lib.itoa x) = D := ⟨_, rfl⟩
        rw [hD] at HD hE hil2
        clear hD
        go_wp2_with fail
        refine (HD.out _).mono ?_
        rintro e w2 ⟨rfl, hb2⟩
        have HB2 := Lib.hid (HB.out.trans (hb2.mono HB.out.size))
        clear hb2
        go_wp2_with fail
        exact ⟨⟨k + 1, by omega, by go_num, rfl, HB2.out⟩, by simp [intOf]; omega⟩
      · obtain rfl : k = 0 := by omega
        have hst := jnT_one l hkl
        have hE : tx (jnT l 0) ++ tx (Lib.itoa l[0]) = tx (jnT l 1) := by
          rw [tx_app, hst]
          rfl
        obtain ⟨Z, hZ⟩ : ∃ Z, tx (jnT l 0) = Z := ⟨_, rfl⟩
        rw [hZ] at hE hjl2 ⊢
        obtain ⟨D, hD⟩ : ∃ D, tx (Lib.itoa l[0]) = D := ⟨_, rfl⟩
        rw [hD] at HD hE hil2
        obtain ⟨x, hx⟩ : ∃ x, l[0] = x := ⟨_, rfl⟩
        rw [hx] at hcw HD
        have had0 : ad.add 0 = ad := by simp [Addr.add]
        rw [had0] at hcw
        clear hst hil hjl hxb hx2 hcc hZ hD hx had0
        go_wp2_with fail
        refine (HD.out _).mono ?_
        rintro e w2 ⟨rfl, hb2⟩
        have HB2 := Lib.hid (HB.out.trans (hb2.mono HB.out.size))
        clear hb2
        go_wp2_with fail
        exact ⟨⟨1, by omega, rfl, rfl, HB2.out⟩, by simp [intOf]; omega⟩
    · obtain rfl : k = N := by omega
      clear hlt
      go_wp2_with fail
      go_ret
      exact ⟨rfl, HB.out⟩
end Go.Proofs.YtfignfohcalcfaaGreatDoor

namespace Go.Proofs.YtfignfohcalcfaaGreatDoor
open Go.RowKit
set_option linter.unusedVariables false
set_option linter.unusedSimpArgs false

set_option maxRecDepth 100000 in
set_option maxHeartbeats 3200000 in
theorem hexd_any (s : ByteArray) (w : World) (hs : s.size ≤ 4000) :
    Calls Tryz.prog 15 #[.string s] w fun e w' => e = .returned (.string (hexF s)) ∧ Below w.heap.size w w' := by
  by_cases h0 : s.size = 0
  · obtain rfl : s = ⟨#[]⟩ := by
      apply ByteArray.ext
      exact Array.eq_empty_of_size_eq_zero h0
    go_enter Tryz.func15, Tryz.ntmps15
    go_wp2_with fail
    go_ret
    exact ⟨rfl, Below.refl _ _⟩
  · obtain ⟨i0, hi, hz0, hz1, hz2⟩ := info_parts u8_info
    obtain ⟨l, hl⟩ : ∃ l, l = bl s := ⟨_, rfl⟩
    have hll : l.length = s.size := by rw [hl]; exact bl_len s
    have hlt : ∀ b ∈ l, b < 256 := by rw [hl]; exact bl_lt s
    have hat : ∀ k (h : k < s.size), (s[k]'h).toNat = l.getD k 0 := fun k h => by rw [List.getD_eq_getElem?_getD, List.getElem?_eq_getElem (by omega)]; subst hl; exact (bl_at s k h).symm
    have hF : hexF s = txt (hexLN l) := hl ▸ hexF_txt s h0
    obtain ⟨F, hF2⟩ : ∃ F, hexF s = F := ⟨_, rfl⟩
    rw [hF2] at hF ⊢
    have he : s.toList.isEmpty = false := by
      rw [ba_toList]
      cases hd : s.data.toList with
      | nil => exact absurd (by rw [Lib.size_eq, hd]; rfl) h0
      | cons x t => rfl
    have HL := Lib.hid hll
    have HLT := Lib.hid hlt
    have HAT := Lib.hid hat
    have HF := Lib.hid hF
    clear hl hll hlt hat h0 hF hF2
    go_enter Tryz.func15, Tryz.ntmps15
    go_wp2_with fail
    clear he
    go_loopw [4, 5] (fun v t wr => ∃ (i : Nat), i ≤ s.size ∧ t = .int .i64 i ∧ wr.ownsRow w.heap.size 5 1 v (hexLN (l.take i)).length (bV (hexLN (l.take i))) ∧ Below w.heap.size w wr) (fun _ t _ => s.size - (intOf t).toNat)
    case atStart => exact ⟨0, Nat.zero_le _, rfl, World.ownsRow_nil _ _ _ _, Below.refl _ _⟩
    case round =>
      obtain ⟨i, hi', rfl, ho, hb⟩ := hrel
      have HB := Lib.hid hb
      have HO := Lib.hid ho
      have hsz := hb.size
      clear ho hb
      by_cases hlt : i < s.size
      · have hil : i < l.length := by have := HL.out; omega
        have hil2 : (i : Int) < (s.size : Int) := by omega
        have hi00 : (0 : Int) ≤ (i : Int) := Int.natCast_nonneg _
        have hg : (s[i]'hlt).toNat = l[i] := (HAT.out i hlt).trans (by rw [List.getD_eq_getElem?_getD, List.getElem?_eq_getElem hil]; rfl)
        have h256 := HLT.out _ (List.getElem_mem hil)
        have htk : l.take (i + 1) = l.take i ++ [l[i]] := by rw [List.take_add_one, List.getElem?_eq_getElem hil]; rfl
        obtain ⟨c, hc⟩ : ∃ c, c = l[i] := ⟨_, rfl⟩
        rw [← hc] at hg h256 htk
        have hsn := hexLN_snoc (l.take i) c
        rw [← htk] at hsn
        have hlen := hexLN_len (l.take i)
        have hlen2 : (hexLN (l.take i)).length ≤ 8000 := by rw [hlen, List.length_take]; omega
        obtain ⟨J, hJ⟩ : ∃ J, hexLN (l.take i) = J := ⟨_, rfl⟩
        rw [hJ] at HO hsn hlen2
        obtain ⟨n, hn⟩ : ∃ n, J.length = n := ⟨_, rfl⟩
        rw [hn] at HO hlen2
        have HNJ := Lib.hid hn
        have HSN := Lib.hid hsn
        have hc0 : (0 : Int) ≤ (c : Int) := Int.natCast_nonneg _
        obtain ⟨p, hp⟩ : ∃ p, c / 16 = p := ⟨_, rfl⟩
        obtain ⟨q, hq⟩ : ∃ q, c % 16 = q := ⟨_, rfl⟩
        have hp16 : p < 16 := by omega
        have hq16 : q < 16 := by omega
        have e1 : (c : Int).tdiv 16 = (p : Int) := by rw [Int.tdiv_eq_ediv_of_nonneg hc0]; omega
        have e2 : (c : Int).tmod 16 = (q : Int) := by rw [Int.tmod_eq_emod_of_nonneg hc0]; omega
        have e3 : IntKind.u8.wrap (p : Int) = (p : Int) := (by decide +kernel : ∀ p : Fin 16, IntKind.u8.wrap (p.val : Int) = (p.val : Int)) ⟨p, hp16⟩
        have e4 : IntKind.u8.wrap (q : Int) = (q : Int) := (by decide +kernel : ∀ p : Fin 16, IntKind.u8.wrap (p.val : Int) = (p.val : Int)) ⟨q, hq16⟩
        have hx1 : ((⟨#[48, 49, 50, 51, 52, 53, 54, 55, 56, 57, 97, 98, 99, 100, 101, 102]⟩ : ByteArray)[p]'hp16).toNat = hexN p := hexS_at p hp16
        have hx2 : ((⟨#[48, 49, 50, 51, 52, 53, 54, 55, 56, 57, 97, 98, 99, 100, 101, 102]⟩ : ByteArray)[q]'hq16).toNat = hexN q := hexS_at q hq16
        have hp0 : (0 : Int) ≤ (p : Int) := Int.natCast_nonneg _
        have hq0 : (0 : Int) ≤ (q : Int) := Int.natCast_nonneg _
        have hp1 : (p : Int) < 16 := by omega
        have hq1 : (q : Int) < 16 := by omega
        rw [hp] at HSN
        rw [hq] at HSN
        clear hc htk hsn hlen hJ hp hq hn
        obtain ⟨a, ha⟩ : ∃ a, hexN p = a := ⟨_, rfl⟩
        obtain ⟨b, hb'⟩ : ∃ b, hexN q = b := ⟨_, rfl⟩
        rw [ha] at hx1 HSN
        rw [hb'] at hx2 HSN
        clear ha hb'
        go_wp2_with fail
        go_region_law (
          (refine step_append_lies _ (by rfl) _ _ 61 (by rfl) w.heap.size 5 i0 (.int .u8 0) 1 1 Tryz.underlying61 hi hz0 hz1 hz2 rfl (by omega) _ n _ (by rfl) ((HO.out.alloc _).drew) ⟨wr.heap.size, 0, none⟩ 2 2 [.int .u8 a, .int .u8 b] (by rfl) (by rfl) (World.news_of_block (cs := #[.int .u8 a, .int .u8 b]) (t := 5) (fr := (0, 0)) (heap_alloc_new wr _)) (by simp [Value.oneCell']) (by omega) (by unfold maxLen; omega) (by omega) (by simp; omega) (wr.heap.size + 1) (by simp) ?_; intro gg cap w6 hown1 hg1 hat hlt1))
        all_goals (
          have HO2 := Lib.hid (show w6.ownsRow w.heap.size 5 1 (.slice (some ⟨gg, 0, none⟩) (n + 2) cap) (hexLN (l.take (i + 1))).length (bV (hexLN (l.take (i + 1)))) by
            rw [HSN.out]
            have e5 : (J ++ [a] ++ [b]).length = n + 2 := by rw [List.length_append, List.length_append, HNJ.out]; rfl
            have e6 : bV (J ++ [a] ++ [b]) = bV J ++ [.int .u8 a, .int .u8 b] := by rw [bV_append, bV_append, List.append_assoc]; rfl
            rw [e5, e6]
            exact hown1)
          have HB2 := Lib.hid (((HB.out.alloc hsz _).drew).grown hg1 (by simp; omega) (fun j hj => (HO.out.lt j hj).1))
          clear hown1 hg1 hat hlt1 HO HB e1 e2 e3 e4 hx1 hx2
          go_wp2_with fail
          go_roundw)
        all_goals first | exact ⟨i + 1, by omega, by go_num, HO2.out, HB2.out⟩ | (simp [intOf]; omega)
      · obtain rfl : i = s.size := by omega
        have ho := HO.out
        rw [List.take_of_length_le (by rw [HL.out]; exact Nat.le_refl _)] at ho
        obtain ⟨A, c, rfl, hlc, hcm, hn0⟩ := own_slice ho
        have hcv := run_txt ho
        rw [← HF.out] at hcv
        clear ho
        go_wp2_with fail
        go_ret
        exact ⟨rfl, HB.out⟩
end Go.Proofs.YtfignfohcalcfaaGreatDoor
