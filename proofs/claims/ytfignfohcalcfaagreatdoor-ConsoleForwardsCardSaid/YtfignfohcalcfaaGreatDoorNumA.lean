/- numbers. -/
import Derived.Test.YtfignfohcalcfaaGreatDoorHexC
import Derived.Test.YtfignfohcalcfaaGreatDoorLinB
import Derived.Test.YtfignfohcalcfaaGreatDoorConW
import Derived.Lib.AtoiErrMem
namespace Go.Proofs.YtfignfohcalcfaaGreatDoor
open Go.RowKit
set_option linter.unusedVariables false
set_option linter.unusedSimpArgs false

theorem int_info : (Tryz.prog.info? 3).map (fun i => (i.zero, i.size, i.bytes)) = some (some (.int .i64 0), 1, 8) := by kernel_rfl
theorem one_int (x : Int) : ∀ u ∈ [Value.int .i64 x], u.oneCell' = true := by intro u hu; simp at hu; subst hu; rfl
def iV (l : List Int) : List Value := l.map (Value.int .i64)
theorem iV_app (a b : List Int) : iV (a ++ b) = iV a ++ iV b := List.map_append
theorem iV_len (l : List Int) : (iV l).length = l.length := by simp [iV]
theorem numsF_snoc : ∀ (a : List ByteArray) (x : ByteArray), numsF (a ++ [x]) = (match numsF a, numF x with | some l, some v => some (l ++ [v]) | _, _ => none)
  | [], x => by
    cases h : numF x <;> simp [numsF, h]
  | w :: t, x => by
    have ih := numsF_snoc t x
    rw [List.cons_append, numsF, numsF, ih]
    cases h1 : numF w <;> cases h2 : numsF t <;> cases h3 : numF x <;> simp
theorem numsF_none (a b : List ByteArray) (x : ByteArray) (h : numF x = none) : numsF (a ++ x :: b) = none := by
  induction a with
  | nil => simp [numsF, h]
  | cons w t ih =>
    rw [List.cons_append, numsF, ih]
    cases numF w <;> rfl
theorem numsF_len : ∀ (a : List ByteArray) (l : List Int), numsF a = some l → l.length = a.length
  | [], l, h => by simp [numsF] at h; subst h; rfl
  | w :: t, l, h => by
    rw [numsF] at h
    cases h1 : numF w with
    | none => rw [h1] at h; cases h
    | some v =>
      rw [h1] at h
      cases h2 : numsF t with
      | none => rw [h2] at h; simp at h
      | some m =>
        rw [h2] at h
        simp at h
        subst h
        simp [numsF_len t m h2]
theorem numsF_bd : ∀ (a : List ByteArray) (l : List Int), numsF a = some l → ∀ x ∈ l, -9223372036854775808 ≤ x ∧ x ≤ 9223372036854775807
  | [], l, h => by simp [numsF] at h; subst h; simp
  | w :: t, l, h => by
    rw [numsF] at h
    cases h1 : numF w with
    | none => rw [h1] at h; cases h
    | some v =>
      rw [h1] at h
      cases h2 : numsF t with
      | none => rw [h2] at h; simp at h
      | some m =>
        rw [h2] at h
        simp at h
        subst h
        intro x hx
        rcases List.mem_cons.1 hx with rfl | hx
        · exact numF_bd w _ h1
        · exact numsF_bd t m h2 x hx
theorem range_cut (S : Nat → ByteArray) (k n : Nat) (h : k < n) : ∃ b, (List.range n).map S = (List.range k).map S ++ S k :: b := by
  refine ⟨((List.range n).map S).drop (k + 1), ?_⟩
  have hk : k < ((List.range n).map S).length := by simpa using h
  have h1 : ((List.range n).map S)[k] = S k := by simp
  have h2 := List.drop_eq_getElem_cons hk
  rw [h1] at h2
  have h3 : ((List.range n).map S).take k = (List.range k).map S := by
    apply List.ext_getElem
    · simp; omega
    · intro i h1 h2; simp
  rw [← h2, ← h3, List.take_append_drop]
def numsE (r : Option (List Int)) (b : Nat) (e : Ending) (w' : World) : Prop := match r with
  | none => e = .returned (.tuple #[.slice none 0 0, .bool false])
  | some l => ∃ v, e = .returned (.tuple #[v, .bool true]) ∧ w'.ownsRow b 3 1 v l.length (iV l)
set_option maxRecDepth 100000 in
set_option maxHeartbeats 3200000 in
theorem numbers_any (S : Nat → ByteArray) (A : Option Addr) (n c : Nat) (w : World) (hA : Rd w w.heap.size A n (fun k => .string (S k))) (hn : n ≤ 65536) (hS : ∀ k, (S k).size ≤ 65536) :
    Calls Tryz.prog 36 #[.slice A n c] w fun e w' => numsE (numsF ((List.range n).map S)) w.heap.size e w' ∧ Below w.heap.size w w' := by
  obtain ⟨i0, hi, hz0, hz1, hz2⟩ := info_parts int_info
  obtain ⟨R, hR⟩ : ∃ R, numsF ((List.range n).map S) = R := ⟨_, rfl⟩
  rw [hR]
  have HR := Lib.hid hR
  have HA := Lib.hid hA
  have HS := Lib.hid hS
  clear hA hS hR
  go_enter Tryz.func36, Tryz.ntmps36
  go_wp2_with fail
  go_loopw [13, 4] (fun i v wr => ∃ (k : Nat) (l : List Int), k ≤ n ∧ i = .int .i64 k ∧ numsF ((List.range k).map S) = some l ∧ wr.ownsRow w.heap.size 3 1 v l.length (iV l) ∧ Below w.heap.size w wr) (fun i _ _ => n - (intOf i).toNat)
  case atStart => exact ⟨0, [], Nat.zero_le _, rfl, rfl, World.ownsRow_nil _ _ _ _, Below.refl _ _⟩
  case round =>
    obtain ⟨k, l, hk, rfl, hl, hO, hB⟩ := hrel
    have hll := numsF_len _ _ hl
    simp only [List.length_map, List.length_range] at hll
    have HO := Lib.hid hO
    have HBL := Lib.hid hB
    have HLN := Lib.hid hl
    have hsz := hB.size
    clear hO hB hl
    have hi0 : (0 : Int) ≤ (k : Int) := Int.natCast_nonneg _
    by_cases hlt : k < n
    · have hi1 : (k : Int) < (n : Int) := by omega
      obtain ⟨ad, hae, had, hcc⟩ := HA.out.at_ hlt
      have hcw : wr.cell? (ad.add k) = some (.string (S k)) := (HBL.out.cell (p := ad.add k) (by rw [block_add]; exact had)).trans hcc
      obtain ⟨b, hb⟩ := range_cut S k n hlt
      have hbad : numF (S k) = none → R = none := fun h => by rw [← HR.out, hb]; exact numsF_none _ _ _ h
      have hgood : ∀ v, numF (S k) = some v → numsF ((List.range (k + 1)).map S) = some (l ++ [v]) := fun v h => by
        rw [List.range_succ, List.map_append, List.map_cons, List.map_nil, numsF_snoc, HLN.out, h]
      have hsx := HS.out k
      obtain ⟨x, hx⟩ : ∃ x, S k = x := ⟨_, rfl⟩
      rw [hx] at hcw hbad hgood hsx
      have HBAD := Lib.hid hbad
      have HGOOD := Lib.hid hgood
      clear hbad hgood hb hx hcc
      obtain ⟨d, hd⟩ : ∃ d, Lib.trimPrefix x.data.toList [45] = d := ⟨_, rfl⟩
      have HT := Lib.hid (fun w => Tryz.strings_TrimPrefix x (tx [45]) w)
      obtain ⟨D, hD⟩ : ∃ D, (⟨d.toArray⟩ : ByteArray) = D := ⟨_, rfl⟩
      rw [show (tx [45]).data.toList = [45] from rfl, hd, hD] at HT
      have hDd : D = tx d := hD.symm
      have hds : D.size = d.length := by rw [hDd, tx_size]
      have N1 := Lib.hid (fun h => numF_none1 x (by rw [hd]; exact h))
      have N2 := Lib.hid (fun h => numF_none2 x (by rw [hd]; exact h))
      have NS := Lib.hid (fun h1 h2 => numF_some x (by rw [hd]; exact h1) (by rw [hd]; exact h2))
      have hempty : D.toList.isEmpty = decide (d = []) := by
        rw [hDd, ba_toList, data_tx]
        cases d <;> simp
      have hat : ∀ j (h : j < D.size), (D[j]'h).toNat = (d.getD j 0).toNat := fun j h => by
        subst hDd
        rw [List.getD_eq_getElem?_getD, List.getElem?_eq_getElem (by rw [← tx_size]; exact h)]
        rfl
      have HAT := Lib.hid hat
      have HDS := Lib.hid hds
      subst hae
      clear hat hd hD hDd
      go_wp2_with fail
      refine (HT.out _).mono ?_
      rintro e w2 ⟨rfl, rfl⟩
      by_cases hbad : d = [] ∨ 10 < d.length
      · have HRN := Lib.hid (HBAD.out (N1.out hbad))
        have hw2 : D.toList.isEmpty = true ∨ (D.toList.isEmpty = false ∧ (10 : Int) < (D.size : Int)) := by
          rw [hempty]
          by_cases h : d = []
          · exact .inl (decide_eq_true h)
          · exact .inr ⟨decide_eq_false h, by have := HDS.out; rcases hbad with h2 | h2; exact absurd h2 h; omega⟩
        clear hempty hbad
        rcases hw2 with h1 | ⟨h1, h2⟩
        all_goals
          go_wp2_with fail
          go_ret2
          exact ⟨by rw [HRN.out]; rfl, HBL.out⟩
      · have h1 : D.toList.isEmpty = false := by
          rw [hempty]
          exact decide_eq_false fun e => hbad (.inl e)
        have h2 : ¬ (10 : Int) < (D.size : Int) := by have := HDS.out; omega
        have HNB := Lib.hid hbad
        have hds2 : D.size ≤ 10 := by omega
        clear hempty hbad
        go_upto_region 9 with fail
        go_loopw [28] (fun t wq => ∃ j : Nat, j ≤ D.size ∧ t = .int .i64 j ∧ (∀ q, q < j → 48 ≤ (d.getD q 0).toNat ∧ (d.getD q 0).toNat ≤ 57) ∧ wq = w2) (fun t _ => D.size - (intOf t).toNat)
        case atStart => exact ⟨0, Nat.zero_le _, rfl, fun q hq => absurd hq (by omega), rfl⟩
        case round =>
          obtain ⟨j, hj, rfl, hdg, rfl⟩ := hrel
          have HDG := Lib.hid hdg
          have hj0 : (0 : Int) ≤ (j : Int) := Int.natCast_nonneg _
          clear hdg
          by_cases hjl : j < D.size
          · have hj1 : (j : Int) < (D.size : Int) := by omega
            have hat := HAT.out j hjl
            obtain ⟨y, hy⟩ : ∃ y, (d.getD j 0).toNat = y := ⟨_, rfl⟩
            rw [hy] at hat
            by_cases hok : 48 ≤ y ∧ y ≤ 57
            · have HDG2 : Hid (∀ q, q < j + 1 → 48 ≤ (d.getD q 0).toNat ∧ (d.getD q 0).toNat ≤ 57) := Lib.hid fun q hq => by
                rcases Nat.lt_or_ge q j with h | h
                · exact HDG.out q h
                · obtain rfl : q = j := by omega
                  rw [hy]
                  exact hok
              have o1 : ¬ (y : Int) < 48 := by omega
              have o2 : ¬ (57 : Int) < (y : Int) := by omega
              clear hy hok
              go_wp2_with fail
              go_roundw
              case rel => exact ⟨j + 1, by omega, by go_num, HDG2.out, trivial⟩
              case measure => simp [intOf]; omega
            · have HRN := Lib.hid (HBAD.out (N2.out (fun h => hok (by
                have hjd : j < d.length := by have := HDS.out; omega
                have := List.all_eq_true.1 h d[j] (List.getElem_mem hjd)
                have e : d.getD j 0 = d[j] := by simp [hjd]
                rw [e] at hy
                rw [hy] at this
                simpa using this))))
              have o1 : (y : Int) < 48 ∨ (¬ (y : Int) < 48 ∧ (57 : Int) < (y : Int)) := by omega
              clear hy hok
              rcases o1 with o1 | ⟨o1, o2⟩
              all_goals
                go_wp2_with fail
                go_ret2
                exact ⟨by rw [HRN.out]; rfl, HBL.out⟩
          · obtain rfl : j = D.size := by omega
            obtain ⟨v, hv1, hv2⟩ := NS.out HNB.out (List.all_eq_true.2 fun y hy => by
              obtain ⟨q, hq, rfl⟩ := List.getElem_of_mem hy
              have := HDG.out q (by have := HDS.out; omega)
              have e : d.getD q 0 = d[q] := by simp [hq]
              rw [e] at this
              simp [this])
            have HV := Lib.hid (HGOOD.out v hv2)
            have HATI := Lib.hid (Tryz.strconv_Atoi_ok x (by omega) v hv1)
            clear hv1 hv2
            go_wp2_with fail
            refine (HATI.out _).mono ?_
            rintro e w3 ⟨rfl, hw3⟩
            have hb3 : Below wr.heap.size wr w3 := by
              rcases hw3 with rfl | ⟨t, rfl⟩
              · exact Below.refl _ _
              · exact Lib.bytesWorld_below _ _ _
            have HO3 := Lib.hid (own_go HO.out hb3)
            have HB3 := Lib.hid (HBL.out.trans (hb3.mono HBL.out.size))
            have hsz3 := HB3.out.size
            have hkn := hlt
            rw [hll] at HO3
            clear hw3 hb3 HO HBL
            go_wp2_with (at_builtin; refine wpList_append_own (P := Tryz.prog) _ rfl (.tmp 49) (.tmp 51) 37 rfl w.heap.size 3 i0 (.int .i64 0) 1 8 Tryz.underlying37 hi hz0 hz1 hz2 rfl (by decide) _ k _ rfl (HO3.out.alloc _) ⟨w3.heap.size, 0, none⟩ 1 1 [.int .i64 v] rfl rfl (cells_new _ _ _) (one_int _) (by unfold maxLen; omega) (by omega) (by simp; omega) ?_)
            intro v4 w4 hown4 hg4 _
            have HB4 := Lib.hid ((HB3.out.alloc hsz3 _).grown hg4 (by simp; omega) (fun k hk => (HO3.out.lt k hk).1))
            have HO4 := Lib.hid hown4
            clear hown4 hg4
            go_wp2_with fail
            go_roundw
            case rel => exact ⟨k + 1, l ++ [v], by omega, by go_num, HV.out, by have := HO4.out; rw [iV_app, List.length_append, hll]; exact this, HB4.out⟩
            case measure => simp [intOf]; omega
    · obtain rfl : k = n := by omega
      have HRS : Hid (R = some l) := Lib.hid (by rw [← HR.out, HLN.out])
      clear hlt
      go_wp2_with fail
      go_ret2
      exact ⟨by rw [HRS.out]; exact ⟨_, rfl, HO.out⟩, HBL.out⟩
end Go.Proofs.YtfignfohcalcfaaGreatDoor
