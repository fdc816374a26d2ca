/- bins' maker: tail. -/
import Derived.Test.YtfignfohcalcfaaGreatDoorConN
namespace Go.Proofs.YtfignfohcalcfaaGreatDoor
open Go.RowKit
set_option linter.unusedVariables false
set_option linter.unusedSimpArgs false

theorem w64_in (n : Int) (h : -9223372036854775808 ≤ n ∧ n ≤ 9223372036854775807) : wrap64 n = n := by unfold wrap64; omega
theorem pow_w (k : Nat) (h : k ≤ 17) : wrap64 ((2 : Int) ^ k) = ((2 ^ k : Nat) : Int) := by
  have h1 : ((2 ^ k : Nat) : Int) = (2 : Int) ^ k := by simp
  have h2 : 2 ^ k ≤ 2 ^ 17 := Nat.pow_le_pow_right (by decide) h
  rw [← h1]
  obtain ⟨P, hP⟩ : ∃ P, P = 2 ^ k := ⟨_, rfl⟩
  rw [← hP] at h2 ⊢
  exact w64_in _ (by omega)
theorem bit_at (x j : Nat) : bits .and .i64 ((x : Int) / 2 ^ j) 1 = if x.testBit j = true then 1 else 0 := by
  have h := and_mask ((x : Int) / 2 ^ j) 1 (by omega)
  have e : ((x : Int) / 2 ^ j) = ((x / 2 ^ j : Nat) : Int) := by simp
  rw [e] at h ⊢
  have h2 : bits .and .i64 (((x / 2 ^ j : Nat) : Int)) 1 = (((x / 2 ^ j : Nat) : Int)) % 2 := h
  rw [h2, Nat.testBit_eq_decide_div_mod_eq]
  by_cases hq : x / 2 ^ j % 2 = 1
  · rw [if_pos (by simp [hq])]; omega
  · rw [if_neg (by simp [hq])]; omega
theorem tailU_more {f x k : Nat} (h : 2 ^ k ≤ x) : tailU (f + 1) x k = (98 :: (tailU f (x - 2 ^ k) (k + 1)).1, (tailU f (x - 2 ^ k) (k + 1)).2) := by
  show (if 2 ^ k ≤ x then _ else _) = _
  rw [if_pos h]
theorem tailU_end {f x k : Nat} (h : ¬ 2 ^ k ≤ x) : tailU f x k = ([], x, k) := by
  cases f with
  | zero => rfl
  | succ f => show (if 2 ^ k ≤ x then _ else _) = _; rw [if_neg h]
/-- a tail's ones: what has been made, and what is left -/
structure TU (x0 k0 : Nat) (acc : List UInt8) (x k : Nat) : Prop where
  ex : ∃ f, k + f = k0 + 20 ∧ acc ++ (tailU f x k).1 = (tailU 20 x0 k0).1 ∧ (tailU f x k).2 = (tailU 20 x0 k0).2
  sum : x + 2 ^ k = x0 + 2 ^ k0
  ac : acc.length + k0 = k
theorem TU.start (x k : Nat) : TU x k [] x k := ⟨⟨20, rfl, rfl, rfl⟩, rfl, by simp⟩
theorem TU.le {x0 k0 x k : Nat} {acc : List UInt8} (H : TU x0 k0 acc x k) (hx : x0 ≤ 65535) (hk : k0 ≤ 3) : k ≤ 16 := by
  have h1 := H.sum
  have h2 : 2 ^ k0 ≤ 2 ^ 3 := Nat.pow_le_pow_right (by decide) hk
  rcases Nat.lt_or_ge 16 k with h | h
  · have h3 : 2 ^ 17 ≤ 2 ^ k := Nat.pow_le_pow_right (by decide) h
    omega
  · exact h
theorem TU.next {x0 k0 x k : Nat} {acc : List UInt8} (H : TU x0 k0 acc x k) (hx : x0 ≤ 65535) (hk : k0 ≤ 3) (h : 2 ^ k ≤ x) : TU x0 k0 (acc ++ [98]) (x - 2 ^ k) (k + 1) := by
  have hl := H.le hx hk
  obtain ⟨⟨f, h1, h2, h3⟩, h4, h5⟩ := H
  obtain ⟨f', rfl⟩ : ∃ f', f = f' + 1 := ⟨f - 1, by omega⟩
  rw [tailU_more h] at h2 h3
  refine ⟨⟨f', by omega, by rw [← h2]; simp, h3⟩, by rw [Nat.pow_succ]; omega, by simp; omega⟩
theorem TU.done {x0 k0 x k : Nat} {acc : List UInt8} (H : TU x0 k0 acc x k) (h : ¬ 2 ^ k ≤ x) : tailL x0 k0 = acc ++ (97 :: tailD x k) := by
  obtain ⟨⟨f, h1, h2, h3⟩, _, _⟩ := H
  rw [tailU_end h] at h2 h3
  unfold tailL
  rw [← h2, ← h3, List.append_nil]
set_option maxRecDepth 100000 in
set_option maxHeartbeats 3200000 in
theorem tail_any {base g : Nat} {l : List UInt8} (x0 k0 : Nat) (w : World) (H : MB w base g l) (hbs : base ≤ w.heap.size) (hl : l.length ≤ 1000) (hx : x0 ≤ 65535) (hk : k0 ≤ 3) :
    Calls Tryz.prog 113 #[.pointer (some ⟨g, 0, none⟩), .int .i64 x0, .int .i64 k0] w fun e w' => e = .returned (.tuple #[]) ∧ MB w' base g (l ++ tailL x0 k0) ∧ Below base w w' := by
  have HM0 := Lib.hid H
  have HBS := Lib.hid hbs
  have HX0 := Lib.hid (And.intro hx hk)
  clear H hbs hx hk
  go_enter Tryz.func113, Tryz.ntmps113
  go_wp2_with fail
  go_loopw [1, 2] (fun s1 s2 wr => ∃ (x k : Nat) (acc : List UInt8), s1 = .int .i64 x ∧ s2 = .int .i64 k ∧ TU x0 k0 acc x k ∧ MB wr base g (l ++ acc) ∧ Below base w wr) (fun _ s2 _ => 17 - (intOf s2).toNat)
  case atStart => exact ⟨x0, k0, [], rfl, rfl, TU.start _ _, by rw [List.append_nil]; exact HM0.out, Below.refl _ _⟩
  case round =>
    clear HM0
    obtain ⟨x, k, acc, rfl, rfl, hT, hM, hB⟩ := hrel
    have HM := Lib.hid hM
    have HB := Lib.hid hB
    have HT := Lib.hid hT
    have hk16 := hT.le HX0.out.1 HX0.out.2
    have hac : acc.length ≤ 16 := by have := hT.ac; omega
    have HBW := Lib.hid (Nat.le_trans HBS.out hB.size)
    have HPW := Lib.hid (pow_w k (by omega))
    obtain ⟨P, hP⟩ : ∃ P, 2 ^ k = P := ⟨_, rfl⟩
    have HPE := Lib.hid hP
    rw [hP] at HPW
    clear hT hM hB hP
    have hk0 : (0 : Int) ≤ (k : Int) := Int.natCast_nonneg _
    by_cases hq : P ≤ x
    · have hq2 : (P : Int) ≤ (x : Int) := by omega
      have hq3 : wrap64 ((x : Int) - (P : Int)) = ((x - P : Nat) : Int) := by
        rw [w64_in _ (by have := HT.out.sum; have := HPE.out; have h3 : 2 ^ k0 ≤ 2 ^ 3 := Nat.pow_le_pow_right (by decide) HX0.out.2; have := HX0.out.1; omega)]
        omega
      have HN := Lib.hid (HT.out.next HX0.out.1 HX0.out.2 (HPE.out ▸ hq))
      have HQ3 := Lib.hid hq3
      have HL : Hid ((l ++ acc).length ≤ 100000) := Lib.hid (by simp; omega)
      clear hq3
      have hpw := HPW.out
      go_wp2_with fail
      clear hpw
      refine (byp1 _ HM.out HBW.out HL.out).mono ?_
      rintro e w2 ⟨rfl, hm, hb⟩
      have HM2 := Lib.hid hm
      have HB2 := Lib.hid (HB.out.trans hb)
      clear hm hb
      have hpw := HPW.out
      have hq3 := HQ3.out
      go_wp2_with fail
      clear hpw hq3
      go_roundw
      case rel => exact ⟨x - P, k + 1, acc ++ [98], congrArg (Value.int .i64) HQ3.out, by go_num, HPE.out ▸ HN.out, by rw [← List.append_assoc]; exact HM2.out, HB2.out⟩
      case measure => simp [intOf]; omega
    · have hq2 : ¬ (P : Int) ≤ (x : Int) := by omega
      have HD := Lib.hid (HT.out.done (HPE.out ▸ hq))
      have HL : Hid ((l ++ acc).length ≤ 100000) := Lib.hid (by simp; omega)
      have hpw := HPW.out
      go_wp2_with fail
      clear hpw
      refine (byp0 _ HM.out HBW.out HL.out).mono ?_
      rintro e w2 ⟨rfl, hm, hb⟩
      have HM2 := Lib.hid hm
      have HB2 := Lib.hid (HB.out.trans hb)
      clear hm hb HPW HPE HT HM HB HL
      go_wp2_with fail
      go_loopw [2] (fun s2 wr => ∃ (m : Nat) (dn : List UInt8), s2 = .int .i64 ((m : Int) - 1) ∧ m ≤ 16 ∧ dn.length ≤ 17 ∧ dn.length + m ≤ 17 ∧ MB wr base g ((l ++ acc ++ [97]) ++ dn) ∧ dn ++ tailD x m = tailD x k ∧ Below base w wr) (fun s2 _ => (intOf s2 + 1).toNat)
      case atStart => exact ⟨k, [], rfl, hk16, by simp, by simp; omega, by rw [List.append_nil]; exact HM2.out, rfl, HB2.out⟩
      case round =>
        clear HM2 HB2
        obtain ⟨m, dn, rfl, hm16, hd1, hd2, hM, hdn, hB⟩ := hrel
        have HM := Lib.hid hM
        have HB := Lib.hid hB
        have HDN := Lib.hid hdn
        have HBW2 := Lib.hid (Nat.le_trans HBS.out hB.size)
        clear hM hB hdn
        cases m with
        | zero =>
          go_wp2_with fail
          go_end0
          have e : (l ++ acc ++ [97]) ++ dn = l ++ tailL x0 k0 := by
            rw [HD.out, ← HDN.out]
            simp [tailD]
          exact ⟨rfl, e ▸ HM.out, HB.out⟩
        | succ j =>
          have ej : ((j + 1 : Nat) : Int) - 1 = (j : Int) := by omega
          rw [ej]
          have hj0 : (0 : Int) ≤ (j : Int) := Int.natCast_nonneg _
          have HL : Hid (((l ++ acc ++ [97]) ++ dn).length ≤ 100000) := Lib.hid (by simp; omega)
          have hba := bit_at x j
          have HD2 : Hid (dn ++ ((if x.testBit j = true then 98 else 97) :: tailD x j) = tailD x k) := Lib.hid HDN.out
          cases hb : x.testBit j
          · rw [hb] at hba HD2
            rw [if_neg (by simp)] at hba HD2
            go_wp2_with fail
            refine (byp0 _ HM.out HBW2.out HL.out).mono ?_
            rintro e w3 ⟨rfl, hm, hb⟩
            have HM2 := Lib.hid hm
            have HB2 := Lib.hid (HB.out.trans hb)
            clear hm hb
            go_wp2_with fail
            go_roundw
            case rel => exact ⟨j, dn ++ [97], rfl, by omega, by simp; omega, by simp; omega, by rw [← List.append_assoc]; exact HM2.out, by rw [← HD2.out]; simp, HB2.out⟩
            case measure => simp [intOf]
          · rw [hb] at hba HD2
            rw [if_pos rfl] at hba HD2
            go_wp2_with fail
            refine (byp1 _ HM.out HBW2.out HL.out).mono ?_
            rintro e w3 ⟨rfl, hm, hb⟩
            have HM2 := Lib.hid hm
            have HB2 := Lib.hid (HB.out.trans hb)
            clear hm hb
            go_wp2_with fail
            go_roundw
            case rel => exact ⟨j, dn ++ [98], rfl, by omega, by simp; omega, by simp; omega, by rw [← List.append_assoc]; exact HM2.out, by rw [← HD2.out]; simp, HB2.out⟩
            case measure => simp [intOf]
end Go.Proofs.YtfignfohcalcfaaGreatDoor
