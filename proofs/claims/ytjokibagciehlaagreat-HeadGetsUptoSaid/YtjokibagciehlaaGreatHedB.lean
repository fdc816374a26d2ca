/- mayMods. -/
import Derived.Test.YtjokibagciehlaaGreatHedA
namespace Go.Proofs.YtjokibagciehlaaGreat
open Go.RowKit
set_option linter.unusedVariables false
set_option linter.unusedSimpArgs false

def HIN : Prop := True
theorem all_take {α : Type} (p : α → Bool) (l : List α) (k : Nat) (hk : k < l.length) (h : (l.take k).all p = true) (hp : p l[k] = true) : (l.take (k + 1)).all p = true := by
  rw [List.take_add_one, List.all_append, h, List.getElem?_eq_getElem hk]
  simpa using hp
theorem all_no {α : Type} (p : α → Bool) (l : List α) (k : Nat) (hk : k < l.length) (hp : p l[k] = false) : l.all p = false := by
  rw [← Bool.not_eq_true]
  intro h
  have := List.all_eq_true.1 h l[k] (List.getElem_mem hk)
  rw [hp] at this
  cases this

set_option maxRecDepth 100000 in
set_option maxHeartbeats 3200000 in
theorem maymds_any (l : List Md) (is : Bool) (A : Option Addr) (c : Nat) (w : World) (hl : RwAt w w.heap.size A 2 mdF l) (hn : l.length ≤ 1152921504606846976) :
    Calls Tryz.prog 85 #[.slice A l.length c, .bool is] w fun e w' => e = .returned (.bool (mayMds l is)) ∧ Below w.heap.size w w' := by
  by_cases h16 : l.length ≤ 16
  · have h16' : ¬ (16 : Int) < (l.length : Int) := by omega
    by_cases his : is = true ∨ l.length = 0
    · have hM : mayMds l is = l.all mdOk := by
        unfold mayMds
        rw [decide_eq_true h16]
        rcases his with q | q
        · rw [q]; simp
        · rw [decide_eq_true q]; simp
      have HM := Lib.hid hM
      have HL := Lib.hid hl
      have hcase : is = true ∨ (is = false ∧ l.length = 0) := by
        rcases his with q | q
        · exact .inl q
        · cases is
          · exact .inr ⟨rfl, q⟩
          · exact .inl rfl
      clear hM hl his
      rcases hcase with rfl | ⟨rfl, h0⟩
      · go_enter Tryz.func85, Tryz.ntmps85
        go_wp2_with fail
        go_loopw [21] (fun i wr => ∃ k : Nat, k ≤ l.length ∧ i = .int .i64 k ∧ (l.take k).all mdOk = true ∧ Below w.heap.size w wr) (fun i _ => l.length - (intOf i).toNat)
        case atStart => exact ⟨0, Nat.zero_le _, rfl, by simp, Below.refl _ _⟩
        case round =>
          obtain ⟨k, hk, rfl, hall, hbl⟩ := hrel
          have HA := Lib.hid hall
          have HB := Lib.hid hbl
          clear hall hbl
          by_cases hlt : k < l.length
          · have hlt' : (k : Int) < (l.length : Int) := by omega
            have hk0 : (0 : Int) ≤ (k : Int) := Int.natCast_nonneg _
            obtain ⟨ad, rfl, hab, hc⟩ := (HL.out.below HB.out (Nat.le_refl _)) (by omega)
            obtain ⟨hc0, hcj⟩ := hc k hlt
            have hc1 := hcj 1 (by omega) (by omega)
            obtain ⟨⟨mk, mv⟩, hm⟩ : ∃ m, m = l[k] := ⟨_, rfl⟩
            rw [← hm] at hc0 hc1
            have d0 : wr.cell? (ad.add (k * 2)) = some (.int .i64 mk) := hc0
            have d1 : wr.cell? ⟨(ad.add (k * 2)).block, (ad.add (k * 2)).off + 1, none⟩ = some (.int .i64 mv) := hc1
            have HMM := Lib.hid hm
            have HBA := Lib.hid (HB.out.alloc HB.out.size (.cells #[.int .i64 mk, .int .i64 mv] 113))
            obtain ⟨b0, hb0⟩ : ∃ b, inR 0 2 mk = b := ⟨_, rfl⟩
            obtain ⟨b1, hb1⟩ : ∃ b, inR 0 255 mv = b := ⟨_, rfl⟩
            have HOK := Lib.hid (show mdOk ⟨mk, mv⟩ = (b0 && b1) by unfold mdOk; rw [hb0, hb1])
            have HI0 := Lib.hid (fun w => hb0 ▸ hin_any mk 0 2 w)
            have HI1 := Lib.hid (fun w => hb1 ▸ hin_any mv 0 255 w)
            clear hc0 hc1 hcj hc hm hb0 hb1 hab
            cases b0
            · go_wp2_with (go_at_call 42; first | (with_reducible refine (HI0.out _).mono ?_; rintro e w' ⟨rfl, rfl⟩) | (with_reducible refine (HI1.out _).mono ?_; rintro e w' ⟨rfl, rfl⟩))
              go_ret
              refine ⟨?_, HBA.out⟩
              have hno := all_no mdOk l k hlt (by rw [← HMM.out, HOK.out]; rfl)
              rw [HM.out, hno]
              rfl
            · cases b1
              · go_wp2_with (go_at_call 42; first | (with_reducible refine (HI0.out _).mono ?_; rintro e w' ⟨rfl, rfl⟩) | (with_reducible refine (HI1.out _).mono ?_; rintro e w' ⟨rfl, rfl⟩))
                go_ret
                refine ⟨?_, HBA.out⟩
                have hno := all_no mdOk l k hlt (by rw [← HMM.out, HOK.out]; rfl)
                rw [HM.out, hno]
                rfl
              · go_wp2_with (go_at_call 42; first | (with_reducible refine (HI0.out _).mono ?_; rintro e w' ⟨rfl, rfl⟩) | (with_reducible refine (HI1.out _).mono ?_; rintro e w' ⟨rfl, rfl⟩))
                go_roundw
                case rel =>
                  have hyes := all_take mdOk l k hlt HA.out (by rw [← HMM.out, HOK.out]; rfl)
                  exact ⟨k + 1, by omega, by go_num, hyes, HBA.out⟩
                case measure => simp [intOf]; omega
          · obtain rfl : k = l.length := by omega
            have hnl : ¬ (l.length : Int) < (l.length : Int) := by omega
            go_wp2_with fail
            go_ret
            refine ⟨?_, HB.out⟩
            rw [HM.out]
            have := HA.out
            rw [List.take_length] at this
            rw [this]
            rfl
      · have hM2 : l.all mdOk = true := by
          have : l = [] := List.eq_nil_of_length_eq_zero h0
          rw [this]; rfl
        have HM2 := Lib.hid (HM.out.trans hM2)
        have h0' : (l.length : Int) = 0 := by omega
        clear hM2 h16'
        rw [h0]
        go_enter Tryz.func85, Tryz.ntmps85
        go_wp2_with fail
        refine wp_loop_rounds 1 ?_
        rw [rounds_succ]
        go_wp2_with fail
        go_ret
        exact ⟨by rw [HM2.out]; rfl, Below.refl _ _⟩
    · have h1 : is = false := by cases is; rfl; exact absurd (.inl rfl) his
      subst h1
      have h2 : (0 : Int) < (l.length : Int) := by
        have : ¬ l.length = 0 := fun q => his (.inr q)
        omega
      have hM : mayMds l false = false := by
        unfold mayMds
        rw [show decide (l.length = 0) = false from decide_eq_false (by omega)]
        simp
      rw [hM]
      clear hM his hl
      go_enter Tryz.func85, Tryz.ntmps85
      go_wp2_with fail
      go_ret
      exact ⟨rfl, Below.refl _ _⟩
  · have h16' : (16 : Int) < (l.length : Int) := by omega
    have hM : mayMds l is = false := by
      unfold mayMds
      rw [decide_eq_false h16]
      rfl
    rw [hM]
    clear hM hl h16
    go_enter Tryz.func85, Tryz.ntmps85
    go_wp2_with fail
    go_ret
    exact ⟨rfl, Below.refl _ _⟩
end Go.Proofs.YtjokibagciehlaaGreat
