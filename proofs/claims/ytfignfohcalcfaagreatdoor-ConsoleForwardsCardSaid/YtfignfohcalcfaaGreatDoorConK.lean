/- bins' kinds, made once. -/
import Derived.Test.YtfignfohcalcfaaGreatDoorConR
namespace Go.Proofs.YtfignfohcalcfaaGreatDoor
open Go.RowKit
set_option linter.unusedVariables false
set_option linter.unusedSimpArgs false

def kF1 : List Nat := [0, 2, 14, 15, 16, 18, 19]
def kF2 : List Nat := [1, 3, 4, 5, 6, 7, 8, 11, 12]
def kF3 : List Nat := [9, 10, 13]
def fillK (cs : Array Value) (l : List Nat) (v : Int) : Array Value := l.foldl (fun cs e => cs.setIfInBounds (3 + e) (.int .i64 v)) cs
theorem fillK_size (v : Int) : ∀ (l : List Nat) (cs : Array Value), (fillK cs l v).size = cs.size
  | [], cs => rfl
  | e :: l, cs => (fillK_size v l _).trans (by simp)
theorem fillK_next (cs : Array Value) (l : List Nat) (v : Int) (k : Nat) (h : k < l.length) : fillK cs (l.take (k + 1)) v = (fillK cs (l.take k) v).setIfInBounds (3 + l[k]) (.int .i64 v) := by
  unfold fillK
  rw [List.take_add_one, List.getElem?_eq_getElem h, List.foldl_append]
  rfl
/-- on the way of a loop: the kinds, the captured variable, the loop's row -/
structure KL (w0 wr : World) (b c s : Nat) (cs : Array Value) (l : List Nat) (v : Int) (k : Nat) : Prop where
  kb : Bk wr b 140 (fillK cs (l.take k) v)
  kc : Bk wr c 137 #[.pointer (some ⟨b, 0, none⟩)]
  ks : Bk wr s 3 (l.map fun (e : Nat) => Value.int .i64 (e : Int)).toArray
  tch : Touch (fun k => k = b) w0 wr
theorem KL.next {w0 wr : World} {b c s : Nat} {cs : Array Value} {l : List Nat} {v : Int} {k : Nat} (H : KL w0 wr b c s cs l v k) (hc : c ≠ b) (hs : s ≠ b) (h : k < l.length) : KL w0 (wr.setCell ⟨b, 3 + l[k], none⟩ (.int .i64 v)) b c s cs l v (k + 1) :=
  ⟨fillK_next cs l v k h ▸ H.kb.set_ _ _, H.kc.far (p := ⟨b, 3 + l[k], none⟩) hc _, H.ks.far (p := ⟨b, 3 + l[k], none⟩) hs _, H.tch.setCell (p := ⟨b, 3 + l[k], none⟩) (fun _ => rfl) _⟩
theorem KL.start {w : World} {b c : Nat} {cs : Array Value} (l : List Nat) (v : Int) (hb : Bk w b 140 cs) (hc : Bk w c 137 #[.pointer (some ⟨b, 0, none⟩)]) : KL w (w.alloc (.cells (l.map fun (e : Nat) => Value.int .i64 (e : Int)).toArray 3)) b c w.heap.size cs l v 0 := by
  refine ⟨?_, hc.alloc _, Bk.new _ _ _, (Touch.refl _ _).alloc _⟩
  rw [List.take_zero]
  exact hb.alloc _
theorem KL.full {w0 wr : World} {b c s : Nat} {cs : Array Value} {l : List Nat} {v : Int} {k : Nat} (H : KL w0 wr b c s cs l v k) (hk : k = l.length) : Bk wr b 140 (fillK cs l v) := by
  have := H.kb
  rwa [hk, List.take_length] at this
set_option maxRecDepth 100000 in
set_option maxHeartbeats 6400000 in
theorem kinit_any (b c : Nat) (cs : Array Value) (w : World) (hb : Bk w b 140 cs) (hs : cs.size = 23) (hc : Bk w c 137 #[.pointer (some ⟨b, 0, none⟩)]) :
    Calls Tryz.prog 112 #[.pointer (some ⟨c, 0, none⟩)] w fun e w' => e = .returned (.tuple #[]) ∧ Bk w' b 140 ((fillK (fillK (fillK cs kF1 1) kF2 2) kF3 3).setIfInBounds 20 (.int .i64 4)) ∧ Touch (fun k => k = b) w w' := by
  have hne : c ≠ b := Bk.ne_ hc hb (by decide)
  have HB := Lib.hid hb
  have HC := Lib.hid hc
  have HS := Lib.hid hs
  clear hb hc hs
  go_enter Tryz.func112, Tryz.ntmps112
  go_wp2_with fail
  have s1 := HB.out.lt
  have KK1 := Lib.hid (KL.start kF1 1 HB.out HC.out : KL w (w.alloc (.cells (kF1.map fun (e : Nat) => Value.int .i64 (e : Int)).toArray 3)) b c w.heap.size (cs) kF1 1 0)
  obtain ⟨sl1, hsl1⟩ : ∃ x, w.heap.size = x := ⟨_, rfl⟩
  have HN1 : Hid (sl1 ≠ b) := Lib.hid (by omega)
  rw [hsl1] at KK1
  go_loopw [9] (fun i wr => ∃ k : Nat, k ≤ 7 ∧ i = .int .i64 k ∧ KL w wr b c sl1 (cs) kF1 1 k) (fun i _ => 7 - (intOf i).toNat)
  case atStart => exact ⟨0, Nat.zero_le _, rfl, KK1.out⟩
  case round =>
    obtain ⟨k, hk, rfl, hK⟩ := hrel
    have HK := Lib.hid hK
    clear hK KK1
    by_cases hlt : k < 7
    · have hl : k < kF1.length := hlt
      obtain ⟨e, he⟩ : ∃ e, kF1[k] = e := ⟨_, rfl⟩
      have he2 : e < 20 := he ▸ (by decide : ∀ x ∈ kF1, x < 20) _ (List.getElem_mem hl)
      have hx : wr.cell? ⟨sl1, k, none⟩ = some (.int .i64 e) := (HK.out.ks.cell k).trans (by simp [hl, he])
      have hp : wr.cell? ⟨c, 0, none⟩ = some (.pointer (some ⟨b, 0, none⟩)) := HK.out.kc.cell 0
      have hff := HK.out.kb.frozen (3 + e)
      obtain ⟨u, hu⟩ : ∃ u, wr.cell? ⟨b, 3 + e, none⟩ = some u := by
        have hz : (fillK (cs) (kF1.take k) 1).size = 23 := (fillK_size _ _ _).trans HS.out
        rw [HK.out.kb.cell (3 + e), Array.getElem?_eq_getElem (by rw [hz]; omega)]
        exact ⟨_, rfl⟩
      have HX : Hid (KL w (wr.setCell ⟨b, 3 + e, none⟩ (.int .i64 1)) b c sl1 (cs) kF1 1 (k + 1)) := Lib.hid (he ▸ HK.out.next hne HN1.out hl)
      have hi0 : (0 : Int) ≤ (k : Int) := Int.natCast_nonneg _
      have hi1 : (k : Int) < 7 := by omega
      have he0 : (0 : Int) ≤ (e : Int) := Int.natCast_nonneg _
      have he1 : (e : Int) < 20 := by omega
      clear hl he he2
      go_wp2_with fail
      go_roundw
      case rel => exact ⟨k + 1, by omega, by go_num, HX.out⟩
      case measure => simp [intOf]; omega
    · have hk2 : k = 7 := by omega
      subst hk2
      obtain ⟨v1, hv1⟩ : ∃ x, wr = x := ⟨_, rfl⟩
      rw [hv1] at HK ⊢
      have HB1 : Hid (Bk v1 b 140 (fillK (cs) kF1 1)) := Lib.hid (HK.out.full rfl)
      have HC1 := Lib.hid HK.out.kc
      have HT1 := Lib.hid HK.out.tch
      have HS1 : Hid ((fillK (cs) kF1 1).size = 23) := Lib.hid ((fillK_size _ _ _).trans HS.out)
      clear HK hv1 hlt hk HN1 hsl1 s1
      go_wp2_with fail
      have s2 := HB1.out.lt
      have KK2 := Lib.hid (KL.start kF2 2 HB1.out HC1.out : KL v1 (v1.alloc (.cells (kF2.map fun (e : Nat) => Value.int .i64 (e : Int)).toArray 3)) b c v1.heap.size (fillK (cs) kF1 1) kF2 2 0)
      obtain ⟨sl2, hsl2⟩ : ∃ x, v1.heap.size = x := ⟨_, rfl⟩
      have HN2 : Hid (sl2 ≠ b) := Lib.hid (by omega)
      rw [hsl2] at KK2
      go_loopw [21] (fun i wr => ∃ k : Nat, k ≤ 9 ∧ i = .int .i64 k ∧ KL v1 wr b c sl2 (fillK (cs) kF1 1) kF2 2 k) (fun i _ => 9 - (intOf i).toNat)
      case atStart => exact ⟨0, Nat.zero_le _, rfl, KK2.out⟩
      case round =>
        obtain ⟨k, hk, rfl, hK⟩ := hrel
        have HK := Lib.hid hK
        clear hK KK2
        by_cases hlt : k < 9
        · have hl : k < kF2.length := hlt
          obtain ⟨e, he⟩ : ∃ e, kF2[k] = e := ⟨_, rfl⟩
          have he2 : e < 20 := he ▸ (by decide : ∀ x ∈ kF2, x < 20) _ (List.getElem_mem hl)
          have hx : wr.cell? ⟨sl2, k, none⟩ = some (.int .i64 e) := (HK.out.ks.cell k).trans (by simp [hl, he])
          have hp : wr.cell? ⟨c, 0, none⟩ = some (.pointer (some ⟨b, 0, none⟩)) := HK.out.kc.cell 0
          have hff := HK.out.kb.frozen (3 + e)
          obtain ⟨u, hu⟩ : ∃ u, wr.cell? ⟨b, 3 + e, none⟩ = some u := by
            have hz : (fillK (fillK (cs) kF1 1) (kF2.take k) 2).size = 23 := (fillK_size _ _ _).trans HS1.out
            rw [HK.out.kb.cell (3 + e), Array.getElem?_eq_getElem (by rw [hz]; omega)]
            exact ⟨_, rfl⟩
          have HX : Hid (KL v1 (wr.setCell ⟨b, 3 + e, none⟩ (.int .i64 2)) b c sl2 (fillK (cs) kF1 1) kF2 2 (k + 1)) := Lib.hid (he ▸ HK.out.next hne HN2.out hl)
          have hi0 : (0 : Int) ≤ (k : Int) := Int.natCast_nonneg _
          have hi1 : (k : Int) < 9 := by omega
          have he0 : (0 : Int) ≤ (e : Int) := Int.natCast_nonneg _
          have he1 : (e : Int) < 20 := by omega
          clear hl he he2
          go_wp2_with fail
          go_roundw
          case rel => exact ⟨k + 1, by omega, by go_num, HX.out⟩
          case measure => simp [intOf]; omega
        · have hk2 : k = 9 := by omega
          subst hk2
          obtain ⟨v2, hv2⟩ : ∃ x, wr = x := ⟨_, rfl⟩
          rw [hv2] at HK ⊢
          have HB2 : Hid (Bk v2 b 140 (fillK (fillK (cs) kF1 1) kF2 2)) := Lib.hid (HK.out.full rfl)
          have HC2 := Lib.hid HK.out.kc
          have HT2 := Lib.hid HK.out.tch
          have HS2 : Hid ((fillK (fillK (cs) kF1 1) kF2 2).size = 23) := Lib.hid ((fillK_size _ _ _).trans HS1.out)
          clear HK hv2 hlt hk HN2 hsl2 s2
          go_wp2_with fail
          have s3 := HB2.out.lt
          have KK3 := Lib.hid (KL.start kF3 3 HB2.out HC2.out : KL v2 (v2.alloc (.cells (kF3.map fun (e : Nat) => Value.int .i64 (e : Int)).toArray 3)) b c v2.heap.size (fillK (fillK (cs) kF1 1) kF2 2) kF3 3 0)
          obtain ⟨sl3, hsl3⟩ : ∃ x, v2.heap.size = x := ⟨_, rfl⟩
          have HN3 : Hid (sl3 ≠ b) := Lib.hid (by omega)
          rw [hsl3] at KK3
          go_loopw [33] (fun i wr => ∃ k : Nat, k ≤ 3 ∧ i = .int .i64 k ∧ KL v2 wr b c sl3 (fillK (fillK (cs) kF1 1) kF2 2) kF3 3 k) (fun i _ => 3 - (intOf i).toNat)
          case atStart => exact ⟨0, Nat.zero_le _, rfl, KK3.out⟩
          case round =>
            obtain ⟨k, hk, rfl, hK⟩ := hrel
            have HK := Lib.hid hK
            clear hK KK3
            by_cases hlt : k < 3
            · have hl : k < kF3.length := hlt
              obtain ⟨e, he⟩ : ∃ e, kF3[k] = e := ⟨_, rfl⟩
              have he2 : e < 20 := he ▸ (by decide : ∀ x ∈ kF3, x < 20) _ (List.getElem_mem hl)
              have hx : wr.cell? ⟨sl3, k, none⟩ = some (.int .i64 e) := (HK.out.ks.cell k).trans (by simp [hl, he])
              have hp : wr.cell? ⟨c, 0, none⟩ = some (.pointer (some ⟨b, 0, none⟩)) := HK.out.kc.cell 0
              have hff := HK.out.kb.frozen (3 + e)
              obtain ⟨u, hu⟩ : ∃ u, wr.cell? ⟨b, 3 + e, none⟩ = some u := by
                have hz : (fillK (fillK (fillK (cs) kF1 1) kF2 2) (kF3.take k) 3).size = 23 := (fillK_size _ _ _).trans HS2.out
                rw [HK.out.kb.cell (3 + e), Array.getElem?_eq_getElem (by rw [hz]; omega)]
                exact ⟨_, rfl⟩
              have HX : Hid (KL v2 (wr.setCell ⟨b, 3 + e, none⟩ (.int .i64 3)) b c sl3 (fillK (fillK (cs) kF1 1) kF2 2) kF3 3 (k + 1)) := Lib.hid (he ▸ HK.out.next hne HN3.out hl)
              have hi0 : (0 : Int) ≤ (k : Int) := Int.natCast_nonneg _
              have hi1 : (k : Int) < 3 := by omega
              have he0 : (0 : Int) ≤ (e : Int) := Int.natCast_nonneg _
              have he1 : (e : Int) < 20 := by omega
              clear hl he he2
              go_wp2_with fail
              go_roundw
              case rel => exact ⟨k + 1, by omega, by go_num, HX.out⟩
              case measure => simp [intOf]; omega
            · have hk2 : k = 3 := by omega
              subst hk2
              obtain ⟨v3, hv3⟩ : ∃ x, wr = x := ⟨_, rfl⟩
              rw [hv3] at HK ⊢
              have HB3 : Hid (Bk v3 b 140 (fillK (fillK (fillK (cs) kF1 1) kF2 2) kF3 3)) := Lib.hid (HK.out.full rfl)
              have HC3 := Lib.hid HK.out.kc
              have HT3 := Lib.hid HK.out.tch
              have HS3 : Hid ((fillK (fillK (fillK (cs) kF1 1) kF2 2) kF3 3).size = 23) := Lib.hid ((fillK_size _ _ _).trans HS2.out)
              clear HK hv3 hlt hk HN3 hsl3 s3
              have hp : v3.cell? ⟨c, 0, none⟩ = some (.pointer (some ⟨b, 0, none⟩)) := HC3.out.cell 0
              have hff := HB3.out.frozen 20
              obtain ⟨u, hu⟩ : ∃ u, v3.cell? ⟨b, 20, none⟩ = some u := by
                rw [HB3.out.cell 20, Array.getElem?_eq_getElem (by rw [HS3.out]; decide)]
                exact ⟨_, rfl⟩
              go_wp2_with fail
              go_end0
              exact ⟨rfl, HB3.out.set_ 20 _, ((HT1.out.trans HT2.out).trans HT3.out).setCell (p := ⟨b, 20, none⟩) (fun _ => rfl) _⟩
end Go.Proofs.YtfignfohcalcfaaGreatDoor

