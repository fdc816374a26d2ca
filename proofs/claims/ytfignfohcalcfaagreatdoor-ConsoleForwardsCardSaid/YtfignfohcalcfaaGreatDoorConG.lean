/- xform: clipped. -/
import Derived.Test.YtfignfohcalcfaaGreatDoorConF
import Derived.Test.YtfignfohcalcfaaGreatDoorSetC
namespace Go.Proofs.YtfignfohcalcfaaGreatDoor
open Go.RowKit
set_option linter.unusedVariables false
set_option linter.unusedSimpArgs false

theorem iA_size (l : List Int) : (iA l).size = l.length := by simp [iA]
theorem iA_get {l : List Int} {n j : Nat} (hl : l.length = n) (hj : j < n) : (iA l)[j]? = some (.int .i64 (g16 l j)) := by
  subst hl
  simp [iA, g16, hj]
theorem iA_all (l : List Int) : (iA l).all (·.oneCell') = true := by simp [iA, Value.oneCell']
theorem iA_set (l : List Int) (k : Nat) (x : Int) : (iA l).setIfInBounds k (.int .i64 x) = iA (l.set k x) := by
  simp [iA, List.setIfInBounds_toArray, List.map_set]
theorem g16_ext {l m : List Int} (hl : l.length = m.length) (h : ∀ j, j < l.length → g16 l j = g16 m j) : l = m := by
  refine List.ext_getElem hl fun i h1 h2 => ?_
  have := h i h1
  simpa [g16, h1, h2] using this
theorem g16_set (l : List Int) (k j : Nat) (x : Int) (hk : k < l.length) : g16 (l.set k x) j = if k = j then x else g16 l j := by
  unfold g16
  simp only [List.getD_eq_getElem?_getD, List.getElem?_set]
  by_cases h : k = j
  · subst h; simp [hk]
  · simp [h]
theorem g16_range (n j : Nat) (f : Nat → Int) (hj : j < n) : g16 ((List.range n).map f) j = f j := by simp [g16, hj]
def clL (l : List Int) (k : Nat) : List Int := (List.range 16).map fun j => if j < k then clipN (-1048576) (g16 l j) 1048576 else g16 l j
theorem clL_length (l : List Int) (k : Nat) : (clL l k).length = 16 := by simp [clL]
theorem clL_get (l : List Int) (k : Nat) (hk : k < 16) : g16 (clL l k) k = g16 l k := by
  unfold clL
  rw [g16_range _ _ _ hk, if_neg (by omega)]
theorem clL_set (l : List Int) (k : Nat) (hk : k < 16) : (clL l k).set k (clipN (-1048576) (g16 l k) 1048576) = clL l (k + 1) := by
  refine g16_ext (by rw [List.length_set, clL_length, clL_length]) fun j hj => ?_
  rw [List.length_set, clL_length] at hj
  rw [g16_set _ _ _ _ (by rw [clL_length]; exact hk)]
  unfold clL
  rw [g16_range _ _ _ hj, g16_range _ _ _ hj]
  by_cases h : k = j
  · subst h; rw [if_pos rfl, if_pos (by omega)]
  · rw [if_neg h]
    by_cases h2 : j < k
    · rw [if_pos h2, if_pos (by omega)]
    · rw [if_neg h2, if_neg (by omega)]
theorem clL_zero (l : List Int) (hl : l.length = 16) : clL l 0 = l := by
  refine g16_ext (by rw [clL_length, hl]) fun j hj => ?_
  rw [clL_length] at hj
  unfold clL
  rw [g16_range _ _ _ hj, if_neg (by omega)]
theorem clL_full (l : List Int) (hl : l.length = 16) : clL l 16 = l.map (clipN (-1048576) · 1048576) := by
  refine g16_ext (by rw [clL_length, List.length_map, hl]) fun j hj => ?_
  rw [clL_length] at hj
  unfold clL
  rw [g16_range _ _ _ hj, if_pos (by omega)]
  simp [g16, hl, hj]
def z16 : Array Value := #[.int .i64 0, .int .i64 0, .int .i64 0, .int .i64 0, .int .i64 0, .int .i64 0, .int .i64 0, .int .i64 0, .int .i64 0, .int .i64 0, .int .i64 0, .int .i64 0, .int .i64 0, .int .i64 0, .int .i64 0, .int .i64 0]
theorem arr16_clipped (a : Act) (w : World) (B : Nat) (cs : Array Value) (h2 : a.tmps.getD 2 undef = .pointer (some ⟨B, 0, none⟩)) (hg : Bk w B 38 cs) (hs : cs.size = 16) :
    (results Tryz.f28 a.tmps).run Tryz.prog w = .ok (.agg cs) w := by
  have h2' : a.tmps[2]?.getD undef = .pointer (some ⟨B, 0, none⟩) := by simpa using h2
  have hl := run_loadVar_row (P := Tryz.prog) w B 38 38 cs (0, 0) _ hg Tryz.underlying38 rfl (by rw [hs]; kernel_rfl)
  simp [results, Tryz.results28, h2', asAddr, hl, Sem.run_bind]
set_option maxRecDepth 100000 in
set_option maxHeartbeats 3200000 in
theorem clipped_any (l : List Int) (w : World) (hl : l.length = 16) :
    Calls Tryz.prog 28 #[.agg (iA l)] w fun e w' => e = .returned (.agg (iA (l.map (clipN (-1048576) · 1048576)))) ∧ Below w.heap.size w w' := by
  obtain ⟨m, hm⟩ : ∃ m, l.map (clipN (-1048576) · 1048576) = m := ⟨_, rfl⟩
  rw [hm]
  have hml : m.length = 16 := by rw [← hm, List.length_map, hl]
  have HM := Lib.hid hm
  clear hm
  obtain ⟨r, hr⟩ : ∃ r, w.heap.size = r := ⟨_, rfl⟩
  have k0 := (Bk.new w 38 (iA l)).alloc (.cells z16 38)
  have kz := Bk.new (w.alloc (.cells (iA l) 38)) 38 z16
  rw [World.size_alloc] at kz
  have hb0 : Below w.heap.size w ((w.alloc (.cells (iA l) 38)).alloc (.cells z16 38)) := ((Below.refl _ _).alloc (Nat.le_refl _) _).alloc (by simp) _
  have HS := Lib.hid (And.intro k0 (And.intro kz hb0))
  clear k0 kz hb0
  go_enter Tryz.func28, Tryz.ntmps28
  go_wp2_with fail
  change Code.wp _ _ _ _ ((w.alloc (Obj.cells (iA l) 38)).alloc (Obj.cells z16 38))
  obtain ⟨w0, hw0⟩ : ∃ x, x = (w.alloc (.cells (iA l) 38)).alloc (.cells z16 38) := ⟨_, rfl⟩
  have HS0 := HS.out
  rw [← hw0] at HS0 ⊢
  clear HS hw0
  rw [hr] at HS0
  have HR := Lib.hid hr
  have HS1 := Lib.hid HS0
  clear HS0
  go_loopw [4, 3] (fun i v wr => ∃ k : Nat, k ≤ 16 ∧ i = .int .i64 k ∧ Bk wr r 38 (iA (clL l k)) ∧ Bk wr (r + 1) 38 z16 ∧ Below r w wr) (fun i _ _ => 16 - (intOf i).toNat)
  case atStart => exact ⟨0, Nat.zero_le _, rfl, by rw [clL_zero l hl]; exact HS1.out.1, HS1.out.2.1, HS1.out.2.2⟩
  case round =>
    obtain ⟨k, hk, rfl, hA, hZ, hB⟩ := hrel
    have HA := Lib.hid hA
    have HZ := Lib.hid hZ
    have HBL := Lib.hid hB
    clear hA hZ hB HS1
    by_cases hlt : k < 16
    · have hcc : wr.cell? ⟨r, k, none⟩ = some (.int .i64 (g16 l k)) := by rw [HA.out.cell k, iA_get (clL_length l k) hlt, clL_get l k hlt]
      have hfz := HA.out.frozen k
      have HI := Lib.hid (clip_any (g16 l k) wr)
      have HQ := Lib.hid (clL_set l k hlt)
      obtain ⟨y, hy⟩ : ∃ y, clipN (-1048576) (g16 l k) 1048576 = y := ⟨_, rfl⟩
      rw [hy] at HI HQ
      obtain ⟨x, hx⟩ : ∃ x, g16 l k = x := ⟨_, rfl⟩
      rw [hx] at hcc HI
      clear hy hx
      have hi0 : (0 : Int) ≤ (k : Int) := Int.natCast_nonneg _
      have hi1 : (k : Int) < 16 := by omega
      go_wp2_with fail
      refine HI.out.mono ?_
      rintro e w2 ⟨rfl, rfl⟩
      go_wp2_with fail
      have HA2 := Lib.hid (HA.out.set_ k (.int .i64 y))
      rw [iA_set, HQ.out] at HA2
      have HZ2 := Lib.hid (HZ.out.far (p := ⟨r, k, none⟩) (by simp) (.int .i64 y))
      have HB2 := Lib.hid (HBL.out.setCell (p := ⟨r, k, none⟩) (Nat.le_refl _) (.int .i64 y))
      go_roundw
      case rel => exact ⟨k + 1, by omega, by go_num, HA2.out, HZ2.out, HB2.out⟩
      case measure => simp [intOf]; omega
    · have hk2 : k = 16 := by omega
      subst hk2
      have HA' := HA.out
      rw [clL_full l hl, HM.out] at HA'
      have HA2 := Lib.hid HA'
      clear HA' HA
      go_wp2_with (first | refine wpList_load_row rfl _ _ rfl r rfl 38 (iA m) (0, 0) _ HA2.out Tryz.underlying38 rfl (by rw [iA_size, hml]; kernel_rfl) ?_ | refine wpList_store_row rfl _ _ _ rfl (r + 1) (iA m) rfl rfl _ _ HZ.out (by rw [iA_size, hml]; kernel_rfl) (by rw [iA_size, hml]; rfl) (iA_all m) ?_)
      have hF : Ending.returned (.agg (iA m)) = .returned (.agg (iA m)) ∧ Below w.heap.size w (wr.setRow (r + 1) (iA m)) := by
        rw [HR.out]
        refine ⟨rfl, ?_⟩
        have hsz := HBL.out.size
        exact ⟨HBL.out.os, HBL.out.tape, HBL.out.output, by simp [World.setRow]; exact hsz, fun k hk => (setRow_other _ _ k _ (by omega)).trans (HBL.out.block k hk)⟩
      exact bodyPost_ret (arr16_clipped _ _ (r + 1) (iA m) rfl (bk_setRow HZ.out) (by rw [iA_size, hml])) rfl hF
end Go.Proofs.YtfignfohcalcfaaGreatDoor
