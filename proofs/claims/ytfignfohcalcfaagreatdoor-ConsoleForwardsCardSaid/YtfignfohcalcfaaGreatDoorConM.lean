/- bins' maker: bypass, ones. -/
import Derived.Test.YtfignfohcalcfaaGreatDoorConL
import Derived.Test.YtfignfohcalcfaaGreatDoorNalA
import Derived.Maps.AppendAt
namespace Go.Proofs.YtfignfohcalcfaaGreatDoor
open Go.RowKit
set_option linter.unusedVariables false
set_option linter.unusedSimpArgs false

def nL (l : List UInt8) : List Nat := l.map UInt8.toNat
theorem nL_app (a b : List UInt8) : nL (a ++ b) = nL a ++ nL b := List.map_append
theorem nL_len (l : List UInt8) : (nL l).length = l.length := by unfold nL; simp
theorem bl_tx (l : List UInt8) : bl (tx l) = nL l := by unfold bl tx nL; simp
theorem txt_nL (l : List UInt8) : txt (nL l) = tx l := by rw [← bl_tx, txt_bl]
/-- a maker of the call's own in block g: what it has made -/
structure MB (w : World) (base g : Nat) (l : List UInt8) : Prop where
  ge : base ≤ g
  box : ∃ v, Bk w g 144 #[v] ∧ w.ownsRow base 5 1 v (nL l).length (bV (nL l)) ∧ v.ownBlock ≠ some g
theorem MB.go {w w' : World} {base g : Nat} {l : List UInt8} (H : MB w base g l) (hb : Below w.heap.size w w') : MB w' base g l := by
  obtain ⟨v, h1, h2, h3⟩ := H.box
  exact ⟨H.ge, v, h1.go hb, own_go h2 hb, h3⟩
/-- one byte more, laid down -/
theorem MB.put {w w5 : World} {base g : Nat} {l : List UInt8} {c : UInt8} {v v3 : Value} {x : Value} (hge : base ≤ g) (h1 : Bk w g 144 #[v]) (h2 : w.ownsRow base 5 1 v (nL l).length (bV (nL l))) (h3 : v.ownBlock ≠ some g) (hx : x = .int .u8 (c.toNat : Int)) {n : Nat} (hn : n = (nL l).length + 1)
    (ho : w5.ownsRow base 5 1 v3 n (bV (nL l) ++ [x])) {o : Obj} (hg : (w.alloc o).grownBy w5 v.ownBlock) (hat : v3.ownBlock ≠ some g) : MB (w5.setCell ⟨g, 0, none⟩ v3) base g (l ++ [c]) ∧ Below base w (w5.setCell ⟨g, 0, none⟩ v3) := by
  subst hn hx
  have hl := h1.lt
  have k5 : Bk w5 g 144 #[v] := (h1.alloc o).grown hg (fun e => h3 e.symm)
  refine ⟨⟨hge, v3, k5.set_ 0 v3, ?_, hat⟩, ?_⟩
  · have e1 : bV (nL (l ++ [c])) = bV (nL l) ++ [.int .u8 (c.toNat : Int)] := by rw [nL_app, bV_append]; rfl
    have e2 : (nL (l ++ [c])).length = (nL l).length + 1 := by rw [nL_app]; simp [nL]
    rw [e1, e2]
    exact own_setFar ho hat v3
  · have hb : Below base w (w.alloc o) := (Below.refl _ _).alloc (by have := h2.lt; omega) o
    exact (hb.grown hg (by simp; omega) (fun k hk => (h2.lt k hk).1)).setCell (p := ⟨g, 0, none⟩) hge _
set_option maxRecDepth 100000 in
set_option maxHeartbeats 1600000 in
theorem byp0 {base g : Nat} {l : List UInt8} (w : World) (H : MB w base g l) (hbs : base ≤ w.heap.size) (hn : l.length ≤ 100000) :
    Calls Tryz.prog 97 #[.pointer (some ⟨g, 0, none⟩), .int .i64 0] w fun e w' => e = .returned (.tuple #[]) ∧ MB w' base g (l ++ [97]) ∧ Below base w w' := by
  obtain ⟨hge, v, h1, h2, h3⟩ := H
  obtain ⟨i0, hi, hz0, hz1, hz2⟩ := info_parts u8_info
  have hn2 : (nL l).length ≤ 100000 := by rw [nL_len]; exact hn
  obtain ⟨L, hL⟩ : ∃ n, n = (nL l).length := ⟨_, rfl⟩
  rw [← hL] at h2 hn2
  have HL := Lib.hid hL
  have HO := Lib.hid h2
  have HK := Lib.hid h1
  have H3 := Lib.hid h3
  have HG := Lib.hid hge
  have HBS := Lib.hid hbs
  have c0 : w.cell? ⟨g, 0, none⟩ = some v := h1.cell 0
  have hlt := h1.lt
  clear h1 h2 h3 hge hbs hL hn
  go_enter Tryz.func97, Tryz.ntmps97
  go_wp2_with (at_builtin; refine wpList_append_own_at (P := Tryz.prog) _ rfl (.tmp 8) (.tmp 12) 61 rfl base 5 i0 (.int .u8 0) 1 1 Tryz.underlying61 hi hz0 hz1 hz2 rfl (by decide) v L (bV (nL l)) rfl (HO.out.alloc _) ⟨w.heap.size, 0, none⟩ 1 1 [.int .u8 97] rfl rfl (cells_new _ _ _) (one_cell _) (by unfold maxLen; omega) (by omega) (by have := HO.out; have := HBS.out; simp; omega) ?_)
  intro v3 w5 hown3 hg3 _ hat
  have hat2 : v3.ownBlock ≠ some g := by
    rcases hat with e | e
    · rw [e]; exact H3.out
    · rw [e]; simp; omega
  have k5 : Bk w5 g 144 #[v] := (HK.out.alloc _).grown hg3 (fun e => H3.out e.symm)
  have HP := Lib.hid (MB.put (c := 97) HG.out HK.out (HL.out ▸ HO.out) H3.out rfl (HL.out ▸ rfl : L + 1 = (nL l).length + 1) hown3 hg3 hat2)
  obtain ⟨A3, c3, hv3, _, _, _⟩ := own_slice hown3
  subst hv3
  have c5 : w5.cell? ⟨g, 0, none⟩ = some v := k5.cell 0
  have f5 := k5.frozen 0
  clear hown3 hg3 hat k5
  go_wp2_with fail
  go_end0
  exact ⟨rfl, HP.out⟩
set_option maxRecDepth 100000 in
set_option maxHeartbeats 1600000 in
theorem byp1 {base g : Nat} {l : List UInt8} (w : World) (H : MB w base g l) (hbs : base ≤ w.heap.size) (hn : l.length ≤ 100000) :
    Calls Tryz.prog 97 #[.pointer (some ⟨g, 0, none⟩), .int .i64 1] w fun e w' => e = .returned (.tuple #[]) ∧ MB w' base g (l ++ [98]) ∧ Below base w w' := by
  obtain ⟨hge, v, h1, h2, h3⟩ := H
  obtain ⟨i0, hi, hz0, hz1, hz2⟩ := info_parts u8_info
  have hn2 : (nL l).length ≤ 100000 := by rw [nL_len]; exact hn
  obtain ⟨L, hL⟩ : ∃ n, n = (nL l).length := ⟨_, rfl⟩
  rw [← hL] at h2 hn2
  have HL := Lib.hid hL
  have HO := Lib.hid h2
  have HK := Lib.hid h1
  have H3 := Lib.hid h3
  have HG := Lib.hid hge
  have HBS := Lib.hid hbs
  have c0 : w.cell? ⟨g, 0, none⟩ = some v := h1.cell 0
  have hlt := h1.lt
  clear h1 h2 h3 hge hbs hL hn
  go_enter Tryz.func97, Tryz.ntmps97
  go_wp2_with (at_builtin; refine wpList_append_own_at (P := Tryz.prog) _ rfl (.tmp 8) (.tmp 12) 61 rfl base 5 i0 (.int .u8 0) 1 1 Tryz.underlying61 hi hz0 hz1 hz2 rfl (by decide) v L (bV (nL l)) rfl (HO.out.alloc _) ⟨w.heap.size, 0, none⟩ 1 1 [.int .u8 98] rfl rfl (cells_new _ _ _) (one_cell _) (by unfold maxLen; omega) (by omega) (by have := HO.out; have := HBS.out; simp; omega) ?_)
  intro v3 w5 hown3 hg3 _ hat
  have hat2 : v3.ownBlock ≠ some g := by
    rcases hat with e | e
    · rw [e]; exact H3.out
    · rw [e]; simp; omega
  have k5 : Bk w5 g 144 #[v] := (HK.out.alloc _).grown hg3 (fun e => H3.out e.symm)
  have HP := Lib.hid (MB.put (c := 98) HG.out HK.out (HL.out ▸ HO.out) H3.out rfl (HL.out ▸ rfl : L + 1 = (nL l).length + 1) hown3 hg3 hat2)
  obtain ⟨A3, c3, hv3, _, _, _⟩ := own_slice hown3
  subst hv3
  have c5 : w5.cell? ⟨g, 0, none⟩ = some v := k5.cell 0
  have f5 := k5.frozen 0
  clear hown3 hg3 hat k5
  go_wp2_with fail
  go_end0
  exact ⟨rfl, HP.out⟩
end Go.Proofs.YtfignfohcalcfaaGreatDoor
