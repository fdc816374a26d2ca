/- Split: the program's. -/
import Derived.Test.YtndlmhpbnaohpaaNalC
import Derived.Test.YtndlmhpbnaohpaaNalS
import Derived.Test.YtndlmhpbnaohpaaShelf
namespace Go.Proofs.Ytndlmhpbnaohpaa
open Go.RowKit
set_option linter.unusedVariables false
set_option linter.unusedSimpArgs false

theorem str_info : (Try.prog.info? 9).map (fun i => (i.zero, i.size, i.bytes)) = some (some (.string ⟨#[]⟩), 1, 16) := by kernel_rfl
theorem one_str (x : ByteArray) : ∀ u ∈ [Value.string x], u.oneCell' = true := by intro u hu; simp at hu; subst hu; rfl
/-- texts as cells -/
def sV (xs : List (List UInt8)) : List Value := xs.map fun x => .string ⟨x.toArray⟩
theorem sV_append (a b : List (List UInt8)) : sV (a ++ b) = sV a ++ sV b := List.map_append
theorem sV_len (a : List (List UInt8)) : (sV a).length = a.length := List.length_map _
def tB (s : ByteArray) : List UInt8 := s.data.toList
def spL (s : ByteArray) : List (List UInt8) := if st3.isPrefixOf (tB s) = true then splF [] ((tB s).drop 3) else []
def spE (s : ByteArray) : Int := if s.size = 0 then 0 else if st3.isPrefixOf (tB s) = true then 0 else 201
theorem tB_len (s : ByteArray) : (tB s).length = s.size := rfl
theorem tB_from (s : ByteArray) (n : Nat) : tB (s.extract n s.size) = (tB s).drop n := by
  unfold tB
  simp [ByteArray.extract, ByteArray.copySlice]
  exact List.take_of_length_le (by simp)
def strSize : Value → Nat | .string s => s.size | _ => 0

set_option maxRecDepth 100000 in
set_option maxHeartbeats 3200000 in
theorem split0 (s : ByteArray) (m : Int) (w : World) (hs : s.size ≤ 16777216) (hm : w.cell? ⟨0, 0, none⟩ = some (.int .i64 m)) (h0 : 0 < w.heap.size) :
    Calls Try.prog 22 #[.string s] w fun e w' => ∃ v, e = .returned (.tuple #[v, .int .i64 (spE s)]) ∧ w'.ownsRow w.heap.size 9 1 v (spL s).length (sV (spL s)) ∧ Below w.heap.size w w' := by
  obtain ⟨i0, hi, hz0, hz1, hz2⟩ := info_parts str_info
  rcases Nat.eq_zero_or_pos s.size with hz | hz
  · have hse : s = ⟨#[]⟩ := by
      apply ByteArray.ext
      exact Array.eq_empty_of_size_eq_zero hz
    have hq : s.toList.isEmpty = true := by rw [ByteArray.toList_eq, hse]; rfl
    have HL : Hid (spL s = []) := Lib.hid (by rw [hse]; rfl)
    have HE : Hid (spE s = 0) := Lib.hid (if_pos hz)
    clear hse
    go_enter Try.func22, Try.ntmps22
    go_wp2_with fail
    go_ret2
    exact ⟨_, by (rw [HE.out]; rfl), by rw [HL.out]; exact World.ownsRow_nil _ _ _ _, Below.refl _ _⟩
  · have hne : s.toList.isEmpty = false := by
      rw [ByteArray.toList_eq, List.isEmpty_eq_false_iff]
      intro q
      have : s.data.toList.length = 0 := by rw [q]; rfl
      have h3 : s.size = s.data.toList.length := rfl
      omega
    have hH := Try.strings_HasPrefix s ⟨#[0, 0, 1]⟩
    obtain ⟨hp, hhp⟩ : ∃ hp, hp = Lib.hasPrefix s.data.toList [0, 0, 1] := ⟨_, rfl⟩
    rw [← hhp] at hH
    have HH := Lib.hid hH
    clear hH
    have hpp : hp = st3.isPrefixOf (tB s) := hhp
    cases hp with
    | false =>
      have HL : Hid (spL s = []) := Lib.hid (by unfold spL; rw [← hpp]; rfl)
      have HE : Hid (spE s = 201) := Lib.hid (by unfold spE; rw [if_neg (by omega), ← hpp]; rfl)
      clear hpp hhp
      go_enter Try.func22, Try.ntmps22
      go_wp2_with fail
      refine (HH.out _).mono ?_
      rintro e w2 ⟨rfl, rfl⟩
      go_wp2_with fail
      go_ret2
      exact ⟨_, by (rw [HE.out]; rfl), by rw [HL.out]; exact World.ownsRow_nil _ _ _ _, Below.refl _ _⟩
    | true =>
      have HL : Hid (spL s = splF [] ((tB s).drop 3)) := Lib.hid (by unfold spL; rw [← hpp]; rfl)
      have HE : Hid (spE s = 0) := Lib.hid (by unfold spE; rw [if_neg (by omega), ← hpp]; rfl)
      have HP := Lib.hid hpp.symm
      clear hpp hhp
      go_enter Try.func22, Try.ntmps22
      go_wp2_with fail
      refine (HH.out _).mono ?_
      rintro e w2 ⟨rfl, rfl⟩
      go_wp2_with fail
      go_loopw [0, 4, 5] (fun c v b wr => ∃ (r : ByteArray) (xs : List (List UInt8)) (more : Bool), c = .string r ∧ b = .bool more ∧ r.size ≤ s.size ∧ xs.length + r.size ≤ s.size + 1 ∧ (more = true → st3.isPrefixOf (tB r) = true ∧ xs ++ splF [] ((tB r).drop 3) = spL s) ∧ (more = false → xs = spL s) ∧ wr.ownsRow w2.heap.size 9 1 v xs.length (sV xs) ∧ Below w2.heap.size w2 wr) (fun c _ _ _ => strSize c)
      case atStart => exact ⟨s, [], true, rfl, rfl, Nat.le_refl _, by simp, (fun _ => ⟨HP.out, by rw [HL.out]; rfl⟩), (fun h => Bool.noConfusion h), World.ownsRow_nil _ _ _ _, Below.refl _ _⟩
      case round =>
        obtain ⟨r, xs, more, rfl, rfl, hr, hxl, hmt, hmf, ho, hb⟩ := hrel
        have HB := Lib.hid hb
        have HO := Lib.hid ho
        have hsz := hb.size
        have hm2 := (hb.cell (p := ⟨0, 0, none⟩) h0).trans hm
        clear ho hb
        cases more with
        | false =>
          have HX := Lib.hid (hmf rfl)
          clear hmt hmf
          go_wp2_with fail
          go_ret2
          exact ⟨_, by (rw [HE.out]; rfl), by have := HO.out; rw [HX.out] at this; exact this, HB.out⟩
        | true =>
          obtain ⟨hpr, htot⟩ := hmt rfl
          clear hmt hmf
          have h3 : 3 ≤ r.size := by
            have := List.IsPrefix.length_le (List.isPrefixOf_iff_prefix.1 hpr)
            rw [tB_len] at this
            exact this
          obtain ⟨R, hR⟩ : ∃ R, R = r.extract 3 r.size := ⟨_, rfl⟩
          have hRs : R.size = r.size - 3 := by rw [hR]; simp
          have hRl : tB R = (tB r).drop 3 := by rw [hR]; exact tB_from r 3
          have hC := fun W h => Try.strings_Cut R ⟨#[0, 0, 1]⟩ m W (by omega) h
          have hs1 := splF_cut (tB R) []
          have hs2 := cut_more (l := tB R)
          have hs3 := cut_first_len (tB R)
          rw [← hRl] at htot
          have hlp : Lib.cut R.data.toList ([0, 0, 1] : List UInt8) = Lib.cut (tB R) st3 := rfl
          simp only [hlp] at hC
          obtain ⟨u, hu⟩ : ∃ u, u = (Lib.cut (tB R) st3).1 := ⟨_, rfl⟩
          obtain ⟨u2, hu2⟩ : ∃ u2, u2 = (Lib.cut (tB R) st3).2.1 := ⟨_, rfl⟩
          obtain ⟨more, hmo⟩ : ∃ more, more = (Lib.cut (tB R) st3).2.2 := ⟨_, rfl⟩
          rw [← hu, ← hu2, ← hmo] at hs1 hs2 hC
          rw [← hu] at hs3
          rw [hs1] at htot
          rw [tB_len] at hs3
          obtain ⟨U, hU⟩ : ∃ U : ByteArray, U = ⟨u.toArray⟩ := ⟨_, rfl⟩
          have hUs : U.size = u.length := by rw [hU]; rfl
          have hUv : sV [u] = [.string U] := by rw [hU]; rfl
          rw [← hU] at hC
          obtain ⟨U2, hU2⟩ : ∃ U : ByteArray, U = ⟨u2.toArray⟩ := ⟨_, rfl⟩
          rw [← hU2] at hC
          have hnext : more = true → st3.isPrefixOf (tB (R.extract U.size R.size)) = true ∧ (xs ++ [u]) ++ splF [] ((tB (R.extract U.size R.size)).drop 3) = spL s := by
            intro hm
            obtain ⟨g1, g2⟩ := hs2 hm
            rw [tB_from, hUs]
            refine ⟨g1, ?_⟩
            rw [← g2, ← htot, if_pos hm]
            simp
          have hlast : more = false → xs ++ [u] = spL s := by
            intro hm
            rw [← htot, if_neg (by rw [hm]; exact Bool.false_ne_true)]
            simp
          have HN := Lib.hid hnext
          have HLS := Lib.hid hlast
          have HUV := Lib.hid hUv
          have hR' := hR.symm
          have HC := Lib.hid hC
          have hb1 : (3 : Int) ≤ (r.size : Int) := by omega
          have hb2 : (U.size : Int) ≤ (R.size : Int) := by omega
          have hb3 : R.size + 3 = r.size := by omega
          have hxs : xs.length ≤ 16777217 := by omega
          obtain ⟨L, hLL⟩ : ∃ L, L = xs.length := ⟨_, rfl⟩
          have HLL := Lib.hid hLL
          rw [← hLL] at HO hxl hxs
          clear hR hRl hs1 hs2 hs3 htot hlp hu hu2 hmo hU hUs hUv hU2 hnext hlast hC hpr hLL hRs h3
          go_wp2_with fail
          refine (HC.out _ hm2).mono ?_
          rintro e w3 ⟨rfl, n3, rfl⟩
          have HO := Lib.hid (own_drewN HO.out n3)
          have HB : Hid (Below w2.heap.size w2 (wr.drewN n3)) := Lib.hid ⟨HB.out.os, HB.out.tape, HB.out.output, HB.out.size, HB.out.block⟩
          obtain ⟨w4, hw4⟩ : ∃ w4, w4 = wr.drewN n3 := ⟨_, rfl⟩
          have hsz4 : w2.heap.size ≤ w4.heap.size := by rw [hw4]; exact hsz
          rw [← hw4] at HO HB ⊢
          clear hw4 HC hm2
          go_wp2_with (at_builtin; refine wpList_append_own (P := Try.prog) _ rfl (.tmp 21) (.tmp 23) 42 rfl w2.heap.size 9 i0 (.string ⟨#[]⟩) 1 16 Try.underlying42 hi hz0 hz1 hz2 rfl (by decide) _ L _ rfl (HO.out.alloc _) ⟨w4.heap.size, 0, none⟩ 1 1 [.string U] rfl rfl (cells_new _ _ _) (one_str _) (by unfold maxLen; omega) (by omega) (by simp; omega) ?_)
          intro v3 w5 hown3 hg3 _
          have HB := Lib.hid ((HB.out.alloc hsz4 _).grown hg3 (by simp; omega) (fun k hk => (HO.out.lt k hk).1))
          have HO := Lib.hid hown3
          clear hown3 hg3
          go_wp2_with fail
          go_roundw
          case rel => exact ⟨R.extract U.size R.size, xs ++ [u], more, rfl, rfl, by simp; omega, by have := HLL.out; simp; omega, HN.out, HLS.out, by have := HO.out; rw [← HUV.out, ← sV_append, HLL.out] at this; simpa using this, HB.out⟩
          case measure => simp [strSize]; omega
end Go.Proofs.Ytndlmhpbnaohpaa
