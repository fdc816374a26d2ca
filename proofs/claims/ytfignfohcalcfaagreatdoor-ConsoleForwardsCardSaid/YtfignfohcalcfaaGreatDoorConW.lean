/- The console's row of numbers. -/
import Derived.Test.YtfignfohcalcfaaGreatDoorConB
import Derived.Test.YtfignfohcalcfaaGreatDoorAppend
import Derived.Maps.AppendAt
namespace Go.Proofs.YtfignfohcalcfaaGreatDoor
open Go.RowKit
set_option linter.unusedVariables false
set_option linter.unusedSimpArgs false

theorem str_info : (Tryz.prog.info? 9).map (fun i => (i.zero, i.size, i.bytes)) = some (some (.string ⟨#[]⟩), 1, 16) := by kernel_rfl
def iS (l : List Int) : List Value := l.map fun x => .string (itoaF x)
theorem iS_app (a b : List Int) : iS (a ++ b) = iS a ++ iS b := List.map_append
theorem one_str (s : ByteArray) : ∀ u ∈ [Value.string s], u.oneCell' = true := by intro u hu; simp at hu; subst hu; rfl
theorem join_len (sep : List UInt8) : ∀ (xs : List (List UInt8)) (m : Nat), (∀ x ∈ xs, x.length ≤ m) → (Lib.join xs sep).length ≤ xs.length * (m + sep.length)
  | [], m, _ => by simp [Lib.join, List.intercalate]
  | [x], m, h => by
    have := h x (by simp)
    simp [Lib.join, List.intercalate]
    omega
  | x :: y :: r, m, h => by
    have h1 := h x (by simp)
    have h2 := join_len sep (y :: r) m (fun z hz => h z (by simp [hz]))
    have e : Lib.join (x :: y :: r) sep = x ++ sep ++ Lib.join (y :: r) sep := by simp [Lib.join, List.intercalate, List.intersperse]
    rw [e, List.length_append, List.length_append, List.length_cons, Nat.add_mul]
    omega
set_option maxRecDepth 100000 in
set_option maxHeartbeats 3200000 in
theorem crow_any (l : List Int) (A : Option Addr) (c : Nat) (w : World) (hl : Ri w w.heap.size A l.length (fun k => l.getD k 0)) (h0 : 0 < l.length) (hn : l.length ≤ 100) (hb : ∀ x ∈ l, -9223372036854775808 ≤ x ∧ x ≤ 9223372036854775807) (T : Tabs w) :
    Calls Tryz.prog 57 #[.slice A l.length c] w fun e w' => e = .returned (.string (rowF l)) ∧ Below w.heap.size w w' := by
  obtain ⟨ad, rfl, had, hc⟩ := hl h0
  obtain ⟨i0, hi, hz0, hz1, hz2⟩ := info_parts str_info
  obtain ⟨N, hN⟩ : ∃ N, N = l.length := ⟨_, rfl⟩
  rw [← hN] at h0 hn hc ⊢
  have HN := Lib.hid hN
  have HC := Lib.hid hc
  have HT := Lib.hid T
  have HB := Lib.hid hb
  clear hl T hb hc hN
  go_enter Tryz.func57, Tryz.ntmps57
  go_wp2_with fail
  go_loopw [8, 3] (fun i v wr => ∃ k : Nat, k ≤ N ∧ i = .int .i64 k ∧ wr.ownsRow w.heap.size 9 1 v k (iS (l.take k)) ∧ Below w.heap.size w wr) (fun i _ _ => N - (intOf i).toNat)
  case atStart => exact ⟨0, Nat.zero_le _, rfl, World.ownsRow_nil _ _ _ _, Below.refl _ _⟩
  case round =>
    obtain ⟨k, hk, rfl, hO, hB⟩ := hrel
    have HO := Lib.hid hO
    have HBL := Lib.hid hB
    clear hO hB
    by_cases hlt : k < N
    · obtain ⟨x, hx⟩ : ∃ x, l.getD k 0 = x := ⟨_, rfl⟩
      have hkl : k < l.length := HN.out ▸ hlt
      have hx2 : l[k] = x := by rw [← hx]; simp [hkl]
      have hxb := HB.out x (hx2 ▸ List.getElem_mem hkl)
      have hcc : wr.cell? (ad.add k) = some (.int .i64 x) := (HBL.out.cell (p := ad.add k) (by rw [block_add]; exact had)).trans ((HC.out k hlt).trans (by rw [hx]))
      have HTK : Hid (iS (l.take k) ++ [.string (itoaF x)] = iS (l.take (k + 1))) := Lib.hid (by rw [List.take_add_one, List.getElem?_eq_getElem hkl, hx2, iS_app]; rfl)
      have HI := Lib.hid (itoa_any x wr (HT.out.go HBL.out) hxb.1 hxb.2)
      have hi0 : (0 : Int) ≤ (k : Int) := Int.natCast_nonneg _
      have hi1 : (k : Int) < (N : Int) := by omega
      clear hx hx2 hxb hkl
      go_wp2_with fail
      refine HI.out.mono ?_
      rintro e w2 ⟨rfl, hb⟩
      have HO2 := Lib.hid (own_go HO.out hb)
      have HB2 := Lib.hid (HBL.out.trans (hb.mono HBL.out.size))
      clear hb HI HO HBL hcc
      have hsz := HB2.out.size
      go_wp2_with (at_builtin; refine wpList_append_own (P := Tryz.prog) _ rfl (.tmp 12) (.tmp 15) 42 rfl w.heap.size 9 i0 (.string ⟨#[]⟩) 1 16 Tryz.underlying42 hi hz0 hz1 hz2 rfl (by decide) _ k _ rfl (HO2.out.alloc _) ⟨w2.heap.size, 0, none⟩ 1 1 [.string (itoaF x)] rfl rfl (cells_new _ _ _) (one_str _) (by unfold maxLen; omega) (by omega) (by simp; omega) ?_)
      intro v3 w5 hown3 hg3 _
      rw [HTK.out] at hown3
      have HO5 := Lib.hid hown3
      have HB5 := Lib.hid ((HB2.out.alloc hsz _).grown hg3 (by simp; omega) (fun k hk => (HO2.out.lt k hk).1))
      clear hown3 hg3 hsz
      go_wp2_with fail
      go_roundw
      case rel => exact ⟨k + 1, by omega, by go_num, HO5.out, HB5.out⟩
      case measure => simp [intOf]; omega
    · have hk2 : k = N := by omega
      subst hk2
      obtain ⟨g, cap, hv, h1, h2, h3, h4⟩ := own_form HO.out h0
      subst hv
      obtain ⟨xs, hxs⟩ : ∃ xs, xs = l.map itoaF := ⟨_, rfl⟩
      have hxl : xs.length = k := by rw [hxs, List.length_map, HN.out]
      have hcells : ∀ (j : Nat) x, xs[j]? = some x → wr.cell? ⟨g, 0 + j, none⟩ = some (.string x) := fun j x hj => by
        have hj2 : j < xs.length := (List.getElem?_eq_some_iff.1 hj).1
        have hj3 : j < l.length := by rw [hxs, List.length_map] at hj2; exact hj2
        rw [Nat.zero_add, HO.out.cellAt j (by rw [Nat.mul_one] ; omega)]
        have e : l.take k = l := by rw [HN.out, List.take_length]
        rw [e]
        unfold iS
        rw [hxs] at hj
        simp [hj3] at hj ⊢
        exact hj
      have hlen : (Lib.join (xs.map (·.data.toList)) ([32] : List UInt8)).length ≤ 140737488355328 := by
        have h5 := join_len [32] (xs.map (·.data.toList)) 21 (fun z hz => by
          obtain ⟨y, hy, rfl⟩ := List.mem_map.1 hz
          rw [hxs] at hy
          obtain ⟨q, hq, rfl⟩ := List.mem_map.1 hy
          exact itoaF_size q (HB.out q hq).1 (HB.out q hq).2)
        rw [List.length_map] at h5
        simp only [List.length_cons, List.length_nil] at h5
        omega
      have HJ := Lib.hid (Tryz.strings_Join g 0 cap xs (tx [32]) wr hcells h4 (by omega) (by omega) hlen)
      rw [hxl] at HJ
      have HR : Hid ((⟨(Lib.join (xs.map (·.data.toList)) ([32] : List UInt8)).toArray⟩ : ByteArray) = rowF l) := Lib.hid (by
        unfold rowF tx
        rw [hxs, List.map_map]
        rfl)
      clear hcells hlen hxs hxl HO
      go_wp2_with fail
      refine HJ.out.mono ?_
      rintro e w2 ⟨rfl, hb⟩
      have HB2 := Lib.hid (HBL.out.trans (hb.mono HBL.out.size))
      clear hb HJ
      go_wp2_with fail
      go_ret
      exact ⟨congrArg (fun s => Ending.returned (.string s)) HR.out, HB2.out⟩
end Go.Proofs.YtfignfohcalcfaaGreatDoor
