/- A stream that Join made, cut by Split: the units' packs. No function of the program. -/
import Derived.Test.YtndlmhpbnaohpaaNalL
import Derived.Test.YtndlmhpbnaohpaaNalJ
import Derived.Test.YtndlmhpbnaohpaaNalF
import Derived.Test.YtndlmhpbnaohpaaLawB
namespace Go.Proofs.Ytndlmhpbnaohpaa
set_option linter.unusedVariables false

theorem tB_txt (l : List Nat) : tB (txt l) = l.map UInt8.ofNat := by
  unfold tB txt strOfNums
  simp
def packU (r t : Int) (s : ByteArray) : List UInt8 := (packL r t (bl s)).map UInt8.ofNat
theorem packU_txt (r t : Int) (s : ByteArray) : (⟨(packU r t s).toArray⟩ : ByteArray) = txt (packL r t (bl s)) := by
  apply ByteArray.ext
  apply Array.ext'
  have := tB_txt (packL r t (bl s))
  unfold tB at this
  rw [this]
  simp [packU]
theorem packU_noat {r t : Int} {s : ByteArray} (h : fitB r t = true) : NoAt (packU r t s) := by
  refine noat_of _ 0 ?_ (pack_bytes h)
  unfold fitB at h
  rw [decide_eq_true_iff] at h
  unfold packL
  refine ⟨fun q => by omega, ?_⟩
  rw [if_neg (by omega), esc_eq]
  exact esc_nostart (bl s) 0 (by omega)
theorem joinU_append (a b : List (List UInt8)) : joinU (a ++ b) = joinU a ++ joinU b := by simp [joinU]
theorem joinL_U (R T : Nat → Int) (S : Nat → ByteArray) : ∀ n, (joinL R T S n).map UInt8.ofNat = joinU ((List.range n).map fun k => packU (R k) (T k) (S k))
  | 0 => rfl
  | n + 1 => by
    unfold joinL oneL
    simp only [List.range_succ, List.map_append, joinU_append, joinL_U R T S n]
    congr 1
    simp [joinU, packU, st3]
theorem join_cut (R T : Nat → Int) (S : Nat → ByteArray) (n : Nat) (h : jnOk R T n = true) :
    spL (jnS R T S n) = (List.range n).map (fun k => packU (R k) (T k) (S k)) ∧ spE (jnS R T S n) = 0 := by
  have hk := (jnOk_iff R T n).1 h
  have hs : jnS R T S n = txt (joinL R T S n) := if_pos h
  have ht : tB (jnS R T S n) = joinU ((List.range n).map fun k => packU (R k) (T k) (S k)) := by rw [hs, tB_txt, joinL_U]
  have hall : ∀ q ∈ (List.range n).map (fun k => packU (R k) (T k) (S k)), NoAt q := by
    intro q hq
    obtain ⟨k, hk1, rfl⟩ := List.mem_map.1 hq
    exact packU_noat (hk k (List.mem_range.1 hk1))
  rcases Nat.eq_zero_or_pos n with h0 | h0
  · subst h0
    have hz : jnS R T S 0 = txt [] := hs
    rw [hz]
    exact ⟨rfl, rfl⟩
  · obtain ⟨p, r, e⟩ : ∃ p r, (List.range n).map (fun k => packU (R k) (T k) (S k)) = p :: r := by
      cases hc : (List.range n).map (fun k => packU (R k) (T k) (S k)) with
      | nil =>
        have := congrArg List.length hc
        simp at this
        omega
      | cons p r => exact ⟨p, r, rfl⟩
    rw [e] at ht hall ⊢
    have e2 : joinU (p :: r) = st3 ++ (p ++ joinU r) := by simp [joinU]
    rw [e2] at ht
    have hp : st3.isPrefixOf (tB (jnS R T S n)) = true := by rw [ht]; simp [st3, List.isPrefixOf]
    have hsz : (jnS R T S n).size ≠ 0 := by
      rw [← tB_len, ht]
      simp [st3]
    unfold spL spE
    rw [if_pos hp, if_neg hsz, if_pos hp]
    refine ⟨?_, rfl⟩
    have hd : (tB (jnS R T S n)).drop 3 = p ++ joinU r := by rw [ht]; simp [st3]
    rw [hd]
    exact splF_join r p (hall p (List.mem_cons_self ..)) (fun q hq => hall q (List.mem_cons_of_mem _ hq))
theorem tl_txt (b : Nat) (l : List Nat) : tl (txt (b :: l)) = txt l := by
  unfold tl
  apply ByteArray.ext
  rw [ByteArray.data_extract]
  unfold txt strOfNums
  simp
  exact List.take_of_length_le (by simp [ByteArray.size])
theorem up_pack {r t : Int} {s : ByteArray} (h : fitB r t = true) : upV (txt (packL r t (bl s))) = .agg #[.int .i64 r, .int .i64 t, .string s] ∧ upE (txt (packL r t (bl s))) = 0 := by
  have hb := pack_bytes (s := s) h
  unfold fitB at h
  rw [decide_eq_true_iff] at h
  have hf : first (txt (packL r t (bl s))) = (32 * r + t).toNat := by
    unfold first
    rw [bl_txt _ hb]
    rfl
  have ht : tl (txt (packL r t (bl s))) = txt (esc (bl s)) := tl_txt _ _
  have hz : (txt (packL r t (bl s))).size ≠ 0 := by rw [txt_size]; simp [packL]
  have hok : upOk (txt (packL r t (bl s))) = true := by
    unfold upOk
    rw [hf, ht, unOk_esc]
    simp only [Bool.and_true, Bool.and_eq_true, decide_eq_true_iff]
    exact ⟨⟨hz, by omega⟩, by omega⟩
  refine ⟨?_, ?_⟩
  · rw [upV_yes hok, hf, ht, bl_txt _ (esc_bytes _ (bl_lt s)), une_esc, txt_bl]
    have e1 : (((32 * r + t).toNat / 32 : Nat) : Int) = r := by omega
    have e2 : (((32 * r + t).toNat % 32 : Nat) : Int) = t := by omega
    rw [e1, e2]
  · unfold upE
    rw [if_neg hz, if_pos hok]
theorem join_size (R T : Nat → Int) (S : Nat → ByteArray) : ∀ n, 2 * (joinL R T S n).length ≤ 8 * n + 3 * ((List.range n).map fun k => (S k).size).sum
  | 0 => by simp [joinL]
  | n + 1 => by
    have := join_size R T S n
    have h2 := pack_len (R n) (T n) (S n)
    unfold joinL oneL
    simp only [List.length_append, List.length_cons, List.length_nil, List.range_succ, List.map_append, List.sum_append, List.map_cons, List.map_nil, List.sum_cons, List.sum_nil]
    omega
theorem le_sum (f : Nat → Nat) : ∀ n k, k < n → f k ≤ ((List.range n).map f).sum
  | n + 1, k, h => by
    simp only [List.range_succ, List.map_append, List.sum_append, List.map_cons, List.map_nil, List.sum_cons, List.sum_nil]
    by_cases e : k = n
    · subst e; omega
    · have := le_sum f n k (by omega); omega
/-- no start stands within what is escaped, byte by byte -/
theorem esc_at (s : ByteArray) (k : Nat) (h : k + 2 < (esc (bl s)).length) (h0 : (esc (bl s)).getD k 0 = 0) (h1 : (esc (bl s)).getD (k + 1) 0 = 0) : 3 ≤ (esc (bl s)).getD (k + 2) 0 := by
  refine nostart_at _ 0 ?_ k h h0 h1
  rw [esc_eq]
  exact esc_nostart (bl s) 0 (by omega)
end Go.Proofs.Ytndlmhpbnaohpaa
