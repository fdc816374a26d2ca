/- A stream of units, plainly: cut, it gives the units back. No function of the program. -/
import Derived.Test.YtndlmhpbnaohpaaNalP
import Derived.Test.YtndlmhpbnaohpaaNalS
namespace Go.Proofs.Ytndlmhpbnaohpaa
set_option linter.unusedVariables false

/-- no start stands within -/
def NoAt : List UInt8 → Prop
  | [] => True
  | b :: t => ¬ st3.isPrefixOf (b :: t) = true ∧ NoAt t
theorem noat_head : ∀ (p r : List UInt8), p ≠ [] → ¬ st3.isPrefixOf p = true → ¬ st3.isPrefixOf (p ++ (st3 ++ r)) = true
  | [], r, h, _ => absurd rfl h
  | [b], r, _, h => by simp [st3, List.isPrefixOf]
  | [b, c], r, _, h => by simp [st3, List.isPrefixOf]
  | b :: c :: d :: u, r, _, h => by simpa [st3, List.isPrefixOf] using h
theorem splF_end : ∀ (p cur : List UInt8), NoAt p → splF cur p = [cur ++ p]
  | [], cur, _ => by rw [splF_nil]; simp
  | b :: t, cur, h => by
    rw [splF_no _ _ _ h.1, splF_end t _ h.2]
    simp
theorem splF_app : ∀ (p cur r : List UInt8), NoAt p → splF cur (p ++ (st3 ++ r)) = (cur ++ p) :: splF [] r
  | [], cur, r, _ => by
    rw [List.nil_append, splF_yes _ _ (by simp [st3, List.isPrefixOf])]
    simp [st3]
  | b :: t, cur, r, h => by
    rw [List.cons_append, splF_no _ _ _ (show ¬ st3.isPrefixOf (b :: (t ++ (st3 ++ r))) = true from noat_head (b :: t) r (by simp) h.1), splF_app t _ r h.2]
    simp
/-- units, each behind a start -/
def joinU (ps : List (List UInt8)) : List UInt8 := ps.flatMap fun p => st3 ++ p
theorem splF_join : ∀ (ps : List (List UInt8)) (p : List UInt8), NoAt p → (∀ q ∈ ps, NoAt q) → splF [] (p ++ joinU ps) = p :: ps
  | [], p, h, _ => by simp [joinU, splF_end p [] h]
  | q :: r, p, h, hr => by
    have e : joinU (q :: r) = st3 ++ (q ++ joinU r) := by simp [joinU]
    rw [e, splF_app p [] _ h, splF_join r q (hr q (List.mem_cons_self ..)) (fun x hx => hr x (List.mem_cons_of_mem _ hx))]
    simp
theorem ofNat_zero {b : Nat} (h : b < 256) (e : UInt8.ofNat b = 0) : b = 0 := by
  have := congrArg UInt8.toNat e
  simp at this
  omega
theorem noat_of : ∀ (l : List Nat) (z : Nat), NoStart z l → (∀ b ∈ l, b < 256) → NoAt (l.map UInt8.ofNat)
  | [], z, _, _ => trivial
  | b :: t, z, h, hb => by
    refine ⟨fun hp => ?_, noat_of t _ h.2 fun x hx => hb x (List.mem_cons_of_mem _ hx)⟩
    match t, h, hb, hp with
    | [], h, hb, hp => simp [st3, List.isPrefixOf] at hp
    | [c], h, hb, hp => simp [st3, List.isPrefixOf] at hp
    | c :: d :: u, h, hb, hp =>
      simp only [st3, List.map_cons, List.isPrefixOf, Bool.and_eq_true, beq_iff_eq] at hp
      obtain ⟨h0, h1, h2, _⟩ := hp
      have e0 := ofNat_zero (hb b (by simp)) h0.symm
      have e1 := ofNat_zero (hb c (by simp)) h1.symm
      have hd := hb d (by simp)
      have e2 : d = 1 := by
        have := congrArg UInt8.toNat h2
        simp at this
        omega
      have h3 := nostart_at (b :: c :: d :: u) z h 0 (by simp) (by simpa using e0) (by simpa using e1)
      simp at h3
      omega
end Go.Proofs.Ytndlmhpbnaohpaa
