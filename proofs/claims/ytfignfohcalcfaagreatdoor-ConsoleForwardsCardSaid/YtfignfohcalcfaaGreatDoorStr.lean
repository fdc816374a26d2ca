/- string(b) of a slice of bytes that is read, nil too. No function of the program. -/
import Derived.Test.YtfignfohcalcfaaGreatDoorSlice
import Derived.Laws.BytesArg
namespace Go.Proofs.YtfignfohcalcfaaGreatDoor
open Go.RowKit
set_option linter.unusedVariables false

theorem run_str {P : Program} {w : World} {src dst e : TypeId} (hs : P.underlying src = some (.slice e)) (he : P.underlying e = some (.int .u8)) (hd : P.underlying dst = some .string) {B : Nat} {A : Option Addr} {n c : Nat} {s : Nat → Int}
    (h : Rd w B A n fun k => .int .u8 (s k)) : (convert src dst (.slice A n c)).run P w = .ok (.string (strOfNums ((List.range n).map s))) w := by
  rcases A with _ | ad
  · have hn : n = 0 := by
      rcases Nat.eq_zero_or_pos n with h0 | h0
      · exact h0
      · obtain ⟨_, q, _⟩ := h h0
        cases q
    subst hn
    exact run_convert_bytes_nil w src e hs he 0 c dst hd
  · have hl : (loadCells ad n).run P w = .ok (((List.range n).map s).map (Value.int .u8)).toArray w := by
      have := run_loadCells_list (P := P) w ad (((List.range n).map s).map (Value.int .u8)) (fun j v hj => by
        have hjn : j < n := by
          have := (List.getElem?_eq_some_iff.1 hj).1
          simpa using this
        obtain ⟨ad', q, _, hc⟩ := h (by omega)
        obtain rfl : ad = ad' := by injection q
        rw [hc j hjn]
        simp [hjn] at hj
        rw [← hj])
      simpa using this
    rw [run_convert_bytes_string w src dst e _ n c hs he hd, run_bytesToString w ad n c _ hl, foldl_push_bytes]
    simp [strOfNums, ByteArray.empty, ByteArray.emptyWithCapacity]
    rfl

end Go.Proofs.YtfignfohcalcfaaGreatDoor
