/- May: which headers there are. -/
import Derived.Test.YtjokibagciehlaaHedF1
import Derived.Test.YtjokibagciehlaaHedF4
import Derived.Test.YtjokibagciehlaaHedF6
import Derived.Test.YtjokibagciehlaaHedF8
import Derived.Test.YtjokibagciehlaaHedF10
import Derived.Test.YtjokibagciehlaaHedF12
import Derived.Test.YtjokibagciehlaaHedF14
namespace Go.Proofs.Ytjokibagciehlaa
open Go.RowKit
set_option linter.unusedVariables false

theorem mayhd_any (h : Hd) (q : Ha) (s : Sp) (A : Option Addr) (c : Nat) (p : Pp) (ref : Int) (key : Bool) (w : World) (H : HdAt w w.heap.size h q) (L : HdLen h) (hs : SpAt w w.heap.size s A) (hn : s.cy.length ≤ 1152921504606846976) :
    Calls Try.prog 10 #[.agg (hdV h q), .agg (spV s A c), .agg (ppV p), .int .i64 ref, .bool key] w fun e w' => e = .returned (.bool (mayHd h s p ref key)) ∧ Below w.heap.size w w' := by
  by_cases h0 : maySp s = true ∧ mayPp p = true ∧ inR 0 3 ref = true
  · obtain ⟨e1, e2, e3⟩ := h0
    have hM : mayHd h s p ref key = (r4 h s key && r6 h s key && r8 h s && r10 h p ref key && r12 h p && inR 0 51 h.qp) := by
      unfold mayHd
      rw [e1, e2, e3]
      rfl
    rw [hM]
    obtain ⟨z4, hr4⟩ : ∃ b, r4 h s key = b := ⟨_, rfl⟩
    obtain ⟨z6, hr6⟩ : ∃ b, r6 h s key = b := ⟨_, rfl⟩
    obtain ⟨z8, hr8⟩ : ∃ b, r8 h s = b := ⟨_, rfl⟩
    obtain ⟨z10, hr10⟩ : ∃ b, r10 h p ref key = b := ⟨_, rfl⟩
    obtain ⟨z12, hr12⟩ : ∃ b, r12 h p = b := ⟨_, rfl⟩
    rw [hr4, hr6, hr8, hr10, hr12]
    cases z4
    · exact may_4 h q s A c p ref key w H L hs hn e1 e2 e3 hr4
    cases z6
    · exact may_6 h q s A c p ref key w H L hs hn e1 e2 e3 hr4 hr6
    cases z8
    · exact may_8 h q s A c p ref key w H L hs hn e1 e2 e3 hr4 hr6 hr8
    cases z10
    · exact may_10 h q s A c p ref key w H L hs hn e1 e2 e3 hr4 hr6 hr8 hr10
    cases z12
    · exact may_12 h q s A c p ref key w H L hs hn e1 e2 e3 hr4 hr6 hr8 hr10 hr12
    · exact may_14 h q s A c p ref key w H L hs hn e1 e2 e3 hr4 hr6 hr8 hr10 hr12
  · have hM : mayHd h s p ref key = false := by
      unfold mayHd
      rcases h1 : maySp s with _ | _
      · rfl
      rcases h2 : mayPp p with _ | _
      · rfl
      rcases h3 : inR 0 3 ref with _ | _
      · rfl
      exact absurd ⟨h1, h2, h3⟩ h0
    rw [hM]
    exact may_1 h q s A c p ref key w H L hs hn h0
end Go.Proofs.Ytjokibagciehlaa
