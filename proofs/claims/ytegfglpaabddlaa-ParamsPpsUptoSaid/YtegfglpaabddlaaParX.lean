/- GetSps: every text. -/
import Derived.Test.YtegfglpaabddlaaParU
import Derived.Test.YtegfglpaabddlaaParV
import Derived.Test.YtegfglpaabddlaaParW
namespace Go.Proofs.Ytegfglpaabddlaa
open Go.RowKit
set_option linter.unusedVariables false

theorem getsp_any (s : ByteArray) (w : World) (hs : s.size ≤ 140737488351232) : Calls Try.prog 13 #[.string s] w (GPost (getSp (sbit s) (8 * s.size)) w) := by
  obtain ⟨x0, t1, e0, f1, b0, g1⟩ := (Good.start (f := sbit s) (N := 8 * s.size)).next
  obtain ⟨x1, t2, e1, f2, b1, g2⟩ := g1.next
  obtain ⟨x2, t3, e2, f3, b2, g3⟩ := g2.next
  obtain ⟨x3, t4, e3, f4, b3, g4⟩ := g3.next
  by_cases h0 : x3 = 0
  · exact getsp_0 s w hs x0 x1 x2 x3 t1 t2 t3 t4 e0 f1 e1 f2 e2 f3 e3 f4 b0 b1 b2 g1 g2 g3 g4 h0 _ rfl
  · by_cases h1 : x3 = 1
    · exact getsp_1 s w hs x0 x1 x2 x3 t1 t2 t3 t4 e0 f1 e1 f2 e2 f3 e3 f4 b0 b1 b2 g1 g2 g3 g4 h1 _ rfl
    · exact getsp_2 s w hs x0 x1 x2 x3 t1 t2 t3 t4 e0 f1 e1 f2 e2 f3 e3 f4 b0 b1 b2 g1 g2 g3 g4 ⟨h0, h1⟩ _ rfl
end Go.Proofs.Ytegfglpaabddlaa
