/- May: what it holds on its way; shifts. -/
import Derived.Test.YtjokibagciehlaaGreatHedE
import Derived.Test.YtjokibagciehlaaGreatParF
import Derived.Deep.DeepCutAuto
namespace Go.Proofs.YtjokibagciehlaaGreat
open Go.RowKit
set_option linter.unusedVariables false
set_option linter.unusedSimpArgs false

/-- what May holds on its way -/
structure MayAt (w0 w : World) (h : Hd) (q : Ha) (s : Sp) (A : Option Addr) (c : Nat) (p : Pp) : Prop where
  k1 : Bk w w0.heap.size 26 (hdV h q)
  k2 : Bk w (w0.heap.size + 1) 29 (spV s A c)
  k3 : Bk w (w0.heap.size + 1 + 1) 31 (ppV p)
  hd : HdAt w w.heap.size h q
  sp : SpAt w w.heap.size s A
  below : Below w0.heap.size w0 w
theorem MayAt.go {w0 w w' : World} {h : Hd} {q : Ha} {s : Sp} {A : Option Addr} {c : Nat} {p : Pp} (H : MayAt w0 w h q s A c p) (hb : Below w.heap.size w w') : MayAt w0 w' h q s A c p :=
  ⟨H.k1.go hb, H.k2.go hb, H.k3.go hb, H.hd.go hb, Rd.go H.sp hb, H.below.trans (hb.mono H.below.size)⟩
theorem MayAt.start {w : World} {h : Hd} {q : Ha} {s : Sp} {A : Option Addr} {c : Nat} {p : Pp} (H : HdAt w w.heap.size h q) (hs : SpAt w w.heap.size s A) :
    MayAt w (((w.alloc (.cells (hdV h q) 26)).alloc (.cells (spV s A c) 29)).alloc (.cells (ppV p) 31)) h q s A c p := by
  have b1 := (Below.refl w.heap.size w).alloc (Nat.le_refl _) (.cells (hdV h q) 26)
  have b2 := b1.alloc b1.size (.cells (spV s A c) 29)
  have b3 := b2.alloc b2.size (.cells (ppV p) 31)
  have k2 := (Bk.new (w.alloc (.cells (hdV h q) 26)) 29 (spV s A c)).alloc (.cells (ppV p) 31)
  have k3 := Bk.new ((w.alloc (.cells (hdV h q) 26)).alloc (.cells (spV s A c) 29)) 31 (ppV p)
  rw [World.size_alloc] at k2
  rw [World.size_alloc, World.size_alloc] at k3
  exact ⟨((Bk.new w 26 (hdV h q)).alloc _).alloc _, k2, k3, H.go b3, Rd.go hs b3, b3⟩

theorem two_pow_bd {x : Int} (h : 4 ≤ x ∧ x ≤ 8) : (1 : Int) ≤ 2 ^ x.toNat ∧ (2 : Int) ^ x.toNat ≤ 256 := by
  have hc : x = 4 ∨ x = 5 ∨ x = 6 ∨ x = 7 ∨ x = 8 := by omega
  rcases hc with rfl | rfl | rfl | rfl | rfl <;> decide
theorem run_shl2 {x : Int} (h : 4 ≤ x ∧ x ≤ 8) (w : World) : (Op.shift .shl .i64 1 .i64 x).run Tryz.prog w = .ok (.int .i64 (2 ^ x.toNat)) w := by
  have hc : x = 4 ∨ x = 5 ∨ x = 6 ∨ x = 7 ∨ x = 8 := by omega
  rcases hc with rfl | rfl | rfl | rfl | rfl <;> rfl
theorem run_shl1 {x : Int} (h : 4 ≤ x ∧ x ≤ 8) (w : World) : (binOp .shl 3 (.int .i64 1) (.int .i64 x)).run Tryz.prog w = .ok (.int .i64 (2 ^ x.toNat)) w := run_shl2 h w
end Go.Proofs.YtjokibagciehlaaGreat
