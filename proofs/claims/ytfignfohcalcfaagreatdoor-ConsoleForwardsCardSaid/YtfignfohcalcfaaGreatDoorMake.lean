/- Arrays of one-cell elements that the call made and writes. No function of the program. -/
import Derived.Test.YtfignfohcalcfaaGreatDoorTouch
import Derived.Laws.MakeOwn
namespace Go.Proofs.YtfignfohcalcfaaGreatDoor
open Go.RowKit
set_option linter.unusedVariables false

/-- Block g holds f 0, f 1, .. in its first n cells; none is frozen. -/
def Ar (w : World) (g n : Nat) (f : Nat → Value) : Prop := (∀ k, k < n → w.cell? ⟨g, k, none⟩ = some (f k)) ∧ (∀ o, w.frozen? ⟨g, o, none⟩ = false) ∧ g < w.heap.size

theorem made_one (z : Value) (hz : z.cells = #[z]) (n : Nat) : madeCells z.cells (n * 1) = Array.replicate n z := by
  rw [hz]
  apply Array.ext
  · simp [size_madeCells]
  · intro i h1 h2
    simp [madeCells, Nat.mod_one]
theorem run_make_one {P : Program} (t e : TypeId) (i : TypeInfo) (z : Value) (ht : P.underlying t = some (.slice e)) (hi : P.info? e = some i) (hz : i.zero = some z) (hs : i.size = 1) (hc : z.cells = #[z])
    (n : Nat) (hb : i.bytes * n ≤ 281474976710656) (hn : n ≤ 9223372036854775807) (w : World) :
    (Instr.makeSlice t (.int .i64 (n : Int)) (.int .i64 (n : Int))).run P w = .ok (.slice (some ⟨w.heap.size, 0, none⟩) n n) (w.alloc (.cells (Array.replicate n z) e)) := by
  have h : ((i.bytes * n : Nat) : Int) ≤ 281474976710656 := by omega
  rw [Int.natCast_mul] at h
  have hr := run_make (P := P) w t e i z ht hi hz .i64 .i64 n n (by omega) (by omega) h (by omega)
  rw [hs] at hr
  simp only [Int.toNat_natCast] at hr
  rw [made_one z hc] at hr
  exact hr

theorem run_make_cap {P : Program} (t e : TypeId) (i : TypeInfo) (z : Value) (ht : P.underlying t = some (.slice e)) (hi : P.info? e = some i) (hz : i.zero = some z) (hs : i.size = 1) (hc : z.cells = #[z])
    (n : Nat) (hb : i.bytes * n ≤ 281474976710656) (hn : n ≤ 9223372036854775807) (w : World) :
    (Instr.makeSlice t (.int .i64 0) (.int .i64 (n : Int))).run P w = .ok (.slice (some ⟨w.heap.size, 0, none⟩) 0 n) (w.alloc (.cells (Array.replicate n z) e)) := by
  have h : ((i.bytes * n : Nat) : Int) ≤ 281474976710656 := by omega
  rw [Int.natCast_mul] at h
  have hr := run_make (P := P) w t e i z ht hi hz .i64 .i64 0 n (by omega) (by omega) h (by omega)
  rw [hs] at hr
  simp only [Int.toNat_natCast] at hr
  rw [made_one z hc] at hr
  exact hr

section
variable {S : Nat → Prop} {w w' : World} {g n : Nat} {f : Nat → Value}
theorem Ar.made (w : World) (e : TypeId) (n : Nat) (z : Value) : Ar (w.alloc (.cells (Array.replicate n z) e)) w.heap.size n (fun _ => z) := by
  refine ⟨fun k hk => ?_, fun o => (Bk.new w e _).frozen o, by simp⟩
  rw [(Bk.new w e _).cell k]
  simp [hk]
theorem Ar.set_ {k : Nat} (h : Ar w g n f) (hk : k < n) (u : Value) : Ar (w.setCell ⟨g, k, none⟩ u) g n (fun j => if j = k then u else f j) := by
  refine ⟨fun j hj => ?_, fun o => ?_, by simpa [World.setCell] using h.2.2⟩
  · by_cases hjk : j = k
    · subst hjk
      show _ = some (if j = j then u else f j)
      rw [if_pos rfl]
      exact World.cell?_setCell_same _ _ _ (h.1 j hj)
    · show _ = some (if j = k then u else f j)
      rw [if_neg hjk]
      exact (World.cell?_setCell_other _ _ _ _ (fun q => hjk (by injection q with _ q _; exact q.symm))).trans (h.1 j hj)
  · rw [World.frozen?_setCell]
    exact h.2.1 o
theorem Ar.far (h : Ar w g n f) {p : Addr} (hp : g ≠ p.block) (u : Value) : Ar (w.setCell p u) g n f :=
  ⟨fun k hk => (World.cell?_of_block (Below.heap_setCell _ _ _ _ hp)).trans (h.1 k hk), fun o => (World.frozen?_of_block (Below.heap_setCell _ _ _ _ hp)).trans (h.2.1 o), by simpa [World.setCell] using h.2.2⟩
theorem Ar.touch (h : Ar w g n f) (ht : Touch S w w') (hs : ¬ S g) : Ar w' g n f :=
  ⟨fun k hk => (World.cell?_of_block (ht.block g h.2.2 hs)).trans (h.1 k hk), fun o => (World.frozen?_of_block (ht.block g h.2.2 hs)).trans (h.2.1 o), Nat.lt_of_lt_of_le h.2.2 ht.size⟩
theorem Ar.go (h : Ar w g n f) (hb : Below w.heap.size w w') : Ar w' g n f := h.touch (Touch.of_new (S := fun _ => False) hb) (fun q => q)
theorem Ar.alloc (h : Ar w g n f) (o : Obj) : Ar (w.alloc o) g n f := h.go ((Below.refl _ _).alloc (Nat.le_refl _) o)
theorem Ar.drew (h : Ar w g n f) : Ar w.drew g n f := h
theorem Ar.drewN (h : Ar w g n f) (k : Nat) : Ar (w.drewN k) g n f := h
theorem Ar.congr {f' : Nat → Value} (h : Ar w g n f) (hf : ∀ k, k < n → f k = f' k) : Ar w g n f' := ⟨fun k hk => (h.1 k hk).trans (by rw [hf k hk]), h.2⟩
theorem Ar.rd (h : Ar w g n f) : Rd w w.heap.size (some ⟨g, 0, none⟩) n f := fun _ => ⟨_, rfl, h.2.2, fun k hk => by rw [add_new]; exact h.1 k hk⟩
end

end Go.Proofs.YtfignfohcalcfaaGreatDoor
