/- Writers and Readers that a call made: step by step. -/
import Derived.Test.YtjokibagciehlaaGreatBitX
import Derived.Test.YtjokibagciehlaaGreatBitE
namespace Go.Proofs.YtjokibagciehlaaGreat
open Go.RowKit
set_option linter.unusedVariables false
set_option linter.unusedSimpArgs false

/-- a Writer that was made since w0; nothing else of w0 is turned -/
def WStep (w0 w1 : World) (g : Nat) (v : Value) (b : List Bool) (M : Nat) : Prop := Wr w1 w0.heap.size g v b ∧ w0.heap.size ≤ g ∧ Below w0.heap.size w0 w1 ∧ b.length ≤ M

theorem Wr.ws {w : World} {base g : Nat} {v : Value} {b : List Bool} (h : Wr w base g v b) (hg : base ≤ g) {k : Nat} (hk : WS g v k) : base ≤ k := by
  obtain ⟨c, hk', ho⟩ := h
  rcases hk with rfl | hk
  · exact hg
  · exact (ho.lt k hk).1
theorem WStep.put {w0 w1 w2 : World} {g : Nat} {v : Value} {b b' : List Bool} {M : Nat} (h : WStep w0 w1 g v b M) (k : PutPost w1 w0.heap.size g v b' w2) {M' : Nat} (hM : b'.length ≤ M') : ∃ v', WStep w0 w2 g v' b' M' := by
  obtain ⟨v', hw, ht, hn⟩ := k
  exact ⟨v', hw, h.2.1, Below.touch h.2.2.1 ht (fun i hi hs => by have := h.1.ws h.2.1 hs; omega) (Nat.le_refl _), hM⟩
theorem WStep.new (w : World) : WStep w (w.alloc (.cells #[.slice none 0 0, .int .i64 0, .int .i64 0] 75)) w.heap.size (.slice none 0 0) [] 0 :=
  ⟨Wr.new w _, Nat.le_refl _, (Below.refl _ _).alloc (Nat.le_refl _) _, Nat.le_refl _⟩
/-- seen from an earlier world -/
theorem WStep.from {w w0 w1 : World} {g : Nat} {v : Value} {b : List Bool} {M : Nat} (h : WStep w0 w1 g v b M) (hb : Below w.heap.size w w0) : Below w.heap.size w w1 := hb.trans (h.2.2.1.mono hb.size)
/-- what lay there when the Writer was made lies there still -/
theorem WStep.bk {w0 w1 : World} {g : Nat} {v : Value} {b : List Bool} {M : Nat} (h : WStep w0 w1 g v b M) {k : Nat} {t : TypeId} {cs : Array Value} (hk : Bk w0 k t cs) : Bk w1 k t cs := hk.go h.2.2.1
theorem Wr.go {w w' : World} {base g : Nat} {v : Value} {b : List Bool} (h : Wr w base g v b) (hb : Below w.heap.size w w') : Wr w' base g v b := by
  obtain ⟨c, hk, ho⟩ := h
  exact ⟨c, hk.go hb, own_go ho hb⟩
theorem WStep.go {w0 w1 w2 : World} {g : Nat} {v : Value} {b : List Bool} {M : Nat} (h : WStep w0 w1 g v b M) (hb : Below w1.heap.size w1 w2) : WStep w0 w2 g v b M :=
  ⟨h.1.go hb, h.2.1, h.2.2.1.trans (hb.mono h.2.2.1.size), h.2.2.2⟩
theorem WStep.size {w0 w1 : World} {g : Nat} {v : Value} {b : List Bool} {M : Nat} (h : WStep w0 w1 g v b M) : w0.heap.size ≤ w1.heap.size := h.2.2.1.size

theorem ueL_le {x : Nat} (h : x ≤ 2147483646) : (ueL x).length ≤ 61 := by
  rw [ueL_len]
  have := lg_le (x + 1) 30 (by omega)
  omega
theorem seL_le {x : Int} (h0 : -1073741823 ≤ x) (h1 : x ≤ 1073741823) : (seL x).length ≤ 61 := ueL_le (seN_le x ⟨h0, h1⟩)
theorem teL_le {x m : Nat} (h : x ≤ 2147483646) : (teL x m).length ≤ 61 := by
  unfold teL
  split
  · simp
  · exact ueL_le h

section
variable {w0 w1 : World} {g : Nat} {v : Value} {b : List Bool} {M : Nat} (H : WStep w0 w1 g v b M) (hM : M ≤ 900000)
include H hM
theorem st_bits (x n : Int) (h0 : 0 ≤ n) (h1 : n ≤ 32) (h2 : 0 ≤ x) (h3 : x < 2 ^ n.toNat) :
    Calls Tryz.prog 7 #[.pointer (some ⟨g, 0, none⟩), .int .i64 x, .int .i64 n] w1 fun e w' => e = .returned (.int .i64 0) ∧ ∃ v', WStep w0 w' g v' (b ++ dig x.toNat n.toNat) (M + 64) := by
  have hl := H.2.2.2
  have h := bits_yes w0.heap.size g v b x.toNat n.toNat w1 H.1 (by omega) (by omega) (by
    have e : (((2 : Nat) ^ n.toNat : Nat) : Int) = 2 ^ n.toNat := by simp
    omega) H.size
  rw [show ((x.toNat : Nat) : Int) = x by omega, show ((n.toNat : Nat) : Int) = n by omega] at h
  exact h.mono fun e w' q => ⟨q.1, H.put q.2 (by rw [List.length_append, dig_len]; omega)⟩
theorem st_ue (x : Int) (h0 : 0 ≤ x) (h1 : x ≤ 2147483646) :
    Calls Tryz.prog 96 #[.pointer (some ⟨g, 0, none⟩), .int .i64 x] w1 fun e w' => e = .returned (.int .i64 0) ∧ ∃ v', WStep w0 w' g v' (b ++ ueL x.toNat) (M + 64) := by
  have hl := H.2.2.2
  have := ueL_le (x := x.toNat) (by omega)
  exact (ue_yes w0.heap.size g v b x w1 H.1 (by omega) h0 h1 H.size).mono fun e w' q => ⟨q.1, H.put q.2 (by rw [List.length_append]; omega)⟩
theorem st_se (x : Int) (h0 : -1073741823 ≤ x) (h1 : x ≤ 1073741823) :
    Calls Tryz.prog 106 #[.pointer (some ⟨g, 0, none⟩), .int .i64 x] w1 fun e w' => e = .returned (.int .i64 0) ∧ ∃ v', WStep w0 w' g v' (b ++ seL x) (M + 64) := by
  have hl := H.2.2.2
  have := seL_le h0 h1
  exact (se_yes w0.heap.size g v b x w1 H.1 (by omega) h0 h1 H.size).mono fun e w' q => ⟨q.1, H.put q.2 (by rw [List.length_append]; omega)⟩
end
theorem st_new (w : World) : Calls Tryz.prog 6 #[] w fun e w' => e = .returned (.pointer (some ⟨w.heap.size, 0, none⟩)) ∧ WStep w w' w.heap.size (.slice none 0 0) [] 0 :=
  (new_any w).mono fun e w' q => ⟨q.1, q.2 ▸ WStep.new w⟩

/-- a Reader that was made since w0; nothing else of w0 is turned -/
def RStep (w0 w1 : World) (g : Nat) (s : ByteArray) (a : Nat) : Prop := Rr w1 g s a ∧ w0.heap.size ≤ g ∧ Below w0.heap.size w0 w1
theorem RStep.size {w0 w1 : World} {g : Nat} {s : ByteArray} {a : Nat} (h : RStep w0 w1 g s a) : w0.heap.size ≤ w1.heap.size := h.2.2.size
theorem RStep.then {w0 w1 w2 : World} {g : Nat} {s : ByteArray} {a c : Nat} (h : RStep w0 w1 g s a) (k : RPost w1 g s c w2) : RStep w0 w2 g s c :=
  ⟨k.1, h.2.1, Below.touch h.2.2 k.2 (fun i hi hs => by have := h.2.1; unfold RS at hs; omega) (Nat.le_refl _)⟩
theorem RStep.new (w : World) (s : ByteArray) : RStep w (w.alloc (.cells #[.string s, .int .i64 0] 103)) w.heap.size s 0 := ⟨Rr.new w s, Nat.le_refl _, (Below.refl _ _).alloc (Nat.le_refl _) _⟩
theorem RStep.go {w0 w1 w2 : World} {g : Nat} {s : ByteArray} {a : Nat} (h : RStep w0 w1 g s a) (hb : Below w1.heap.size w1 w2) : RStep w0 w2 g s a := ⟨Bk.go h.1 hb, h.2.1, h.2.2.trans (hb.mono h.size)⟩
theorem RStep.from {w w0 w1 : World} {g : Nat} {s : ByteArray} {a : Nat} (h : RStep w0 w1 g s a) (hb : Below w.heap.size w w0) : Below w.heap.size w w1 := hb.trans (h.2.2.mono hb.size)
theorem st_open (s : ByteArray) (w : World) : Calls Tryz.prog 19 #[.string s] w fun e w' => e = .returned (.pointer (some ⟨w.heap.size, 0, none⟩)) ∧ RStep w w' w.heap.size s 0 :=
  (open_any s w).mono fun e w' q => ⟨q.1, q.2 ▸ RStep.new w s⟩
section
variable {w0 w1 : World} {g : Nat} {s : ByteArray} {a : Nat} (H : RStep w0 w1 g s a) (hs : s.size ≤ 140737488351232) (ha : a ≤ 8 * s.size)
include H hs
omit hs in
theorem st_at : Calls Tryz.prog 26 #[.pointer (some ⟨g, 0, none⟩)] w1 fun e w' => e = .returned (.int .i64 a) ∧ w1 = w' := at_any g s a w1 H.1
include ha
theorem st_rbits (n : Int) : Calls Tryz.prog 20 #[.pointer (some ⟨g, 0, none⟩), .int .i64 n] w1 fun e w' => e = .returned (.tuple #[.int .i64 (bitsR (sbit s) (8 * s.size) a n).x, .int .i64 (bitsR (sbit s) (8 * s.size) a n).e]) ∧ RStep w0 w' g s (bitsR (sbit s) (8 * s.size) a n).at_ :=
  (rbits_any g s a n w1 H.1 hs ha).mono fun e w' q => ⟨q.1, H.then q.2⟩
theorem st_rue : Calls Tryz.prog 98 #[.pointer (some ⟨g, 0, none⟩)] w1 fun e w' => e = .returned (.tuple #[.int .i64 (ueR (sbit s) (8 * s.size) a).x, .int .i64 (ueR (sbit s) (8 * s.size) a).e]) ∧ RStep w0 w' g s (ueR (sbit s) (8 * s.size) a).at_ :=
  (rue_any g s a w1 H.1 hs ha).mono fun e w' q => ⟨q.1, H.then q.2⟩
theorem st_rse : Calls Tryz.prog 108 #[.pointer (some ⟨g, 0, none⟩)] w1 fun e w' => e = .returned (.tuple #[.int .i64 (seR (sbit s) (8 * s.size) a).x, .int .i64 (seR (sbit s) (8 * s.size) a).e]) ∧ RStep w0 w' g s (seR (sbit s) (8 * s.size) a).at_ :=
  (rse_any g s a w1 H.1 hs ha).mono fun e w' q => ⟨q.1, H.then q.2⟩
end

/-- a text of bits, read -/
theorem packS_size (b : List Bool) : (packS b).size = (b.length + 7) / 8 := by
  unfold packS
  rw [strOfNums_size]
  simp
theorem gS_pack (b : List Bool) (i : Nat) : gS (packS b) i = byteOf b i := by
  unfold gS packS strOfNums
  rw [Array.getD_eq_getD_getElem?, List.getElem?_toArray, List.getElem?_map, List.getElem?_map]
  by_cases h : i < (b.length + 7) / 8
  · rw [List.getElem?_range h]
    have := byteOf_lt b i
    simp
    omega
  · rw [List.getElem?_eq_none (by simp; omega), byteOf_past b i (by omega)]
    rfl
theorem sbit_pack (b : List Bool) (i : Nat) : sbit (packS b) i = b.getD i false := by
  rw [← bitOf_byteOf]
  unfold sbit bitOf
  rw [gS_pack]

theorem st_bytes {w0 w1 : World} {g : Nat} {v : Value} {b : List Bool} {M : Nat} (H : WStep w0 w1 g v b M) {S : ByteArray} (h : packS b = S) : Calls Tryz.prog 15 #[.pointer (some ⟨g, 0, none⟩)] w1 fun e w' => e = .returned (.string S) ∧ w1 = w' :=
  h ▸ wbytes_any _ _ _ _ _ H.1
theorem st_len {w0 w1 : World} {g : Nat} {v : Value} {b : List Bool} {M : Nat} (H : WStep w0 w1 g v b M) {n : Int} (h : (b.length : Int) = n) : Calls Tryz.prog 14 #[.pointer (some ⟨g, 0, none⟩)] w1 fun e w' => e = .returned (.int .i64 n) ∧ w1 = w' :=
  h ▸ wlen_any _ _ _ _ _ H.1

theorem num_any (x : Int) (w : World) : Calls Tryz.prog 13 #[.int .i64 x] w fun e w' => e = .returned (.int .i64 x) ∧ w = w' := by
  go_enter Tryz.func13, Tryz.ntmps13
  go_wp2_with fail
  go_ret
  exact ⟨rfl, rfl⟩
end Go.Proofs.YtjokibagciehlaaGreat
