/- Join: the program's. -/
import Derived.Test.YtndlmhpbnaohpaaNalDb
import Derived.Test.YtndlmhpbnaohpaaNalF
import Derived.Test.YtndlmhpbnaohpaaStructs
namespace Go.Proofs.Ytndlmhpbnaohpaa
open Go.RowKit
set_option linter.unusedVariables false
set_option linter.unusedSimpArgs false

/-- a row of units: their importances, types, texts -/
def Us (w : World) (B : Nat) (A : Option Addr) (n : Nat) (R T : Nat → Int) (S : Nat → ByteArray) : Prop :=
  0 < n → ∃ ad, A = some ad ∧ ad.block < B ∧ ∀ k, k < n → w.cell? (ad.add (k * 3)) = some (.int .i64 (R k)) ∧ w.cell? ⟨(ad.add (k * 3)).block, (ad.add (k * 3)).off + 1, none⟩ = some (.int .i64 (T k)) ∧ w.cell? ⟨(ad.add (k * 3)).block, (ad.add (k * 3)).off + 2, none⟩ = some (.string (S k))
theorem Us.below {w w' : World} {B B' : Nat} {A : Option Addr} {n : Nat} {R T : Nat → Int} {S : Nat → ByteArray} (h : Us w B A n R T S) (hb : Below B' w w') (hB : B ≤ B') : Us w' B A n R T S := fun hn => by
  obtain ⟨ad, e, hl, hc⟩ := h hn
  have hl' : ∀ j, (ad.add j).block < B' := fun j => by rw [block_add]; omega
  exact ⟨ad, e, hl, fun k hk => by
    obtain ⟨c0, c1, c2⟩ := hc k hk
    exact ⟨(hb.cell (hl' _)).trans c0, (hb.cell (p := ⟨(ad.add (k * 3)).block, _, none⟩) (hl' _)).trans c1, (hb.cell (p := ⟨(ad.add (k * 3)).block, _, none⟩) (hl' _)).trans c2⟩⟩
/-- a unit behind its start, as bytes -/
def oneL (r t : Int) (s : ByteArray) : List Nat := [0, 0, 1] ++ packL r t (bl s)
def joinL (R T : Nat → Int) (S : Nat → ByteArray) : Nat → List Nat
  | 0 => []
  | i + 1 => joinL R T S i ++ oneL (R i) (T i) (S i)
def jnOk (R T : Nat → Int) (n : Nat) : Bool := (List.range n).all fun k => fitB (R k) (T k)
theorem jnOk_iff (R T : Nat → Int) (n : Nat) : jnOk R T n = true ↔ ∀ k, k < n → fitB (R k) (T k) = true := by
  unfold jnOk
  simp
def jnS (R T : Nat → Int) (S : Nat → ByteArray) (n : Nat) : ByteArray := if jnOk R T n = true then txt (joinL R T S n) else ByteArray.empty
def jnE (R T : Nat → Int) (n : Nat) : Int := if jnOk R T n = true then 0 else 200
theorem pack_bytes {r t : Int} {s : ByteArray} (h : fitB r t = true) : ∀ b ∈ packL r t (bl s), b < 256 := by
  unfold fitB at h
  rw [decide_eq_true_iff] at h
  intro b hb
  rcases List.mem_cons.1 hb with rfl | hb
  · omega
  · exact esc_bytes _ (bl_lt s) b hb
theorem pack_len (r t : Int) (s : ByteArray) : 2 * (packL r t (bl s)).length ≤ 3 * s.size + 2 := by
  have := esc_len (bl s)
  rw [bl_len] at this
  unfold packL
  simp only [List.length_cons]
  omega
theorem join_len (R T : Nat → Int) (S : Nat → ByteArray) (hS : ∀ k, (S k).size ≤ 1048576) : ∀ i, (joinL R T S i).length ≤ i * 2097152
  | 0 => by simp [joinL]
  | i + 1 => by
    have := join_len R T S hS i
    have h2 := pack_len (R i) (T i) (S i)
    have h3 := hS i
    unfold joinL oneL
    simp only [List.length_append, List.length_cons, List.length_nil]
    omega
theorem join_bytes (R T : Nat → Int) (S : Nat → ByteArray) : ∀ i, (∀ k, k < i → fitB (R k) (T k) = true) → ∀ b ∈ joinL R T S i, b < 256
  | 0, _ => by simp [joinL]
  | i + 1, h => by
    intro b hb
    unfold joinL oneL at hb
    rcases List.mem_append.1 hb with hb | hb
    · exact join_bytes R T S i (fun k hk => h k (by omega)) b hb
    · rcases List.mem_append.1 hb with hb | hb
      · simp at hb
        omega
      · exact pack_bytes (h i (by omega)) b hb
theorem bl_append (a b : ByteArray) : bl (a ++ b) = bl a ++ bl b := by simp [bl]
theorem SB.go {w w' : World} {B b : Nat} {l : List Nat} (h : SB w B b l) (hb : Below w.heap.size w w') : SB w' B b l := by
  rcases h with h | h
  · have hl := h.lt
    obtain ⟨hB, v, hbk, hown, hne⟩ := h
    exact .inl ⟨hB, v, (hb.block b hl).trans hbk, own_go hown hb, hne⟩
  · have hl := h.lt
    obtain ⟨hB, v, hbk, hown, hne⟩ := h
    exact .inr ⟨hB, v, (hb.block b hl).trans hbk, own_go hown hb, hne⟩

set_option maxRecDepth 100000 in
set_option maxHeartbeats 3200000 in
theorem join_any (A : Option Addr) (n c : Nat) (R T : Nat → Int) (S : Nat → ByteArray) (w : World) (hU : Us w w.heap.size A n R T S) (hn : n ≤ 1048576) (hS : ∀ k, (S k).size ≤ 1048576) :
    Calls Try.prog 21 #[.slice A n c] w fun e w' => e = .returned (.tuple #[.string (jnS R T S n), .int .i64 (jnE R T n)]) ∧ Below w.heap.size w w' := by
  have HU := Lib.hid hU
  have HS := Lib.hid hS
  have hfr := Lib.fresh_isBuilder 56 5 w
  have hb0 := (Below.refl w.heap.size w).alloc (Nat.le_refl _) (.cells #[.pointer none, .slice none 0 0] 56)
  have hlt0 : w.heap.size < (w.alloc (.cells #[.pointer none, .slice none 0 0] 56)).heap.size := by simp
  obtain ⟨w1, hw1⟩ : ∃ w1, w1 = w.alloc (.cells #[.pointer none, .slice none 0 0] 56) := ⟨_, rfl⟩
  have hfr' : SB w1 w.heap.size w.heap.size [] := by rw [hw1]; exact hfr
  rw [← hw1] at hb0 hlt0
  have HFR := Lib.hid hfr'
  have HB0 := Lib.hid hb0
  clear hU hS hfr hfr' hb0
  go_enter Try.func21, Try.ntmps21
  go_wp2_with fail
  try rw [← hw1]
  clear hw1
  go_loopw [11] (fun t wr => ∃ (i : Nat), i ≤ n ∧ t = .int .i64 i ∧ (∀ k, k < i → fitB (R k) (T k) = true) ∧ SB wr w.heap.size w.heap.size (joinL R T S i) ∧ Below w.heap.size w wr ∧ w.heap.size < wr.heap.size) (fun t _ => n - (intOf t).toNat)
  case atStart => exact ⟨0, Nat.zero_le _, rfl, fun k hk => absurd hk (by omega), HFR.out, HB0.out, hlt0⟩
  case round =>
    obtain ⟨i, hi', rfl, hok, hsb, hb, hwz⟩ := hrel
    have HB := Lib.hid hb
    have HSB := Lib.hid hsb
    have HOK := Lib.hid hok
    clear hok hsb hb HFR HB0
    by_cases hlt : i < n
    · have hlt' : (i : Int) < (n : Int) := by omega
      have hi0 : (0 : Int) ≤ (i : Int) := Int.natCast_nonneg _
      obtain ⟨ad, rfl, hadb, hc⟩ := (HU.out.below HB.out (Nat.le_refl _)) (by omega)
      obtain ⟨c0, c1, c2⟩ := hc i hlt
      have hsi := HS.out i
      have HX := Lib.hid (show joinL R T S (i + 1) = joinL R T S i ++ oneL (R i) (T i) (S i) from rfl)
      generalize hr : R i = r at *
      generalize ht : T i = t at *
      generalize hs : S i = s at *
      have hadb' : (ad.add (i * 3)).block < w.heap.size := by rw [block_add]; exact hadb
      clear hc
      by_cases hf : fitB r t = true
      · have hp := fun w => pack0_yes r t s w hf (by omega)
        have hok2 : ∀ k, k < i + 1 → fitB (R k) (T k) = true := by
          intro k hk
          rcases Nat.lt_or_ge k i with h | h
          · exact HOK.out k h
          · obtain rfl : k = i := by omega
            rw [hr, ht]
            exact hf
        have HOK2 := Lib.hid hok2
        obtain ⟨P, hP⟩ : ∃ P, P = txt (packL r t (bl s)) := ⟨_, rfl⟩
        have hpl := pack_len r t s
        have hPs : (P.size : Int) ≤ 8388608 := by rw [hP, txt_size]; omega
        have hPb : bl P = packL r t (bl s) := by rw [hP]; exact bl_txt _ (pack_bytes hf)
        rw [← hP] at hp
        obtain ⟨X, hX⟩ : ∃ X, (⟨#[0, 0, 1]⟩ : ByteArray) ++ P = X := ⟨_, rfl⟩
        have hXb : bl X = oneL r t s := by rw [← hX, bl_append, hPb]; rfl
        have hXs : X.size ≤ 2097152 := by
          rw [← bl_len, hXb]
          unfold oneL
          simp only [List.length_append, List.length_cons, List.length_nil]
          omega
        have hjl := join_len R T S HS.out i
        have HP := Lib.hid hp
        have HXB := Lib.hid hXb
        obtain ⟨J, hJ⟩ : ∃ J, J = joinL R T S i := ⟨_, rfl⟩
        rw [← hJ] at HSB HX hjl
        have h1 : J.length + X.size ≤ 140737488355328 := by omega
        clear hp hok2 hP hPb hXb hJ hpl hr ht hs hf HU hjl HOK
        go_wp2_with fail
        refine (HP.out _).mono ?_
        rintro e w2 ⟨rfl, hb2⟩
        have HSB2 := Lib.hid ((HSB.out.go (w' := wr.alloc (.cells #[.int .i64 r, .int .i64 t, .string s] 32)) ((Below.refl _ _).alloc (Nat.le_refl _) _)).go hb2)
        have HB2 := Lib.hid ((HB.out.alloc (by omega) (.cells #[.int .i64 r, .int .i64 t, .string s] 32)).trans (hb2.mono (by simp; omega)))
        have hs2 := hb2.size
        simp at hs2
        clear hb2 HSB HB
        go_wp2_with fail
        refine (write_any w.heap.size w.heap.size J X w2 HSB2.out h1 (by omega)).mono ?_
        rintro e w3 ⟨rfl, hsb3, hb3⟩
        have HB3 := Lib.hid (HB2.out.trans hb3)
        have HSB3 := Lib.hid hsb3
        have hs3 := hb3.size
        clear hb3 hsb3 HB2 HSB2
        go_wp2_with fail
        go_roundw
        case rel => exact ⟨i + 1, by omega, by go_num, HOK2.out, by rw [HX.out, ← HXB.out]; exact HSB3.out, HB3.out, by omega⟩
        case measure => simp [intOf]; omega
      · have hp := fun w => pack0_no r t s w (Bool.eq_false_iff.2 hf)
        have hno : ¬ jnOk R T n = true := by
          intro q
          have := (jnOk_iff R T n).1 q i hlt
          rw [hr, ht] at this
          exact hf this
        have HJ1 : Hid (jnS R T S n = ByteArray.empty) := Lib.hid (if_neg hno)
        have HJ2 : Hid (jnE R T n = 200) := Lib.hid (if_neg hno)
        have HP := Lib.hid hp
        clear hp hno hf hr ht hs HX HU HOK
        go_wp2_with fail
        refine (HP.out _).mono ?_
        rintro e w2 ⟨rfl, hb2⟩
        have HB2 := Lib.hid ((HB.out.alloc (by omega) (.cells #[.int .i64 r, .int .i64 t, .string s] 32)).trans (hb2.mono (by simp; omega)))
        clear hb2
        go_wp2_with fail
        go_ret2
        exact ⟨by rw [HJ1.out, HJ2.out]; rfl, HB2.out⟩
    · obtain rfl : i = n := by omega
      have hlt' : ¬ (i : Int) < (i : Int) := by omega
      have hall : jnOk R T i = true := (jnOk_iff R T i).2 HOK.out
      have HJ1 : Hid (jnS R T S i = txt (joinL R T S i)) := Lib.hid (if_pos hall)
      have HJ2 : Hid (jnE R T i = 0) := Lib.hid (if_pos hall)
      go_wp2_with fail
      refine (sbString_any w.heap.size w.heap.size (joinL R T S i) wr HSB.out (join_bytes R T S i HOK.out) (by omega)).mono ?_
      rintro e w2 ⟨rfl, hb2⟩
      have HB2 := Lib.hid (HB.out.trans hb2)
      clear hb2
      go_wp2_with fail
      go_ret2
      exact ⟨by rw [HJ1.out, HJ2.out]; rfl, HB2.out⟩
end Go.Proofs.Ytndlmhpbnaohpaa
