/- Each frame is there once: the plain law. -/
import Derived.Test.YtoniejneoibpoaaPlanA
namespace Go.Proofs.Ytoniejneoibpoaa
open Go.RowKit
set_option linter.unusedVariables false

def dP : Pic := ⟨0, 0, false, false, 0⟩
def grp (f b g : Nat) : List Pic := picI f :: mids f b g 8 1
def sh (f : Nat) (q : Pic) : Pic := ⟨f + q.frame, q.type, q.ref, q.key, q.poc⟩
def tb (b g j : Nat) : Pic := (grp 0 b g).getD j dP
def inv (b g y : Nat) : Nat := ((List.range g).find? fun j => (tb b g j).frame == y).getD 0

theorem betw_sh (f n j : Nat) : betw f n j = (betw 0 n j).map (sh f) := by
  induction n generalizing j with
  | zero => rfl
  | succ n ih => simp [betw, ih, picB, sh]
theorem mids_sh (f b g u a : Nat) : mids f b g u a = (mids 0 b g u a).map (sh f) := by
  induction u generalizing a with
  | zero => rfl
  | succ u ih =>
    unfold mids
    split
    · rw [ih, betw_sh]
      simp [picP, sh]
    · rfl
theorem grp_sh (f b g : Nat) : grp f b g = (grp 0 b g).map (sh f) := by
  unfold grp
  rw [mids_sh]
  simp [picI, sh]

theorem grp_len : ∀ b : Fin 3, ∀ g : Fin 8, 1 ≤ g.val → (grp 0 b.val g.val).length = g.val := by decide +kernel
theorem tab1 : ∀ b : Fin 3, ∀ g : Fin 8, ∀ j : Fin 8, j.val < g.val → (tb b g j).frame < g.val ∧ inv b g (tb b g j).frame = j.val ∧ (tb b g j).key = ((tb b g j).type == 2) ∧ (tb b g j).ref = ((tb b g j).type != 1) := by decide +kernel
theorem tab2 : ∀ b : Fin 3, ∀ g : Fin 8, ∀ y : Fin 8, y.val < g.val → inv b g y < g.val ∧ (tb b g (inv b g y)).frame = y.val := by decide +kernel
theorem tab3 : ∀ b : Fin 3, ∀ g : Fin 8, ∀ j : Fin 8, j.val < g.val → (tb b g j).type = 1 → 1 ≤ (tb b g j).frame ∧ ∃ n : Fin 8, (tb b g j).frame < n.val ∧ n.val < g.val ∧ inv b g n < j.val ∧ (tb b g (inv b g n)).type ≠ 1 ∧ (tb b g (inv b g n)).ref = true ∧
    ∀ y : Fin 8, (tb b g j).frame < y.val → y.val < n.val → (tb b g (inv b g y)).type = 1 := by decide +kernel

theorem rows_get (p b m : Nat) (hp : 1 ≤ p ∧ p ≤ 7) (hb : b ≤ 2) (u f : Nat) (hu : m ≤ f + u) (i : Nat) (hi : i < m - f) :
    (rows p b m u f)[i]? = some (sh (f + i / p * p) (tb b (min p (m - (f + i / p * p))) (i % p))) := by
  induction u generalizing f i with
  | zero => omega
  | succ u ih =>
    have hfm : f < m := by omega
    rw [rows, if_pos hfm]
    obtain ⟨g, hg⟩ : ∃ g, g = min p (m - f) := ⟨_, rfl⟩
    rw [← hg]
    have hgl : (grp f b g).length = g := by
      rw [grp_sh, List.length_map]
      exact grp_len ⟨b, by omega⟩ ⟨g, by omega⟩ (by show 1 ≤ g; omega)
    show (grp f b g ++ rows p b m u (f + p))[i]? = _
    by_cases hig : i < g
    · rw [List.getElem?_append_left (by omega)]
      have h1 : i / p = 0 := Nat.div_eq_of_lt (by omega)
      have h2 : i % p = i := Nat.mod_eq_of_lt (by omega)
      rw [h1, h2, Nat.zero_mul, Nat.add_zero, ← hg, grp_sh, List.getElem?_map]
      have hl : i < (grp 0 b g).length := by rw [grp_sh, List.length_map] at hgl; omega
      rw [List.getElem?_eq_getElem hl]
      show some _ = _
      congr 2
      unfold tb
      rw [List.getD_eq_getElem?_getD, List.getElem?_eq_getElem hl]
      rfl
    · have hgp : g = p := by omega
      rw [List.getElem?_append_right (by omega), hgl, hgp]
      rw [ih (f + p) (by omega) (i - p) (by omega)]
      have h1 : i = (i - p) + p := by omega
      have h2 : i / p = (i - p) / p + 1 := by
        conv => lhs; rw [h1]
        rw [Nat.add_div_right _ (by omega)]
      have h3 : i % p = (i - p) % p := by
        conv => lhs; rw [h1]
        rw [Nat.add_mod_right]
      rw [h2, h3, Nat.add_mul, Nat.one_mul]
      have h4 : f + p + (i - p) / p * p = f + ((i - p) / p * p + p) := by omega
      rw [h4]

theorem rows_length (p b m : Nat) (hp : 1 ≤ p ∧ p ≤ 7) (hb : b ≤ 2) (u f : Nat) (hu : m ≤ f + u) : (rows p b m u f).length = m - f := by
  have h1 := rows_len p b m u f hp.1
  rcases Nat.lt_or_ge (rows p b m u f).length (m - f) with h | h
  · have := rows_get p b m hp hb u f hu _ h
    rw [List.getElem?_eq_none (Nat.le_refl _)] at this
    cases this
  · omega

/-- the i-th picture -/
def pic (p b m i : Nat) : Pic := (planned p b m).getD i dP
/-- the place of frame y -/
def pos (p b m y : Nat) : Nat := y / p * p + inv b (min p (m - y / p * p)) (y % p)

section
variable {p b m : Nat} (hp : 1 ≤ p ∧ p ≤ 7) (hb : b ≤ 2) (hm : m ≤ 64)
include hp hb hm
theorem planned_length : (planned p b m).length = m := by
  have := rows_length p b m hp hb 65 0 (by omega)
  unfold planned
  omega
theorem pic_is {i : Nat} (hi : i < m) : pic p b m i = sh (i / p * p) (tb b (min p (m - i / p * p)) (i % p)) := by
  have := rows_get p b m hp hb 65 0 (by omega) i (by omega)
  rw [Nat.zero_add] at this
  unfold pic planned
  rw [List.getD_eq_getElem?_getD, this]
  rfl
omit hb hm in
theorem split_at {i : Nat} (hi : i < m) : i / p * p + i % p = i ∧ i % p < p ∧ i % p < min p (m - i / p * p) ∧ min p (m - i / p * p) ≤ 7 := by
  have h1 : i / p * p + i % p = i := by have := Nat.div_add_mod i p; rw [Nat.mul_comm] at this; exact this
  have h2 : i % p < p := Nat.mod_lt _ (by omega)
  omega
omit hb hm in
theorem split_back (i y : Nat) (hy : y < p) : (i / p * p + y) / p = i / p ∧ (i / p * p + y) % p = y := by
  constructor
  · rw [Nat.mul_comm, Nat.mul_add_div (by omega), Nat.div_eq_of_lt hy, Nat.add_zero]
  · rw [Nat.mul_comm, Nat.mul_add_mod, Nat.mod_eq_of_lt hy]
theorem once1 {i : Nat} (hi : i < m) : (pic p b m i).frame < m ∧ pos p b m (pic p b m i).frame = i ∧ (pic p b m i).key = ((pic p b m i).type == 2) ∧ (pic p b m i).ref = ((pic p b m i).type != 1) := by
  obtain ⟨h1, h2, h3, h4⟩ := split_at hp hi
  obtain ⟨t1, t2, t3, t4⟩ := tab1 ⟨b, by omega⟩ ⟨min p (m - i / p * p), by omega⟩ ⟨i % p, by omega⟩ h3
  simp only at t1 t2 t3 t4
  rw [pic_is hp hb hm hi]
  obtain ⟨b1, b2⟩ := split_back hp i (tb b (min p (m - i / p * p)) (i % p)).frame (by omega)
  refine ⟨?_, ?_, t3, t4⟩
  · show i / p * p + _ < m
    omega
  · show pos p b m (i / p * p + _) = i
    unfold pos
    rw [b1, b2, t2, h1]
theorem once2 {y : Nat} (hy : y < m) : pos p b m y < m ∧ (pic p b m (pos p b m y)).frame = y := by
  obtain ⟨h1, h2, h3, h4⟩ := split_at hp hy
  obtain ⟨t1, t2⟩ := tab2 ⟨b, by omega⟩ ⟨min p (m - y / p * p), by omega⟩ ⟨y % p, by omega⟩ h3
  simp only at t1 t2
  have hl : pos p b m y < m := by unfold pos; omega
  refine ⟨hl, ?_⟩
  obtain ⟨b1, b2⟩ := split_back hp y (inv b (min p (m - y / p * p)) (y % p)) (by omega)
  rw [pic_is hp hb hm hl]
  unfold pos
  rw [b1, b2]
  show y / p * p + _ = y
  rw [t2, h1]
theorem once3 {i : Nat} (hi : i < m) (ht : (pic p b m i).type = 1) : 1 ≤ (pic p b m i).frame ∧ ∃ N, (pic p b m i).frame < N ∧ N < m ∧ pos p b m N < i ∧ (pic p b m (pos p b m N)).type ≠ 1 ∧ (pic p b m (pos p b m N)).ref = true ∧
    ∀ y, (pic p b m i).frame < y → y < N → (pic p b m (pos p b m y)).type = 1 := by
  obtain ⟨h1, h2, h3, h4⟩ := split_at hp hi
  have ht' := ht
  rw [pic_is hp hb hm hi] at ht'
  obtain ⟨t0, n, t1, t2, t3, t4, t5, t6⟩ := tab3 ⟨b, by omega⟩ ⟨min p (m - i / p * p), by omega⟩ ⟨i % p, by omega⟩ h3 ht'
  simp only at t0 t1 t2 t3 t4 t5 t6
  have key : ∀ y, y < min p (m - i / p * p) → pos p b m (i / p * p + y) = i / p * p + inv b (min p (m - i / p * p)) y ∧ pic p b m (pos p b m (i / p * p + y)) = sh (i / p * p) (tb b (min p (m - i / p * p)) (inv b (min p (m - i / p * p)) y)) := fun y hy => by
    obtain ⟨b1, b2⟩ := split_back hp i y (by omega)
    have e1 : pos p b m (i / p * p + y) = i / p * p + inv b (min p (m - i / p * p)) y := by unfold pos; rw [b1, b2]
    refine ⟨e1, ?_⟩
    obtain ⟨s1, s2⟩ := tab2 ⟨b, by omega⟩ ⟨min p (m - i / p * p), by omega⟩ ⟨y, by omega⟩ hy
    simp only at s1 s2
    rw [e1, pic_is hp hb hm (by omega)]
    obtain ⟨c1, c2⟩ := split_back hp i (inv b (min p (m - i / p * p)) y) (by omega)
    rw [c1, c2]
  rw [pic_is hp hb hm hi]
  refine ⟨?_, i / p * p + n.val, ?_, ?_, ?_, ?_, ?_, ?_⟩
  · show 1 ≤ i / p * p + _; omega
  · show i / p * p + _ < _; omega
  · omega
  · rw [(key n.val t2).1]; omega
  · rw [(key n.val t2).2]; exact t4
  · rw [(key n.val t2).2]; exact t5
  · intro y hy1 hy2
    have hy1' : i / p * p + (tb b (min p (m - i / p * p)) (i % p)).frame < y := hy1
    obtain ⟨z, rfl⟩ : ∃ z, y = i / p * p + z := ⟨y - i / p * p, by omega⟩
    rw [(key z (by omega)).2]
    exact t6 ⟨z, by have := n.isLt; omega⟩ (by show _ < z; omega) (by show z < _; omega)
end

end Go.Proofs.Ytoniejneoibpoaa
