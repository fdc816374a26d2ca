/- Median, Num: contracts. -/
import Derived.Test.YtgpoajhlmdmpkaaBase
import Derived.Deep.DeepCutAuto
import Derived.Deep.RegionHeld3
namespace Go.Proofs.Ytgpoajhlmdmpkaa
open Go.RowKit
set_option linter.unusedVariables false
attribute [local go_sem] ite_max ite_min

def med (a b c : Int) : Int := max (min a b) (min (max a b) c)
def vec (x y : Int) : Value := .agg #[.int .i64 x, .int .i64 y]
theorem ret_vec {a b c d : Int} (h : a = c) (g : b = d) : Ending.returned (.agg #[.int .i64 a, .int .i64 b]) = .returned (.agg #[.int .i64 c, .int .i64 d]) := by rw [h, g]

set_option maxHeartbeats 400000 in
theorem num_any (x : Int) (w : World) :
    Calls Try.prog 16 #[.int .i64 x] w fun e w' => e = .returned (.int .i64 x) ∧ w = w' := by
  go_enter Try.func16, Try.ntmps16
  go_wp2
  go_ret
  exact ⟨rfl, rfl⟩
set_option maxHeartbeats 400000 in
theorem med_any (a b c : Int) (w : World) :
    Calls Try.prog 9 #[.int .i64 a, .int .i64 b, .int .i64 c] w fun e w' => e = .returned (.int .i64 (med a b c)) ∧ w = w' := by
  go_enter Try.func9, Try.ntmps9
  go_wp2
  go_ret
  exact ⟨ret_int rfl, rfl⟩
set_option maxHeartbeats 400000 in
theorem med2_any (a b c : Int) (w : World) :
    Calls Try.prog 10 #[.int .i64 a, .int .i64 b, .int .i64 c] w fun e w' => e = .returned (.int .i64 (med a b c)) ∧ w = w' := by
  go_enter Try.func10, Try.ntmps10
  go_wp2
  go_ret
  exact ⟨ret_int rfl, rfl⟩

/-- what the switch chooses -/
def firstOf (shape part : Int) : Int := if shape = 1 ∧ part = 0 then 1 else if (shape = 1 ∧ part = 1) ∨ (shape = 2 ∧ part = 0) then 0 else if shape = 2 ∧ part = 1 then 2 else -1
/-- a component of the prediction; v0, v1, v2: already nought where the reference is below 0 -/
def predV (f r0 r1 r2 v0 v1 v2 ref : Int) : Int :=
  if f = 0 ∧ r0 = ref then v0 else if f = 1 ∧ r1 = ref then v1 else if f = 2 ∧ r2 = ref then v2
  else if r1 = -2 ∧ r2 = -2 ∧ r0 ≠ -2 then v0
  else if r0 = ref ∧ r1 ≠ ref ∧ r2 ≠ ref then v0 else if r0 ≠ ref ∧ r1 = ref ∧ r2 ≠ ref then v1 else if r0 ≠ ref ∧ r1 ≠ ref ∧ r2 = ref then v2
  else med v0 v1 v2
def zr (r v : Int) : Int := if r < 0 then 0 else v
def pred (shape part r0 r1 r2 v0 v1 v2 ref : Int) : Int := predV (firstOf shape part) r0 r1 r2 (zr r0 v0) (zr r1 v1) (zr r2 v2) ref

def cntI (r0 r1 r2 ref : Int) : Int := (if r0 = ref then 1 else 0) + (if r1 = ref then 1 else 0) + (if r2 = ref then 1 else 0)
def onlyI (r0 r1 r2 ref : Int) : Int := if r2 = ref then 2 else if r1 = ref then 1 else 0
def hitB (f r0 r1 r2 ref : Int) : Bool := decide ((f = 0 ∧ r0 = ref) ∨ (f = 1 ∧ r1 = ref) ∨ (f = 2 ∧ r2 = ref))
def edgeB (r0 r1 r2 : Int) : Bool := decide (r1 = -2 ∧ r2 = -2 ∧ r0 ≠ -2)

section
variable {f r0 r1 r2 v0 v1 v2 ref : Int}
theorem predV_hit (h : hitB f r0 r1 r2 ref = true) : predV f r0 r1 r2 v0 v1 v2 ref = if f = 0 then v0 else if f = 1 then v1 else v2 := by
  unfold hitB at h
  rw [decide_eq_true_iff] at h
  unfold predV
  rcases h with ⟨a, b⟩ | ⟨a, b⟩ | ⟨a, b⟩ <;> simp [a, b]
theorem predV_miss (h : hitB f r0 r1 r2 ref = false) : predV f r0 r1 r2 v0 v1 v2 ref = if r1 = -2 ∧ r2 = -2 ∧ r0 ≠ -2 then v0
  else if r0 = ref ∧ r1 ≠ ref ∧ r2 ≠ ref then v0 else if r0 ≠ ref ∧ r1 = ref ∧ r2 ≠ ref then v1 else if r0 ≠ ref ∧ r1 ≠ ref ∧ r2 = ref then v2
  else med v0 v1 v2 := by
  unfold hitB at h
  rw [decide_eq_false_iff_not] at h
  unfold predV
  rw [if_neg (fun g => h (.inl g)), if_neg (fun g => h (.inr (.inl g))), if_neg (fun g => h (.inr (.inr g)))]
theorem predV_edge (h : hitB f r0 r1 r2 ref = false) (he : edgeB r0 r1 r2 = true) : predV f r0 r1 r2 v0 v1 v2 ref = v0 := by
  unfold edgeB at he
  rw [decide_eq_true_iff] at he
  rw [predV_miss h, if_pos he]
theorem predV_one (h : hitB f r0 r1 r2 ref = false) (he : edgeB r0 r1 r2 = false) (hc : cntI r0 r1 r2 ref = 1) : predV f r0 r1 r2 v0 v1 v2 ref = if onlyI r0 r1 r2 ref = 0 then v0 else if onlyI r0 r1 r2 ref = 1 then v1 else v2 := by
  unfold edgeB at he
  rw [decide_eq_false_iff_not] at he
  rw [predV_miss h, if_neg he]
  unfold cntI at hc
  unfold onlyI
  by_cases a : r0 = ref <;> by_cases b : r1 = ref <;> by_cases c : r2 = ref <;> simp [a, b, c] at hc ⊢
theorem predV_med (h : hitB f r0 r1 r2 ref = false) (he : edgeB r0 r1 r2 = false) (hc : cntI r0 r1 r2 ref ≠ 1) : predV f r0 r1 r2 v0 v1 v2 ref = med v0 v1 v2 := by
  unfold edgeB at he
  rw [decide_eq_false_iff_not] at he
  rw [predV_miss h, if_neg he]
  unfold cntI at hc
  by_cases a : r0 = ref <;> by_cases b : r1 = ref <;> by_cases c : r2 = ref <;> simp [a, b, c] at hc ⊢
end
theorem sw {P : Program} {f : FuncId} {args : Array Value} {w : World} {v : Value} (h : Calls P f args w fun e w' => e = .returned v ∧ w = w') : Calls P f args w fun e w' => e = .returned v ∧ w' = w :=
  h.mono fun _ _ h => ⟨h.1, h.2.symm⟩
theorem vi {k : IntKind} {a b : Int} (h : a = b) : Value.int k a = .int k b := by rw [h]
theorem vb {a b : Bool} (h : a = b) : Value.bool a = .bool b := by rw [h]
end Go.Proofs.Ytgpoajhlmdmpkaa
