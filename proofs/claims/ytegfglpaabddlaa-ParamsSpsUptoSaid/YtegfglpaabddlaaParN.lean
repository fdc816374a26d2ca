/- The document's way of reading pictures' parameters, plainly: it stops where a field is none; it comes to the same. -/
import Derived.Test.YtegfglpaabddlaaParJ
import Derived.Test.YtegfglpaabddlaaParR
namespace Go.Proofs.Ytegfglpaabddlaa
set_option linter.unusedVariables false
set_option linter.unusedSimpArgs false

section
variable (f : Nat → Bool) (N : Nat)
def k0 : St := ⟨0, false⟩
def k1 : St := dS k0 (btS f N 1 k0)
def k2 : St := dS (k1 f N) (btS f N 1 (k1 f N))
def k3 : St := dS (k2 f N) (btS f N 2 (k2 f N))
def k4 : St := dS (k3 f N) (ueS f N (k3 f N))
def k5 : St := dS (k4 f N) (ueS f N (k4 f N))
def k6 : St := dS (k5 f N) (btS f N 1 (k5 f N))
def k7 : St := dS (k6 f N) (btS f N 1 (k6 f N))
def k8 : St := dS (k7 f N) (ueS f N (k7 f N))
def k9 : St := dS (k8 f N) (ueS f N (k8 f N))
def rdPp2 : Pp := ⟨dX k0.bad (btX f N 1 k0) == 1, dX (k1 f N).bad (btX f N 1 (k1 f N)) == 1, dX (k2 f N).bad (btX f N 2 (k2 f N)), dX (k3 f N).bad (ueX f N (k3 f N)), dX (k4 f N).bad (seX f N (k4 f N)), dX (k5 f N).bad (btX f N 1 (k5 f N)) == 1, dX (k6 f N).bad (btX f N 1 (k6 f N)) == 1, dX (k7 f N).bad (ueX f N (k7 f N)) + 1, dX (k8 f N).bad (ueX f N (k8 f N)) + 1⟩
theorem dS_ok {t u : St} (h : t.bad = false) : dS t u = u := if_neg (by rw [h]; simp)
theorem dX_ok {b : Bool} {x : Int} (h : b = false) : dX b x = x := if_neg (by rw [h]; simp)
theorem dS_bad {t u : St} (hu : u.bad = false → t.bad = false) (h : (dS t u).bad = false) : t.bad = false := by
  unfold dS at h
  split at h
  · exact h
  · exact hu h
theorem bt_bad {n : Int} {t : St} (h : (btS f N n t).bad = false) : t.bad = false := (Bool.or_eq_false_iff.1 (show (t.bad || neB (bitsR f N t.a n).e) = false from h)).1
theorem ue_bad {t : St} (h : (ueS f N t).bad = false) : t.bad = false := (Bool.or_eq_false_iff.1 (show (t.bad || neB (ueR f N t.a).e) = false from h)).1
theorem k_r (h : (k9 f N).bad = false) : k9 f N = r9 f N ∧ rdPp2 f N = rdPp f N := by
  have b8 : (k8 f N).bad = false := dS_bad (ue_bad f N) h
  have b7 : (k7 f N).bad = false := dS_bad (ue_bad f N) b8
  have b6 : (k6 f N).bad = false := dS_bad (bt_bad f N) b7
  have b5 : (k5 f N).bad = false := dS_bad (bt_bad f N) b6
  have b4 : (k4 f N).bad = false := dS_bad (ue_bad f N) b5
  have b3 : (k3 f N).bad = false := dS_bad (ue_bad f N) b4
  have b2 : (k2 f N).bad = false := dS_bad (bt_bad f N) b3
  have b1 : (k1 f N).bad = false := dS_bad (bt_bad f N) b2
  have e1 : k1 f N = r1 f N := rfl
  have e2 : k2 f N = r2 f N := by unfold k2; rw [dS_ok b1, e1]; rfl
  have e3 : k3 f N = r3 f N := by unfold k3; rw [dS_ok b2, e2]; rfl
  have e4 : k4 f N = r4 f N := by unfold k4; rw [dS_ok b3, e3]; rfl
  have e5 : k5 f N = r5 f N := by unfold k5; rw [dS_ok b4, e4]; rfl
  have e6 : k6 f N = r6 f N := by unfold k6; rw [dS_ok b5, e5]; rfl
  have e7 : k7 f N = r7 f N := by unfold k7; rw [dS_ok b6, e6]; rfl
  have e8 : k8 f N = r8 f N := by unfold k8; rw [dS_ok b7, e7]; rfl
  have e9 : k9 f N = r9 f N := by unfold k9; rw [dS_ok b8, e8]; rfl
  refine ⟨e9, ?_⟩
  unfold rdPp2 rdPp
  rw [dX_ok b1, dX_ok b2, dX_ok b3, dX_ok b4, dX_ok b5, dX_ok b6, dX_ok b7, dX_ok b8, e1, e2, e3, e4, e5, e6, e7, e8]
  rfl
theorem r_k (h : (r9 f N).bad = false) : k9 f N = r9 f N := by
  have b8 : (r8 f N).bad = false := ue_bad f N h
  have b7 : (r7 f N).bad = false := ue_bad f N b8
  have b6 : (r6 f N).bad = false := bt_bad f N b7
  have b5 : (r5 f N).bad = false := bt_bad f N b6
  have b4 : (r4 f N).bad = false := ue_bad f N b5
  have b3 : (r3 f N).bad = false := ue_bad f N b4
  have b2 : (r2 f N).bad = false := bt_bad f N b3
  have b1 : (r1 f N).bad = false := bt_bad f N b2
  have e1 : k1 f N = r1 f N := rfl
  have e2 : k2 f N = r2 f N := by unfold k2; rw [e1, dS_ok b1]; rfl
  have e3 : k3 f N = r3 f N := by unfold k3; rw [e2, dS_ok b2]; rfl
  have e4 : k4 f N = r4 f N := by unfold k4; rw [e3, dS_ok b3]; rfl
  have e5 : k5 f N = r5 f N := by unfold k5; rw [e4, dS_ok b4]; rfl
  have e6 : k6 f N = r6 f N := by unfold k6; rw [e5, dS_ok b5]; rfl
  have e7 : k7 f N = r7 f N := by unfold k7; rw [e6, dS_ok b6]; rfl
  have e8 : k8 f N = r8 f N := by unfold k8; rw [e7, dS_ok b7]; rfl
  unfold k9; rw [e8, dS_ok b8]; rfl
/-- what the document's Get answers -/
theorem getPp_k : getPp f N = if (k9 f N).bad = true ∨ (trailR f N (k9 f N).a).1 ≠ 0 then (.zero, 300) else if mayPp (rdPp2 f N) = true then (rdPp2 f N, 0) else (.zero, 301) := by
  cases hb : (k9 f N).bad
  · obtain ⟨h1, h2⟩ := k_r f N hb
    have hr : (r9 f N).bad = false := by rw [← h1]; exact hb
    unfold getPp
    rw [h2, h1, hr]
  · have hr : (r9 f N).bad = true := by
      cases hq : (r9 f N).bad
      · have := r_k f N hq
        rw [this, hq] at hb
        cases hb
      · rfl
    unfold getPp
    rw [if_pos (.inl hr), if_pos (.inl rfl)]
end
end Go.Proofs.Ytegfglpaabddlaa
