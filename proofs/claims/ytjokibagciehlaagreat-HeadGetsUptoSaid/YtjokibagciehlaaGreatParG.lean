/- The document's MaySps: the walk. -/
import Derived.Test.YtjokibagciehlaaGreatParF
namespace Go.Proofs.YtjokibagciehlaaGreat
open Go.RowKit
set_option linter.unusedVariables false
set_option linter.unusedSimpArgs false

def mayF2 (ok fr q1 q2 q3 q4 q5 b8 b9 q6 q7 : Bool) : Bool := (ok && !fr) && (q1 || (q2 && q3)) && (q4 || q5) && b8 && b9 && (q6 || q7)
def okF (b0 b1 b2 b3 b4 b5 b6 : Bool) : Bool := b0 && b1 && b2 && b3 && b4 && b5 && b6
theorem maySp_f2 (s : Sp) : maySp s = mayF2 (okF (inB 1 8 s.wide) (inB 1 8 s.high) (inB 4 8 s.fb) (inB 4 8 s.pb) (inB 0 2 s.pt) (inB (-1000) 1000 s.nr) (decide ((s.cy.length : Int) ≤ 4))) (farN (fun k => s.cy.getD k 0) s.cy.length)
    (s.pt == 1) (s.nr == 0) ((s.cy.length : Int) == 0) (s.pt == 0) (s.pb == 4) (inB 1 8 s.refs) (inB 0 s.refs s.delay) (s.pt != 2) (s.delay == 0) := by
  have hc := far_cy s.cy
  rw [Bool.eq_iff_iff, maySp_iff]
  unfold SpOk inB mayF2 okF
  generalize farN (fun k => s.cy.getD k 0) s.cy.length = b7 at hc ⊢
  generalize cyOk s.cy = q at hc ⊢
  simp only [Bool.and_eq_true, Bool.or_eq_true, Bool.not_eq_true', decide_eq_true_eq, beq_iff_eq, bne_iff_ne, hc]
  constructor
  · rintro ⟨h1, h2, h3, h4, h5, h6, h7, h8, h9, h10, h11, h12, h13⟩
    refine ⟨⟨⟨⟨⟨⟨⟨⟨⟨⟨⟨⟨?_, ?_⟩, ?_⟩, ?_⟩, ?_⟩, ?_⟩, ?_⟩, h8⟩, ?_⟩, ?_⟩, ?_⟩, ?_⟩, ?_⟩ <;> omega
  · rintro ⟨⟨⟨⟨⟨⟨⟨⟨⟨⟨⟨⟨h1, h2⟩, h3⟩, h4⟩, h5⟩, h6⟩, h7⟩, h8⟩, h9⟩, h10⟩, h11⟩, h12⟩, h13⟩
    refine ⟨?_, ?_, ?_, ?_, ?_, ?_, ?_, h8, ?_, ?_, ?_, ?_, ?_⟩ <;> omega
theorem far_zero (z : Nat → Int) : farN z 0 = false := decide_eq_false fun ⟨k, hk, _⟩ => by omega
theorem not_ok {ok f : Bool} (h : ok = false) (g : true = (ok && !f)) : False := by subst h; cases g
theorem ok_next0 {ok f g : Bool} (h : false = (ok && !f)) : false = (ok && !(f || g)) := by revert h; cases ok <;> cases f <;> cases g <;> decide
theorem ok_next1 {ok f b : Bool} (h : true = (ok && !f)) : b = (ok && !(f || !b)) := by revert h; cases ok <;> cases f <;> cases b <;> decide
theorem far_succ (z : Nat → Int) (k : Nat) : farN z (k + 1) = (farN z k || !inB (-1000) 1000 (z k)) := by
  unfold farN
  rw [Bool.eq_iff_iff, Bool.or_eq_true, decide_eq_true_eq, decide_eq_true_eq, Bool.not_eq_true']
  constructor
  · rintro ⟨j, hj, hb⟩
    by_cases h : j = k
    · subst h; exact .inr hb
    · exact .inl ⟨j, by omega, hb⟩
  · rintro (⟨j, hj, hb⟩ | hb)
    · exact ⟨j, by omega, hb⟩
    · exact ⟨k, by omega, hb⟩

set_option maxRecDepth 100000 in
set_option maxHeartbeats 6400000 in
theorem maysp2_any (s : Sp) (A : Option Addr) (c : Nat) (w : World) (hs : SpAt w w.heap.size s A) (hn : s.cy.length ≤ 1152921504606846976) :
    Calls Tryz.prog 45 #[.agg (spV s A c)] w fun e w' => e = .returned (.bool (maySp s)) ∧ Below w.heap.size w w' := by
  have hF := maySp_f2 s
  obtain ⟨R, hR⟩ : ∃ R, R = maySp s := ⟨_, rfl⟩
  rw [← hR] at hF ⊢
  clear hR
  obtain ⟨wide, high, fb, pt, pb, nr, cy, refs, delay⟩ := s
  unfold SpAt at hs
  simp only [spV] at *
  obtain ⟨n, hN⟩ : ∃ n, n = cy.length := ⟨_, rfl⟩
  obtain ⟨z, hz⟩ : ∃ z : Nat → Int, z = fun k => cy.getD k 0 := ⟨_, rfl⟩
  rw [← hN, ← hz] at hs hF
  rw [← hN] at hn ⊢
  clear hN hz
  obtain ⟨b0, h0⟩ : ∃ b, inB 1 8 wide = b := ⟨_, rfl⟩
  obtain ⟨b1, h1⟩ : ∃ b, inB 1 8 high = b := ⟨_, rfl⟩
  obtain ⟨b2, h2⟩ : ∃ b, inB 4 8 fb = b := ⟨_, rfl⟩
  obtain ⟨b3, h3⟩ : ∃ b, inB 4 8 pb = b := ⟨_, rfl⟩
  obtain ⟨b4, h4⟩ : ∃ b, inB 0 2 pt = b := ⟨_, rfl⟩
  obtain ⟨b5, h5⟩ : ∃ b, inB (-1000) 1000 nr = b := ⟨_, rfl⟩
  obtain ⟨b6, h6⟩ : ∃ b, decide ((n : Int) ≤ 4) = b := ⟨_, rfl⟩
  obtain ⟨q1, g1⟩ : ∃ b, (pt == 1) = b := ⟨_, rfl⟩
  obtain ⟨q2, g2⟩ : ∃ b, (nr == 0) = b := ⟨_, rfl⟩
  obtain ⟨q3, g3⟩ : ∃ b, ((n : Int) == 0) = b := ⟨_, rfl⟩
  obtain ⟨q4, g4⟩ : ∃ b, (pt == 0) = b := ⟨_, rfl⟩
  obtain ⟨q5, g5⟩ : ∃ b, (pb == 4) = b := ⟨_, rfl⟩
  obtain ⟨b8, h8⟩ : ∃ b, inB 1 8 refs = b := ⟨_, rfl⟩
  obtain ⟨b9, h9⟩ : ∃ b, inB 0 refs delay = b := ⟨_, rfl⟩
  obtain ⟨q6, g6⟩ : ∃ b, (pt != 2) = b := ⟨_, rfl⟩
  obtain ⟨q7, g7⟩ : ∃ b, (delay == 0) = b := ⟨_, rfl⟩
  rw [h0, h1, h2, h3, h4, h5, h6, g1, g2, g3, g4, g5, h8, h9, g6, g7] at hF
  obtain ⟨ok, hok⟩ : ∃ ok, ok = okF b0 b1 b2 b3 b4 b5 b6 := ⟨_, rfl⟩
  rw [← hok] at hF
  have HF := Lib.hid hF
  have HOK := Lib.hid hok
  have HS := Lib.hid hs
  have HG := Lib.hid (And.intro g1 (And.intro g2 (And.intro g3 (And.intro g4 (And.intro g5 (And.intro h8 (And.intro h9 (And.intro g6 g7))))))))
  clear hF hs hok g1 g2 g3 g4 g5 h8 h9 g6 g7
  have hcase : b0 = false ∨ (b0 = true ∧ b1 = false) ∨ (b0 = true ∧ b1 = true ∧ b2 = false) ∨ (b0 = true ∧ b1 = true ∧ b2 = true ∧ b3 = false) ∨ (b0 = true ∧ b1 = true ∧ b2 = true ∧ b3 = true ∧ b4 = false) ∨ (b0 = true ∧ b1 = true ∧ b2 = true ∧ b3 = true ∧ b4 = true ∧ b5 = false) ∨ (b0 = true ∧ b1 = true ∧ b2 = true ∧ b3 = true ∧ b4 = true ∧ b5 = true ∧ b6 = false) ∨ (b0 = true ∧ b1 = true ∧ b2 = true ∧ b3 = true ∧ b4 = true ∧ b5 = true ∧ b6 = true) := by
    cases b0 <;> cases b1 <;> cases b2 <;> cases b3 <;> cases b4 <;> cases b5 <;> cases b6 <;> simp
  have hq1 : q1 = true ∨ (q1 = false ∧ q2 = false) ∨ (q1 = false ∧ q2 = true ∧ q3 = false) ∨ (q1 = false ∧ q2 = true ∧ q3 = true) := by cases q1 <;> cases q2 <;> cases q3 <;> simp
  have hq4 : q4 = true ∨ (q4 = false ∧ q5 = false) ∨ (q4 = false ∧ q5 = true) := by cases q4 <;> cases q5 <;> simp
  have hq6 : b8 = false ∨ (b8 = true ∧ b9 = false) ∨ (b8 = true ∧ b9 = true ∧ q6 = true) ∨ (b8 = true ∧ b9 = true ∧ q6 = false ∧ q7 = false) ∨ (b8 = true ∧ b9 = true ∧ q6 = false ∧ q7 = true) := by cases b8 <;> cases b9 <;> cases q6 <;> cases q7 <;> simp
  have HQ := Lib.hid (And.intro hq1 (And.intro hq4 hq6))
  clear hq1 hq4 hq6
  have hBp := (Below.refl w.heap.size w).alloc (Nat.le_refl _) (.cells #[.int .i64 wide, .int .i64 high, .int .i64 fb, .int .i64 pt, .int .i64 pb, .int .i64 nr, .slice A n c, .int .i64 refs, .int .i64 delay] 29)
  have HBP := Lib.hid hBp
  have HS2 := Lib.hid (HS.out.below hBp (Nat.le_refl _))
  clear hBp
  rcases hcase with rfl | ⟨rfl, rfl⟩ | ⟨rfl, rfl, rfl⟩ | ⟨rfl, rfl, rfl, rfl⟩ | ⟨rfl, rfl, rfl, rfl, rfl⟩ | ⟨rfl, rfl, rfl, rfl, rfl, rfl⟩ | ⟨rfl, rfl, rfl, rfl, rfl, rfl, rfl⟩ | ⟨rfl, rfl, rfl, rfl, rfl, rfl, rfl⟩
  all_goals
    go_enter Tryz.func45, Tryz.ntmps45
    go_wp2_with (go_at_call 47; refine (in2_any _ _ _ _).mono ?_; rintro e w' ⟨rfl, rfl⟩)
  all_goals (try (exfalso; simp at h6; omega))
  all_goals (clear h0 h1 h2 h3 h4 h5 h6)
  all_goals
    go_loop [3, 4] (fun s i => ∃ k : Nat, k ≤ n ∧ i = .int .i64 k ∧ s = .bool (ok && !farN z k)) (fun s i => n - (intOf i).toNat)
    case atStart => exact ⟨0, Nat.zero_le _, rfl, by rw [HOK.out, far_zero]; rfl⟩
    case round =>
      obtain ⟨k, hk, rfl, rfl⟩ := hrel
      obtain ⟨t, ht⟩ : ∃ t, t = (ok && !farN z k) := ⟨_, rfl⟩
      rw [← ht]
      have HT := Lib.hid ht
      clear ht
      have hk0 : (0 : Int) ≤ (k : Int) := Int.natCast_nonneg _
      by_cases hlt : k < n
      · have hk1 : (k : Int) < (n : Int) := by omega
        cases t
        · go_wp2_with fail
          go_round
          case rel => exact ⟨k + 1, by omega, by go_num, by rw [far_succ]; exact congrArg Value.bool (ok_next0 HT.out)⟩
          case measure => simp [intOf]; omega
        · first | exact (not_ok HOK.out HT.out).elim | skip
          all_goals
            obtain ⟨ad, rfl, hab, hcell⟩ := Rd.at_ HS2.out hlt
            obtain ⟨b, hb⟩ : ∃ b, inB (-1000) 1000 (z k) = b := ⟨_, rfl⟩
            go_wp2_with (go_at_call 47; refine (in2_any _ _ _ _).mono ?_; rintro e w' ⟨rfl, rfl⟩)
            go_round
            case rel => exact ⟨k + 1, by omega, by go_num, by rw [far_succ, hb]; exact congrArg Value.bool (ok_next1 HT.out)⟩
            case measure => simp [intOf]; omega
      · obtain rfl : k = n := by omega
        obtain ⟨hq1, hq4, hq6⟩ := HQ.out
        cases t
        · go_wp2_with fail
          go_ret
          refine ⟨ret_bool ?_, HBP.out⟩
          rw [HF.out]
          unfold mayF2
          rw [← HT.out]
          rfl
        · first | exact (not_ok HOK.out HT.out).elim | skip
          all_goals obtain ⟨g1, g2, g3, g4, g5, h8, h9, g6, g7⟩ := HG.out
          all_goals rcases hq1 with rfl | ⟨rfl, rfl⟩ | ⟨rfl, rfl, rfl⟩ | ⟨rfl, rfl, rfl⟩
          all_goals (rcases hq4 with rfl | ⟨rfl, rfl⟩ | ⟨rfl, rfl⟩)
          all_goals (first
            | (go_wp2_with fail; go_ret; exact ⟨ret_bool (by rw [HF.out]; unfold mayF2; rw [← HT.out]; rfl), HBP.out⟩)
            | (rcases hq6 with rfl | ⟨rfl, rfl⟩ | ⟨rfl, rfl, rfl⟩ | ⟨rfl, rfl, rfl, rfl⟩ | ⟨rfl, rfl, rfl, rfl⟩
               all_goals
                 go_wp2_with (go_at_call 47; refine (in2_any _ _ _ _).mono ?_; rintro e w' ⟨rfl, rfl⟩)
                 go_ret
                 exact ⟨ret_bool (by rw [HF.out]; unfold mayF2; rw [← HT.out]; rfl), HBP.out⟩))
end Go.Proofs.YtjokibagciehlaaGreat
