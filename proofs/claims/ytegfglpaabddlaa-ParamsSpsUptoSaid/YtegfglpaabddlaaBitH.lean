/- The document's Reader. -/
import Derived.Test.YtegfglpaabddlaaBitR
import Derived.Test.YtegfglpaabddlaaBitL
namespace Go.Proofs.Ytegfglpaabddlaa
open Go.RowKit
set_option linter.unusedVariables false
set_option linter.unusedSimpArgs false

/-- a Reader of the document: block g, N bits f in block gB -/
def RR (w : World) (g gB N : Nat) (f : Nat → Bool) (a : Nat) : Prop :=
  (∃ c, Bk w g 94 #[.slice (some ⟨gB, 0, none⟩) N c, .int .i64 a]) ∧ gB ≠ g ∧ gB < w.heap.size ∧ ∀ k, k < N → w.cell? ⟨gB, k, none⟩ = some (.int .u8 (bu (f k)))
def RRPost (w : World) (g gB N : Nat) (f : Nat → Bool) (a : Nat) (w' : World) : Prop := RR w' g gB N f a ∧ Touch (RS g) w w'
section
variable {w w' w1 w2 : World} {g gB N a b : Nat} {f : Nat → Bool}
theorem RR.touch (h : RR w g gB N f a) (ht : Touch (RS g) w w') {c : Nat} (hk : ∃ cp, Bk w' g 94 #[.slice (some ⟨gB, 0, none⟩) N cp, .int .i64 c]) : RR w' g gB N f c :=
  ⟨hk, h.2.1, Nat.lt_of_lt_of_le h.2.2.1 ht.size, fun k hk => (ht.cell (p := ⟨gB, k, none⟩) h.2.2.1 h.2.1).trans (h.2.2.2 k hk)⟩
theorem RR.drewN (h : RR w g gB N f a) (n : Nat) : RR (w.drewN n) g gB N f a := h
theorem RRPost.drew {n : Nat} (h : RR w g gB N f a) : RRPost w g gB N f a (w.drewN n) := ⟨h.drewN n, (Touch.refl _ _).drewN n⟩
theorem RRPost.then (h : RRPost w g gB N f a w1) (k : RRPost w1 g gB N f b w2) : RRPost w g gB N f b w2 := ⟨k.1, h.2.trans k.2⟩
theorem RR.set (h : RR w g gB N f a) (c : Nat) : RRPost w g gB N f c (w.setCell ⟨g, 1, none⟩ (.int .i64 c)) := by
  have ht : Touch (RS g) w (w.setCell ⟨g, 1, none⟩ (.int .i64 c)) := Touch.setCell (Touch.refl (RS g) w) (p := ⟨g, 1, none⟩) (fun _ => rfl) _
  obtain ⟨⟨cp, hk⟩, hr⟩ := h
  exact ⟨RR.touch ⟨⟨cp, hk⟩, hr⟩ ht ⟨cp, hk.set_ 1 _⟩, ht⟩
theorem RR.go (h : RR w g gB N f a) (hb : Below w.heap.size w w') : RR w' g gB N f a := by
  obtain ⟨⟨cp, hk⟩, h1, h2, h3⟩ := h
  exact ⟨⟨cp, hk.go hb⟩, h1, Nat.lt_of_lt_of_le h2 hb.size, fun k hk' => (hb.cell (p := ⟨gB, k, none⟩) h2).trans (h3 k hk')⟩
end

def Answers2 (w : World) (g gB N : Nat) (f : Nat → Bool) (r : Got) (e : Ending) (w' : World) : Prop := e = .returned (.tuple #[.int .i64 r.x, .int .i64 r.e]) ∧ RRPost w g gB N f r.at_ w'

set_option maxRecDepth 100000 in
set_option maxHeartbeats 1600000 in
theorem bits2_any (g gB N : Nat) (f : Nat → Bool) (a : Nat) (n : Int) (w : World) (h : RR w g gB N f a) (hN : N ≤ 1125899906842624) (ha : a ≤ N) :
    Calls Try.prog 72 #[.pointer (some ⟨g, 0, none⟩), .int .i64 n] w (Answers2 w g gB N f (bitsR f N a n)) := by
  unfold bitsR
  have H := Lib.hid h
  obtain ⟨⟨cp, hk⟩, hr⟩ := h
  have c0 : w.cell? ⟨g, 0, none⟩ = some (.slice (some ⟨gB, 0, none⟩) N cp) := hk.cell 0
  have c1 : w.cell? ⟨g, 1, none⟩ = some (.int .i64 a) := hk.cell 1
  have f1 := hk.frozen 1
  clear hk hr
  by_cases h1 : n < 0
  · rw [if_pos (.inl h1)]
    go_enter Try.func72, Try.ntmps72
    go_wp2_with fail
    go_ret2
    exact ⟨rfl, H.out, Touch.refl _ _⟩
  by_cases h2 : 32 < n
  · rw [if_pos (.inr h2)]
    go_enter Try.func72, Try.ntmps72
    go_wp2_with fail
    go_ret2
    exact ⟨rfl, H.out, Touch.refl _ _⟩
  rw [if_neg (by omega)]
  have e1 : IntKind.i64.wrap ((N : Int) - a) = (N : Int) - a := wr_in (by omega)
  by_cases h3 : (N : Int) - a < n
  · rw [if_pos h3]
    have h3' : decide ((N : Int) - a < n) = true := by simpa using h3
    go_enter Try.func72, Try.ntmps72
    go_wp2_with fail
    go_quiet (fail)
    go_wp2_with fail
    go_ret2
    exact ⟨rfl, RRPost.drew H.out⟩
  · rw [if_neg h3]
    have h3' : decide ((N : Int) - a < n) = false := by simpa using h3
    obtain ⟨M, rfl⟩ : ∃ M : Nat, n = M := ⟨n.toNat, by omega⟩
    rw [Int.toNat_natCast]
    have hM : M ≤ 32 := by omega
    have haM : a + M ≤ N := by omega
    clear h1 h2 h3
    go_enter Try.func72, Try.ntmps72
    go_wp2_with fail
    go_quiet (fail)
    go_wp2_with fail
    clear e1 h3'
    go_loopw [6, 7] (fun s t wr => ∃ j m : Nat, j ≤ M ∧ s = .int .i64 ((val f a j : Nat) : Int) ∧ t = .int .i64 j ∧ wr = w.drewN m) (fun _ t _ => M - (intOf t).toNat)
    case atStart => exact ⟨0, nq, Nat.zero_le _, rfl, rfl, rfl⟩
    case round =>
      obtain ⟨j, m, hj, rfl, rfl, rfl⟩ := hrel
      by_cases hlt : j < M
      · have c2 : w.cell? ⟨gB, a + j, none⟩ = some (.int .u8 (bu (f (a + j)))) := H.out.2.2.2 (a + j) (by omega)
        have hv := val_lt f a j
        have h62 : (2 : Nat) ^ j ≤ 2 ^ 32 := Nat.pow_le_pow_right (by omega) (by omega)
        have hval : ((val f a (j + 1) : Nat) : Int) = 2 * ((val f a j : Nat) : Int) + bu (f (a + j)) := by rw [val]; unfold bu; omega
        have hbb := bu_bd (f (a + j))
        obtain ⟨x, hx⟩ : ∃ x, x = val f a j := ⟨_, rfl⟩
        obtain ⟨y, hy⟩ : ∃ y, y = bu (f (a + j)) := ⟨_, rfl⟩
        obtain ⟨p, hp⟩ : ∃ p : Nat, p = a + j := ⟨_, rfl⟩
        have hpi : (a : Int) + j = p := by omega
        have hpN : p < N := by omega
        have hpN2 : (p : Int) < N := by omega
        rw [← hy, ← hp] at c2
        rw [← hx, ← hy] at hval
        rw [← hy] at hbb
        rw [← hx] at hv ⊢
        have w1 : IntKind.i64.wrap (2 * (x : Int)) = 2 * x := wr_in (by omega)
        have w2 : IntKind.i64.wrap ((a : Int) + j) = p := by rw [wr_in (by omega)]; exact hpi
        have w3 : IntKind.i64.wrap y = y := wr_in (by omega)
        have w4 : IntKind.i64.wrap (2 * (x : Int) + y) = 2 * x + y := wr_in (by omega)
        have HV := Lib.hid hval
        clear hval hv h62 hx hy hp hpi
        go_wp2_with fail
        go_quiet (fail)
        go_wp2_with fail
        go_roundw
        case rel => exact ⟨j + 1, m + nq, by omega, by rw [HV.out], by go_num, rfl⟩
        case measure => simp [intOf]; omega
      · obtain rfl : j = M := by omega
        have HV : Hid (RRPost w g gB N f (a + j) ((w.drewN m).setCell ⟨g, 1, none⟩ (.int .i64 ((a + j : Nat) : Int)))) := Lib.hid (RRPost.then (RRPost.drew H.out) ((H.out.drewN m).set (a + j)))
        have hpi : ((a + j : Nat) : Int) = (a : Int) + j := by omega
        rw [hpi] at HV
        clear hpi
        go_wp2_with fail
        go_ret2
        exact ⟨rfl, HV.out⟩

set_option maxRecDepth 100000 in
set_option maxHeartbeats 1600000 in
theorem uer_any (g gB N : Nat) (f : Nat → Bool) (a : Nat) (w : World) (h : RR w g gB N f a) (hN : N ≤ 1125899906842624) (ha : a ≤ N) :
    Calls Try.prog 67 #[.pointer (some ⟨g, 0, none⟩)] w (Answers2 w g gB N f (ueR f N a)) := by
  have H := Lib.hid h
  obtain ⟨⟨cp, hk⟩, hr⟩ := h
  have c0 : w.cell? ⟨g, 0, none⟩ = some (.slice (some ⟨gB, 0, none⟩) N cp) := hk.cell 0
  have c1 : w.cell? ⟨g, 1, none⟩ = some (.int .i64 a) := hk.cell 1
  have f1 := hk.frozen 1
  clear hk hr
  have e1 : IntKind.i64.wrap ((N : Int) - a) = (N : Int) - a := wr_in (by omega)
  go_enter Try.func67, Try.ntmps67
  go_wp2_with fail
  go_loopw [4] (fun t wr => ∃ k m : Nat, k ≤ 30 ∧ t = .int .i64 k ∧ wr = w.drewN m ∧ scan f N a 31 0 = scan f N a (31 - k) k) (fun t _ => 40 - (intOf t).toNat)
  case atStart => exact ⟨0, 0, by omega, rfl, rfl, rfl⟩
  case round =>
    obtain ⟨k, m, hk, rfl, rfl, hsc⟩ := hrel
    have hk0 : (0 : Int) ≤ k := Int.natCast_nonneg _
    have hsc2 : scan f N a (31 - k) k = if N ≤ a + k then .inr 100 else if f (a + k) = true then .inl k else scan f N a (31 - (k + 1)) (k + 1) := by
      rw [show 31 - k = (31 - (k + 1)) + 1 by omega, scan]
    have e2 : IntKind.i64.wrap ((a : Int) + k) = (a : Int) + k := wr_in (by omega)
    by_cases hend : N ≤ a + k
    · have h5 : (N : Int) ≤ (a : Int) + k := by omega
      have hu : ueR f N a = ⟨0, 100, a⟩ := by unfold ueR; rw [hsc, hsc2, if_pos hend]
      have HU := Lib.hid hu
      clear hsc hsc2 hu hend
      go_wp2_with fail
      go_quiet (fail)
      go_wp2_with fail
      go_ret2
      refine ⟨?_, ?_⟩
      · rw [HU.out]; rfl
      · rw [HU.out]; (try simp only [World.drewN_drewN]); exact RRPost.drew H.out
    · have h5 : ¬ (N : Int) ≤ (a : Int) + k := by omega
      have h6 : (a : Int) + k < N := by omega
      rw [if_neg hend] at hsc2
      obtain ⟨p, hp⟩ : ∃ p : Nat, p = a + k := ⟨_, rfl⟩
      have hpi : (a : Int) + k = p := by omega
      have hpN : p < N := by omega
      have hpN2 : (p : Int) < N := by omega
      have c2 : w.cell? ⟨gB, p, none⟩ = some (.int .u8 (bu (f p))) := H.out.2.2.2 p hpN
      rw [← hp] at hsc2
      rw [hpi] at e2 h5 h6
      have e3 : IntKind.i64.wrap ((a : Int) + k) = p := by rw [hpi]; exact e2
      by_cases hb : f p = true
      · rw [if_pos hb] at hsc2
        rw [hb] at c2
        have c2 : w.cell? ⟨gB, p, none⟩ = some (.int .u8 1) := c2
        have hsc3 := hsc.trans hsc2
        have HSC := Lib.hid hsc3
        have hval := ueR_val hsc3
        clear hsc hsc2 hsc3 hend hb e2
        have e4 : IntKind.i64.wrap (2 * (k : Int)) = 2 * k := wr_in (by omega)
        have e5 : IntKind.i64.wrap (2 * (k : Int) + 1) = 2 * k + 1 := wr_in (by omega)
        by_cases hlast : N < a + (2 * k + 1)
        · have h7 : (N : Int) - a < 2 * (k : Int) + 1 := by omega
          have h7' : decide ((N : Int) - a < 2 * (k : Int) + 1) = true := by simpa using h7
          have hu : ueR f N a = ⟨0, 100, a⟩ := by unfold ueR; rw [HSC.out]; simp only; rw [if_pos hlast]
          have HU := Lib.hid hu
          clear hu hlast hval hp hpi
          go_wp2_with fail
          go_quiet (fail)
          go_wp2_with fail
          go_quiet (fail)
          go_wp2_with fail
          go_quiet (fail)
          go_wp2_with fail
          go_ret2
          refine ⟨?_, ?_⟩
          · rw [HU.out]; rfl
          · rw [HU.out]; (try simp only [World.drewN_drewN]); exact RRPost.drew H.out
        · have h7 : ¬ (N : Int) - a < 2 * (k : Int) + 1 := by omega
          have h7' : decide ((N : Int) - a < 2 * (k : Int) + 1) = false := by simpa using h7
          have hu : ueR f N a = ⟨(val f a (2 * k + 1) : Int) - 1, 0, a + (2 * k + 1)⟩ := by unfold ueR; rw [HSC.out]; simp only; rw [if_neg hlast]
          have HU := Lib.hid hu
          have hlt := val_lt f p (k + 1)
          have h31 : (2 : Nat) ^ (k + 1) ≤ 2 ^ 31 := Nat.pow_le_pow_right (by omega) (by omega)
          have hset : ∀ n : Nat, RRPost w g gB N f p ((w.drewN n).setCell ⟨g, 1, none⟩ (.int .i64 p)) := fun n => RRPost.then (RRPost.drew H.out) ((H.out.drewN n).set p)
          have hb2 : bitsR f N p ((k : Int) + 1) = ⟨val f p (k + 1), 0, p + (k + 1)⟩ := by
            unfold bitsR
            rw [if_neg (by omega), if_neg (by omega), show ((k : Int) + 1).toNat = k + 1 by omega]
          have hBB : Hid (∀ n : Nat, Calls Try.prog 72 #[.pointer (some ⟨g, 0, none⟩), .int .i64 ((k : Int) + 1)] ((w.drewN n).setCell ⟨g, 1, none⟩ (.int .i64 p)) fun e w' => e = .returned (.tuple #[.int .i64 (val f p (k + 1)), .int .i64 0]) ∧ RRPost w g gB N f (p + (k + 1)) w') := Lib.hid fun n => by
            have := bits2_any g gB N f p ((k : Int) + 1) _ (hset n).1 hN (by omega)
            unfold Answers2 at this
            rw [hb2] at this
            exact this.mono fun e w' q => ⟨q.1, (hset n).then q.2⟩
          obtain ⟨x, hx⟩ : ∃ x, x = val f p (k + 1) := ⟨_, rfl⟩
          rw [← hx] at hBB hlt
          have hxb : x ≤ 2147483648 := by omega
          have hxv : val f a (2 * k + 1) = x := by rw [hval, ← hp, hx]
          have HXV := Lib.hid hxv
          have hat : a + (2 * k + 1) = p + (k + 1) := by omega
          have HAT := Lib.hid hat
          clear hu hlast hval hp hlt h31 hset hb2 hx hxv hat
          go_wp2_with fail
          go_quiet (fail)
          go_wp2_with fail
          go_quiet (fail)
          go_wp2_with fail
          go_quiet (fail)
          go_wp2_with fail
          ((with_reducible refine (hBB.out _).mono ?_))
          rintro e w' ⟨rfl, hq⟩
          have HQ := Lib.hid hq
          clear hq hBB
          go_wp2_with fail
          go_ret2
          refine ⟨?_, ?_⟩
          · rw [HU.out]
            show _ = Ending.returned (.tuple #[.int .i64 ((val f a (2 * k + 1) : Int) - 1), .int .i64 0])
            rw [HXV.out]
            rfl
          · rw [HU.out]
            show RRPost w g gB N f (a + (2 * k + 1)) w'
            rw [HAT.out]
            exact HQ.out
      · have hb0 : f p = false := by simpa using hb
        rw [if_neg hb] at hsc2
        rw [hb0] at c2
        have c2 : w.cell? ⟨gB, p, none⟩ = some (.int .u8 0) := c2
        have hsc3 := hsc.trans hsc2
        clear hsc hsc2 hend hb hb0 e2 hp hpi
        by_cases h31 : k = 30
        · have h8 : (30 : Int) < k + 1 := by omega
          have hu : ueR f N a = ⟨0, 101, a⟩ := by unfold ueR; rw [hsc3, h31]; rfl
          have HU := Lib.hid hu
          clear hu hsc3 h31
          go_wp2_with fail
          go_quiet (fail)
          go_wp2_with fail
          go_quiet (fail)
          go_wp2_with fail
          go_ret2
          refine ⟨?_, ?_⟩
          · rw [HU.out]; rfl
          · rw [HU.out]; (try simp only [World.drewN_drewN]); exact RRPost.drew H.out
        · have h8 : ¬ (30 : Int) < k + 1 := by omega
          have HSC := Lib.hid hsc3
          have hk29 : k + 1 ≤ 30 := by omega
          clear hsc3 h31
          go_wp2_with fail
          go_quiet (fail)
          go_wp2_with fail
          go_quiet (fail)
          go_wp2_with fail
          go_roundw
          case rel => exact ⟨k + 1, _, by omega, by go_num, rfl, HSC.out⟩
          case measure => simp [intOf]; omega
end Go.Proofs.Ytegfglpaabddlaa
