/- The document's bits: Digits, Ue, Se, Te, Trail, Pack. The document's Reader. The document's Reader: Se, Te, More, Trail; Open. The document's Reader: More, Trail; Open. The document's reader's fields. -/
import Derived.Test.YtjokibagciehlaaGreatBitX
import Derived.Test.YtjokibagciehlaaGreatMake
import Derived.Test.YtjokibagciehlaaGreatBitL
import Derived.Test.YtjokibagciehlaaGreatParP
namespace Go.Proofs.YtjokibagciehlaaGreat
open Go.RowKit
set_option linter.unusedVariables false
set_option linter.unusedSimpArgs false

/-- bits as the document's bytes -/
def bu (x : Bool) : Int := ((x.toNat : Nat) : Int)
theorem bu_bd (x : Bool) : 0 ≤ bu x ∧ bu x ≤ 1 := by cases x <;> decide
def bitsV (b : List Bool) : List Value := b.map fun x => .int .u8 (bu x)
theorem bitsV_append (a b : List Bool) : bitsV (a ++ b) = bitsV a ++ bitsV b := by simp [bitsV]
/-- what such a call answers: a new row of bits -/
def BRow (w : World) (b : List Bool) (e : Ending) (w' : World) : Prop := ∃ v, e = .returned v ∧ w'.ownsRow w.heap.size 5 1 v b.length (bitsV b) ∧ Below w.heap.size w w'
theorem Rd.bits {w : World} {base : Nat} {v : Value} {b : List Bool} (h : w.ownsRow base 5 1 v b.length (bitsV b)) :
    ∃ A c, v = .slice A b.length c ∧ b.length ≤ c ∧ c ≤ maxLen ∧ Rd w w.heap.size A b.length (fun k => .int .u8 (bu (b.getD k false))) := by
  obtain ⟨A, c, hv, hc, hm, hr⟩ := Rd.of_own h
  exact ⟨A, c, hv, hc, hm, hr.congr fun k hk => by simp [bitsV, List.getD_eq_getElem?_getD, hk]⟩
theorem BRow.below {w w1 : World} {b : List Bool} {e : Ending} {w' : World} (h : BRow w b e w') : Below w.heap.size w w' := h.choose_spec.2.2

/-- a row of bits that was appended to -/
def BGrow (w : World) (base : Nat) (v : Value) (b : List Bool) (v' : Value) (w' : World) : Prop := w'.ownsRow base 5 1 v' b.length (bitsV b) ∧ Touch (fun k => v.ownBlock = some k) w w' ∧ New w v v'
theorem BGrow.step {w w1 w2 : World} {base : Nat} {v v1 v2 : Value} {b c d : List Bool} {o : Option Obj} (h : BGrow w base v b v1 w1) (ho : w2.ownsRow base 5 1 v2 c.length (bitsV c)) {wa : World} (ha : wa = w1 ∨ ∃ o, wa = w1.alloc o) (hg : wa.grownBy w2 v1.ownBlock) {N : Nat} (hat : v2.ownBlock = v1.ownBlock ∨ v2.ownBlock = some N) (hN : w1.heap.size ≤ N) : BGrow w base v c v2 w2 := by
  obtain ⟨h1, h2, h3⟩ := h
  have hs : w1.heap.size ≤ wa.heap.size := by rcases ha with rfl | ⟨o, rfl⟩ <;> simp
  have hta : Touch (fun k => v.ownBlock = some k) w wa := by
    rcases ha with rfl | ⟨o, rfl⟩
    · exact h2
    · exact h2.alloc o
  refine ⟨ho, hta.grown hg (fun k e hk => ?_), h3.step h2.size ?_⟩
  · rcases h3 with h | ⟨i, h, hi⟩
    · exact h.symm.trans e
    · rw [h] at e
      have : i = k := by injection e
      omega
  · rcases hat with h | h
    · exact .inl h
    · exact .inr ⟨_, h, hN⟩

end Go.Proofs.YtjokibagciehlaaGreat

namespace Go.Proofs.YtjokibagciehlaaGreat
open Go.RowKit
set_option linter.unusedVariables false
set_option linter.unusedSimpArgs false

/-- a Reader of the document: block g, N bits f in block gB -/
def RR (w : World) (g gB N : Nat) (f : Nat → Bool) (a : Nat) : Prop :=
  (∃ c, Bk w g 57 #[.slice (some ⟨gB, 0, none⟩) N c, .int .i64 a]) ∧ gB ≠ g ∧ gB < w.heap.size ∧ ∀ k, k < N → w.cell? ⟨gB, k, none⟩ = some (.int .u8 (bu (f k)))
def RRPost (w : World) (g gB N : Nat) (f : Nat → Bool) (a : Nat) (w' : World) : Prop := RR w' g gB N f a ∧ Touch (RS g) w w'
section
variable {w w' w1 w2 : World} {g gB N a b : Nat} {f : Nat → Bool}
theorem RR.touch (h : RR w g gB N f a) (ht : Touch (RS g) w w') {c : Nat} (hk : ∃ cp, Bk w' g 57 #[.slice (some ⟨gB, 0, none⟩) N cp, .int .i64 c]) : RR w' g gB N f c :=
  ⟨hk, h.2.1, Nat.lt_of_lt_of_le h.2.2.1 ht.size, fun k hk => (ht.cell (p := ⟨gB, k, none⟩) h.2.2.1 h.2.1).trans (h.2.2.2 k hk)⟩
theorem RR.drewN (h : RR w g gB N f a) (n : Nat) : RR (w.drewN n) g gB N f a := h
theorem RRPost.drew {n : Nat} (h : RR w g gB N f a) : RRPost w g gB N f a (w.drewN n) := ⟨h.drewN n, (Touch.refl _ _).drewN n⟩
theorem RRPost.then (h : RRPost w g gB N f a w1) (k : RRPost w1 g gB N f b w2) : RRPost w g gB N f b w2 := ⟨k.1, h.2.trans k.2⟩
theorem RR.set (h : RR w g gB N f a) (c : Nat) : RRPost w g gB N f c (w.setCell ⟨g, 1, none⟩ (.int .i64 c)) := by
  have ht : Touch (RS g) w (w.setCell ⟨g, 1, none⟩ (.int .i64 c)) := Touch.setCell (Touch.refl (RS g) w) (p := ⟨g, 1, none⟩) (fun _ => rfl) _
  obtain ⟨⟨cp, hk⟩, hr⟩ := h
  exact ⟨RR.touch ⟨⟨cp, hk⟩, hr⟩ ht ⟨cp, hk.set_ 1 _⟩, ht⟩
theorem RR.go (h : RR w g gB N f a) (hb : Below w.heap.size w w') : RR w' g gB N f a := by
  obtain ⟨⟨cp, hk⟩, h1, h2, h3⟩ := h
  exact ⟨⟨cp, hk.go hb⟩, h1, Nat.lt_of_lt_of_le h2 hb.size, fun k hk' => (hb.cell (p := ⟨gB, k, none⟩) h2).trans (h3 k hk')⟩
end

def Answers2 (w : World) (g gB N : Nat) (f : Nat → Bool) (r : Got) (e : Ending) (w' : World) : Prop := e = .returned (.tuple #[.int .i64 r.x, .int .i64 r.e]) ∧ RRPost w g gB N f r.at_ w'

set_option maxRecDepth 100000 in
set_option maxHeartbeats 1600000 in
theorem bits2_any (g gB N : Nat) (f : Nat → Bool) (a : Nat) (n : Int) (w : World) (h : RR w g gB N f a) (hN : N ≤ 1125899906842624) (ha : a ≤ N) :
    Calls Tryz.prog 22 #[.pointer (some ⟨g, 0, none⟩), .int .i64 n] w (Answers2 w g gB N f (bitsR f N a n)) := by
  unfold bitsR
  have H := Lib.hid h
  obtain ⟨⟨cp, hk⟩, hr⟩ := h
  have c0 : w.cell? ⟨g, 0, none⟩ = some (.slice (some ⟨gB, 0, none⟩) N cp) := hk.cell 0
  have c1 : w.cell? ⟨g, 1, none⟩ = some (.int .i64 a) := hk.cell 1
  have f1 := hk.frozen 1
  clear hk hr
  by_cases h1 : n < 0
  · rw [if_pos (.inl h1)]
    go_enter Tryz.func22, Tryz.ntmps22
    go_wp2_with fail
    go_ret2
    exact ⟨rfl, H.out, Touch.refl _ _⟩
  by_cases h2 : 32 < n
  · rw [if_pos (.inr h2)]
    go_enter Tryz.func22, Tryz.ntmps22
    go_wp2_with fail
    go_ret2
    exact ⟨rfl, H.out, Touch.refl _ _⟩
  rw [if_neg (by omega)]
  have e1 : IntKind.i64.wrap ((N : Int) - a) = (N : Int) - a := wr_in (by omega)
  by_cases h3 : (N : Int) - a < n
  · rw [if_pos h3]
    have h3' : decide ((N : Int) - a < n) = true := by simpa using h3
    go_enter Tryz.func22, Tryz.ntmps22
    go_wp2_with fail
    go_quiet (fail)
    go_wp2_with fail
    go_ret2
    exact ⟨rfl, RRPost.drew H.out⟩
  · rw [if_neg h3]
    have h3' : decide ((N : Int) - a < n) = false := by simpa using h3
    obtain ⟨M, rfl⟩ : ∃ M : Nat, n = M := ⟨n.toNat, by omega⟩
    rw [Int.toNat_natCast]
    have hM : M ≤ 32 := by omega
    have haM : a + M ≤ N := by omega
    clear h1 h2 h3
    go_enter Tryz.func22, Tryz.ntmps22
    go_wp2_with fail
    go_quiet (fail)
    go_wp2_with fail
    clear e1 h3'
    go_loopw [6, 7] (fun s t wr => ∃ j m : Nat, j ≤ M ∧ s = .int .i64 ((val f a j : Nat) : Int) ∧ t = .int .i64 j ∧ wr = w.drewN m) (fun _ t _ => M - (intOf t).toNat)
    case atStart => exact ⟨0, nq, Nat.zero_le _, rfl, rfl, rfl⟩
    case round =>
      obtain ⟨j, m, hj, rfl, rfl, rfl⟩ := hrel
      by_cases hlt : j < M
      · have c2 : w.cell? ⟨gB, a + j, none⟩ = some (.int .u8 (bu (f (a + j)))) := H.out.2.2.2 (a + j) (by omega)
        have hv := val_lt f a j
        have h62 : (2 : Nat) ^ j ≤ 2 ^ 32 := Nat.pow_le_pow_right (by omega) (by omega)
        have hval : ((val f a (j + 1) : Nat) : Int) = 2 * ((val f a j : Nat) : Int) + bu (f (a + j)) := by rw [val]; unfold bu; omega
        have hbb := bu_bd (f (a + j))
        obtain ⟨x, hx⟩ : ∃ x, x = val f a j := ⟨_, rfl⟩
        obtain ⟨y, hy⟩ : ∃ y, y = bu (f (a + j)) := ⟨_, rfl⟩
        obtain ⟨p, hp⟩ : ∃ p : Nat, p = a + j := ⟨_, rfl⟩
        have hpi : (a : Int) + j = p := by omega
        have hpN : p < N := by omega
        have hpN2 : (p : Int) < N := by omega
        rw [← hy, ← hp] at c2
        rw [← hx, ← hy] at hval
        rw [← hy] at hbb
        rw [← hx] at hv ⊢
        have w1 : IntKind.i64.wrap (2 * (x : Int)) = 2 * x := wr_in (by omega)
        have w2 : IntKind.i64.wrap ((a : Int) + j) = p := by rw [wr_in (by omega)]; exact hpi
        have w3 : IntKind.i64.wrap y = y := wr_in (by omega)
        have w4 : IntKind.i64.wrap (2 * (x : Int) + y) = 2 * x + y := wr_in (by omega)
        have HV := Lib.hid hval
        clear hval hv h62 hx hy hp hpi
        go_wp2_with fail
        go_quiet (fail)
        go_wp2_with fail
        go_roundw
        case rel => exact ⟨j + 1, m + nq, by omega, by rw [HV.out], by go_num, rfl⟩
        case measure => simp [intOf]; omega
      · obtain rfl : j = M := by omega
        have HV : Hid (RRPost w g gB N f (a + j) ((w.drewN m).setCell ⟨g, 1, none⟩ (.int .i64 ((a + j : Nat) : Int)))) := Lib.hid (RRPost.then (RRPost.drew H.out) ((H.out.drewN m).set (a + j)))
        have hpi : ((a + j : Nat) : Int) = (a : Int) + j := by omega
        rw [hpi] at HV
        clear hpi
        go_wp2_with fail
        go_ret2
        exact ⟨rfl, HV.out⟩

set_option maxRecDepth 100000 in
set_option maxHeartbeats 1600000 in
theorem uer_any (g gB N : Nat) (f : Nat → Bool) (a : Nat) (w : World) (h : RR w g gB N f a) (hN : N ≤ 1125899906842624) (ha : a ≤ N) :
    Calls Tryz.prog 112 #[.pointer (some ⟨g, 0, none⟩)] w (Answers2 w g gB N f (ueR f N a)) := by
  have H := Lib.hid h
  obtain ⟨⟨cp, hk⟩, hr⟩ := h
  have c0 : w.cell? ⟨g, 0, none⟩ = some (.slice (some ⟨gB, 0, none⟩) N cp) := hk.cell 0
  have c1 : w.cell? ⟨g, 1, none⟩ = some (.int .i64 a) := hk.cell 1
  have f1 := hk.frozen 1
  clear hk hr
  have e1 : IntKind.i64.wrap ((N : Int) - a) = (N : Int) - a := wr_in (by omega)
  go_enter Tryz.func112, Tryz.ntmps112
  go_wp2_with fail
  go_loopw [4] (fun t wr => ∃ k m : Nat, k ≤ 30 ∧ t = .int .i64 k ∧ wr = w.drewN m ∧ scan f N a 31 0 = scan f N a (31 - k) k) (fun t _ => 40 - (intOf t).toNat)
  case atStart => exact ⟨0, 0, by omega, rfl, rfl, rfl⟩
  case round =>
    obtain ⟨k, m, hk, rfl, rfl, hsc⟩ := hrel
    have hk0 : (0 : Int) ≤ k := Int.natCast_nonneg _
    have hsc2 : scan f N a (31 - k) k = if N ≤ a + k then .inr 100 else if f (a + k) = true then .inl k else scan f N a (31 - (k + 1)) (k + 1) := by
      rw [show 31 - k = (31 - (k + 1)) + 1 by omega, scan]
    have e2 : IntKind.i64.wrap ((a : Int) + k) = (a : Int) + k := wr_in (by omega)
    by_cases hend : N ≤ a + k
    · have h5 : (N : Int) ≤ (a : Int) + k := by omega
      have hu : ueR f N a = ⟨0, 100, a⟩ := by unfold ueR; rw [hsc, hsc2, if_pos hend]
      have HU := Lib.hid hu
      clear hsc hsc2 hu hend
      go_wp2_with fail
      go_quiet (fail)
      go_wp2_with fail
      go_ret2
      refine ⟨?_, ?_⟩
      · rw [HU.out]; rfl
      · rw [HU.out]; (try simp only [World.drewN_drewN]); exact RRPost.drew H.out
    · have h5 : ¬ (N : Int) ≤ (a : Int) + k := by omega
      have h6 : (a : Int) + k < N := by omega
      rw [if_neg hend] at hsc2
      obtain ⟨p, hp⟩ : ∃ p : Nat, p = a + k := ⟨_, rfl⟩
      have hpi : (a : Int) + k = p := by omega
      have hpN : p < N := by omega
      have hpN2 : (p : Int) < N := by omega
      have c2 : w.cell? ⟨gB, p, none⟩ = some (.int .u8 (bu (f p))) := H.out.2.2.2 p hpN
      rw [← hp] at hsc2
      rw [hpi] at e2 h5 h6
      have e3 : IntKind.i64.wrap ((a : Int) + k) = p := by rw [hpi]; exact e2
      by_cases hb : f p = true
      · rw [if_pos hb] at hsc2
        rw [hb] at c2
        have c2 : w.cell? ⟨gB, p, none⟩ = some (.int .u8 1) := c2
        have hsc3 := hsc.trans hsc2
        have HSC := Lib.hid hsc3
        have hval := ueR_val hsc3
        clear hsc hsc2 hsc3 hend hb e2
        have e4 : IntKind.i64.wrap (2 * (k : Int)) = 2 * k := wr_in (by omega)
        have e5 : IntKind.i64.wrap (2 * (k : Int) + 1) = 2 * k + 1 := wr_in (by omega)
        by_cases hlast : N < a + (2 * k + 1)
        · have h7 : (N : Int) - a < 2 * (k : Int) + 1 := by omega
          have h7' : decide ((N : Int) - a < 2 * (k : Int) + 1) = true := by simpa using h7
          have hu : ueR f N a = ⟨0, 100, a⟩ := by unfold ueR; rw [HSC.out]; simp only; rw [if_pos hlast]
          have HU := Lib.hid hu
          clear hu hlast hval hp hpi
          go_wp2_with fail
          go_quiet (fail)
          go_wp2_with fail
          go_quiet (fail)
          go_wp2_with fail
          go_quiet (fail)
          go_wp2_with fail
          go_ret2
          refine ⟨?_, ?_⟩
          · rw [HU.out]; rfl
          · rw [HU.out]; (try simp only [World.drewN_drewN]); exact RRPost.drew H.out
        · have h7 : ¬ (N : Int) - a < 2 * (k : Int) + 1 := by omega
          have h7' : decide ((N : Int) - a < 2 * (k : Int) + 1) = false := by simpa using h7
          have hu : ueR f N a = ⟨(val f a (2 * k + 1) : Int) - 1, 0, a + (2 * k + 1)⟩ := by unfold ueR; rw [HSC.out]; simp only; rw [if_neg hlast]
          have HU := Lib.hid hu
          have hlt := val_lt f p (k + 1)
          have h31 : (2 : Nat) ^ (k + 1) ≤ 2 ^ 31 := Nat.pow_le_pow_right (by omega) (by omega)
          have hset : ∀ n : Nat, RRPost w g gB N f p ((w.drewN n).setCell ⟨g, 1, none⟩ (.int .i64 p)) := fun n => RRPost.then (RRPost.drew H.out) ((H.out.drewN n).set p)
          have hb2 : bitsR f N p ((k : Int) + 1) = ⟨val f p (k + 1), 0, p + (k + 1)⟩ := by
            unfold bitsR
            rw [if_neg (by omega), if_neg (by omega), show ((k : Int) + 1).toNat = k + 1 by omega]
          have hBB : Hid (∀ n : Nat, Calls Tryz.prog 22 #[.pointer (some ⟨g, 0, none⟩), .int .i64 ((k : Int) + 1)] ((w.drewN n).setCell ⟨g, 1, none⟩ (.int .i64 p)) fun e w' => e = .returned (.tuple #[.int .i64 (val f p (k + 1)), .int .i64 0]) ∧ RRPost w g gB N f (p + (k + 1)) w') := Lib.hid fun n => by
            have := bits2_any g gB N f p ((k : Int) + 1) _ (hset n).1 hN (by omega)
            unfold Answers2 at this
            rw [hb2] at this
            exact this.mono fun e w' q => ⟨q.1, (hset n).then q.2⟩
          obtain ⟨x, hx⟩ : ∃ x, x = val f p (k + 1) := ⟨_, rfl⟩
          rw [← hx] at hBB hlt
          have hxb : x ≤ 2147483648 := by omega
          have hxv : val f a (2 * k + 1) = x := by rw [hval, ← hp, hx]
          have HXV := Lib.hid hxv
          have hat : a + (2 * k + 1) = p + (k + 1) := by omega
          have HAT := Lib.hid hat
          clear hu hlast hval hp hlt h31 hset hb2 hx hxv hat
          go_wp2_with fail
          go_quiet (fail)
          go_wp2_with fail
          go_quiet (fail)
          go_wp2_with fail
          go_quiet (fail)
          go_wp2_with fail
          ((with_reducible refine (hBB.out _).mono ?_))
          rintro e w' ⟨rfl, hq⟩
          have HQ := Lib.hid hq
          clear hq hBB
          go_wp2_with fail
          go_ret2
          refine ⟨?_, ?_⟩
          · rw [HU.out]
            show _ = Ending.returned (.tuple #[.int .i64 ((val f a (2 * k + 1) : Int) - 1), .int .i64 0])
            rw [HXV.out]
            rfl
          · rw [HU.out]
            show RRPost w g gB N f (a + (2 * k + 1)) w'
            rw [HAT.out]
            exact HQ.out
      · have hb0 : f p = false := by simpa using hb
        rw [if_neg hb] at hsc2
        rw [hb0] at c2
        have c2 : w.cell? ⟨gB, p, none⟩ = some (.int .u8 0) := c2
        have hsc3 := hsc.trans hsc2
        clear hsc hsc2 hend hb hb0 e2 hp hpi
        by_cases h31 : k = 30
        · have h8 : (30 : Int) < k + 1 := by omega
          have hu : ueR f N a = ⟨0, 101, a⟩ := by unfold ueR; rw [hsc3, h31]; rfl
          have HU := Lib.hid hu
          clear hu hsc3 h31
          go_wp2_with fail
          go_quiet (fail)
          go_wp2_with fail
          go_quiet (fail)
          go_wp2_with fail
          go_ret2
          refine ⟨?_, ?_⟩
          · rw [HU.out]; rfl
          · rw [HU.out]; (try simp only [World.drewN_drewN]); exact RRPost.drew H.out
        · have h8 : ¬ (30 : Int) < k + 1 := by omega
          have HSC := Lib.hid hsc3
          have hk29 : k + 1 ≤ 30 := by omega
          clear hsc3 h31
          go_wp2_with fail
          go_quiet (fail)
          go_wp2_with fail
          go_quiet (fail)
          go_wp2_with fail
          go_roundw
          case rel => exact ⟨k + 1, _, by omega, by go_num, rfl, HSC.out⟩
          case measure => simp [intOf]; omega
end Go.Proofs.YtjokibagciehlaaGreat

namespace Go.Proofs.YtjokibagciehlaaGreat
open Go.RowKit
set_option linter.unusedVariables false
set_option linter.unusedSimpArgs false

theorem ueR_e0 {f : Nat → Bool} {N a : Nat} (ha : a ≤ N) : ((ueR f N a).e = 0 ∧ 0 ≤ (ueR f N a).x ∧ (ueR f N a).x ≤ 2147483646) ∨ ((ueR f N a).x = 0 ∧ ((ueR f N a).e = 100 ∨ (ueR f N a).e = 101)) := by
  have h := ueR_bd f N a ha
  rcases h.2.2.2.2 with q | q
  · exact .inl ⟨q, h.1, h.2.1⟩
  · exact .inr ⟨q.1, q.2.2⟩

theorem ser_any (g gB N : Nat) (f : Nat → Bool) (a : Nat) (w : World) (h : RR w g gB N f a) (hN : N ≤ 1125899906842624) (ha : a ≤ N) :
    Calls Tryz.prog 120 #[.pointer (some ⟨g, 0, none⟩)] w (Answers2 w g gB N f (seR f N a)) := by
  have HU := Lib.hid (uer_any g gB N f a w h hN ha)
  have hb := ueR_e0 (f := f) ha
  unfold seR
  obtain ⟨r, hr⟩ : ∃ r, r = ueR f N a := ⟨_, rfl⟩
  rw [← hr] at HU hb ⊢
  obtain ⟨x, ec, q⟩ := r
  simp only at hb
  clear hr h hN ha
  rcases hb with ⟨rfl, hx0, hx1⟩ | ⟨rfl, rfl | rfl⟩
  · by_cases hx : x % 2 = 1
    · have h2 : (x % 2 == 1) = true := by simp [hx]
      have HX : Hid (sgn x = (x + 1) / 2) := Lib.hid (if_pos hx)
      clear hx
      go_enter Tryz.func120, Tryz.ntmps120
      go_wp2_with fail
      refine HU.out.mono ?_
      rintro e w' ⟨rfl, hp⟩
      have HP := Lib.hid hp
      clear hp HU
      go_wp2_with fail
      go_ret2
      exact ⟨by show _ = Ending.returned (.tuple #[.int .i64 (sgn x), .int .i64 ((0 : Nat) : Int)]); rw [HX.out]; rfl, HP.out⟩
    · have h2 : (x % 2 == 1) = false := by simp; omega
      have h3 : (-x).tdiv 2 = -(x / 2) := by rw [Int.neg_tdiv, Int.tdiv_eq_ediv_of_nonneg hx0]
      have HX : Hid (sgn x = -(x / 2)) := Lib.hid (if_neg hx)
      clear hx
      go_enter Tryz.func120, Tryz.ntmps120
      go_wp2_with fail
      refine HU.out.mono ?_
      rintro e w' ⟨rfl, hp⟩
      have HP := Lib.hid hp
      clear hp HU
      go_wp2_with fail
      go_ret2
      exact ⟨by show _ = Ending.returned (.tuple #[.int .i64 (sgn x), .int .i64 ((0 : Nat) : Int)]); rw [HX.out]; rfl, HP.out⟩
  all_goals
    go_enter Tryz.func120, Tryz.ntmps120
    go_wp2_with fail
    refine HU.out.mono ?_
    rintro e w' ⟨rfl, hp⟩
    have HP := Lib.hid hp
    clear hp HU
    go_wp2_with fail
    go_ret2
    exact ⟨rfl, HP.out⟩

end Go.Proofs.YtjokibagciehlaaGreat

namespace Go.Proofs.YtjokibagciehlaaGreat
open Go.RowKit
set_option linter.unusedVariables false
set_option linter.unusedSimpArgs false
theorem and1_u8 (a : Nat) (ha : a < 256) : bits .and .u8 (a : Int) 1 = ((a % 2 : Nat) : Int) := by
  show IntKind.u8.wrap ((BitVec.ofInt 8 (a : Int) &&& BitVec.ofInt 8 1).toNat : Int) = _
  rw [BitVec.toNat_and, BitVec.ofInt_natCast, BitVec.toNat_ofNat, Nat.mod_eq_of_lt (show a < 2 ^ 8 from ha)]
  rw [show (BitVec.ofInt 8 1).toNat = 1 from by decide, Nat.and_one_is_mod, u8_wrap]
  omega
theorem bitsV_map (F : Nat → Bool) (n : Nat) : bitsV ((List.range n).map F) = (List.range n).map fun k => .int .u8 (bu (F k)) := by simp [bitsV]
def OpenR (w : World) (s : ByteArray) (e : Ending) (w' : World) : Prop := ∃ gB cp, e = .returned (.slice (some ⟨gB, 0, none⟩) (8 * s.size) cp) ∧ w.heap.size ≤ gB ∧ gB < w'.heap.size ∧ (∀ k, k < 8 * s.size → w'.cell? ⟨gB, k, none⟩ = some (.int .u8 (bu (sbit s k)))) ∧ Below w.heap.size w w'

set_option maxRecDepth 100000 in
set_option maxHeartbeats 1600000 in
theorem openr_any (s : ByteArray) (w : World) (hs : s.size ≤ 17592186044416) :
    Calls Tryz.prog 21 #[.string s] w (OpenR w s) := by
  obtain ⟨i0, hi, hz0, hz1, hz2⟩ := info_parts u8_info
  obtain ⟨N, hN⟩ : ∃ N, N = 8 * s.size := ⟨_, rfl⟩
  have hNi : 8 * (s.size : Int) = N := by omega
  have hNb : N ≤ 140737488355328 := by omega
  have hmk := run_make_cap (P := Tryz.prog) 38 5 i0 (.int .u8 0) Tryz.underlying38 hi hz0 hz1 rfl N (by rw [hz2]; omega) (by omega) w
  have ho : (w.alloc (.cells (Array.replicate N (.int .u8 0)) 5)).ownsRow w.heap.size 5 1 (.slice (some ⟨w.heap.size, 0, none⟩) 0 N) 0 (bitsV ((List.range 0).map (sbit s))) :=
    ⟨rfl, .inr ⟨w.heap.size, N, _, rfl, Nat.le_refl _, heap_alloc_new w _, Nat.zero_le _, by unfold maxLen; omega, by simp, rfl⟩⟩
  have hb := (Below.refl w.heap.size w).alloc (Nat.le_refl _) (.cells (Array.replicate N (.int .u8 0)) 5)
  obtain ⟨w1, hw1⟩ : ∃ w1, w1 = w.alloc (.cells (Array.replicate N (.int .u8 0)) 5) := ⟨_, rfl⟩
  have hw1s : w.heap.size < w1.heap.size := by rw [hw1]; simp
  rw [← hw1] at hmk ho hb
  have HO := Lib.hid ho
  have HB := Lib.hid hb
  have HN := Lib.hid hN
  clear hw1 ho hb hN
  go_enter Tryz.func21, Tryz.ntmps21
  go_wp2_with fail
  clear hmk hNi
  go_loopw [3, 4] (fun v t wr => ∃ i : Nat, i ≤ s.size ∧ t = .int .i64 i ∧ wr.ownsRow w.heap.size 5 1 v (8 * i) (bitsV ((List.range (8 * i)).map (sbit s))) ∧ Below w.heap.size w wr ∧ (i = 0 → v = .slice (some ⟨w.heap.size, 0, none⟩) 0 N ∧ w.heap.size < wr.heap.size)) (fun _ t _ => s.size - (intOf t).toNat)
  case atStart => exact ⟨0, Nat.zero_le _, rfl, HO.out, HB.out, fun _ => ⟨rfl, hw1s⟩⟩
  case round =>
    obtain ⟨i, hi', rfl, ho, hb, h0⟩ := hrel
    have HB := Lib.hid hb
    have HO := Lib.hid ho
    by_cases hlt : i < s.size
    · have hi1 : (i : Int) < s.size := by omega
      clear ho hb h0
      go_wp2_with fail
      go_loopw [3, 5] (fun v t wr => ∃ j : Nat, j ≤ 8 ∧ t = .int .i64 (7 - (j : Int)) ∧ wr.ownsRow w.heap.size 5 1 v (8 * i + j) (bitsV ((List.range (8 * i + j)).map (sbit s))) ∧ Below w.heap.size w wr) (fun _ t _ => (intOf t + 1).toNat)
      case atStart => exact ⟨0, by omega, by go_num, HO.out, HB.out⟩
      case round =>
        clear HB HO
        obtain ⟨j, hj, rfl, ho, hb⟩ := hrel
        have HB := Lib.hid hb
        have HO := Lib.hid ho
        have hsz := hb.size
        clear ho hb
        by_cases hj8 : j < 8
        · obtain ⟨k, hk⟩ : ∃ k : Nat, (7 : Int) - j = k := ⟨7 - j, by omega⟩
          rw [hk]
          have hk8 : k ≤ 7 := by omega
          have hg := gS_at s i hlt
          have h255 := gS_lt s i
          obtain ⟨y, hy⟩ : ∃ y : Nat, y = gS s i := ⟨_, rfl⟩
          rw [← hy] at hg h255
          have hbit : bits .and .u8 ((y : Int) / 2 ^ k) 1 = bu (sbit s (8 * i + j)) := by
            have e : (y : Int) / 2 ^ k = ((y / 2 ^ k : Nat) : Int) := by simp
            rw [e, and1_u8 _ (Nat.lt_of_le_of_lt (Nat.div_le_self _ _) h255)]
            unfold bu sbit bitOf
            rw [show (8 * i + j) / 8 = i by omega, show 7 - (8 * i + j) % 8 = k by omega, Nat.testBit_eq_decide_div_mod_eq, ← hy]
            have : y / 2 ^ k % 2 = 0 ∨ y / 2 ^ k % 2 = 1 := by omega
            rcases this with h | h <;> simp [h]
          have hbit2 : bits .and .u8 ((y : Int) / 2 ^ min k 8) 1 = bu (sbit s (8 * i + j)) := by rw [Nat.min_eq_left (by omega)]; exact hbit
          obtain ⟨t, ht⟩ : ∃ t, t = bu (sbit s (8 * i + j)) := ⟨_, rfl⟩
          rw [← ht] at hbit hbit2
          have HT := Lib.hid ht
          have hk0 : (0 : Int) ≤ k := Int.natCast_nonneg _
          obtain ⟨n, hn⟩ : ∃ n, n = 8 * i + j := ⟨_, rfl⟩
          rw [← hn] at HO HT
          have hnb : n < 140737488355328 := by omega
          have HNN := Lib.hid hn
          have HK := Lib.hid hk
          clear hy ht hk hn
          go_wp2_with (at_builtin; refine wpList_append_own (P := Tryz.prog) _ rfl (.tmp 20) (.tmp 27) 38 rfl w.heap.size 5 i0 (.int .u8 0) 1 1 Tryz.underlying38 hi hz0 hz1 hz2 rfl (by decide) _ n _ rfl (HO.out.alloc _) ⟨wr.heap.size, 0, none⟩ 1 1 [.int .u8 t] rfl rfl ?c1 ?c2 (by unfold maxLen; omega) (by omega) (by simp; omega) ?_)
          case c1 =>
            intro j u hj
            rw [add_new]
            match j, hj with
            | 0, hj => simp at hj; subst hj; simp
          case c2 => intro u hu; simp at hu; subst hu; rfl
          intro v2 w2 hown2 hg2 _
          have hb2 : Below w.heap.size w w2 := (HB.out.alloc hsz _).grown hg2 (by simp; omega) (fun k hk => (HO.out.lt k hk).1)
          have ho2 : w2.ownsRow w.heap.size 5 1 v2 (8 * i + (j + 1)) (bitsV ((List.range (8 * i + (j + 1))).map (sbit s))) := by
            have e1 := HNN.out
            rw [show 8 * i + (j + 1) = n + 1 by omega, List.range_succ, List.map_append, bitsV_append]
            rw [HT.out] at hown2
            exact hown2
          have HB := Lib.hid hb2
          have HO := Lib.hid ho2
          clear hown2 hg2 hb2 ho2 hg hbit hbit2
          go_wp2_with fail
          go_roundw
          case rel => exact ⟨j + 1, by omega, by have := HK.out; congr 1; omega, HO.out, HB.out⟩
          case measure => simp [intOf]
        · obtain rfl : j = 8 := by omega
          have e0 : (7 : Int) - ((8 : Nat) : Int) = -1 := by omega
          rw [e0]
          clear e0
          go_wp2_with fail
          go_roundw
          case rel => exact ⟨i + 1, by omega, by go_num, by rw [show 8 * (i + 1) = 8 * i + 8 by omega]; exact HO.out, HB.out, fun q => by omega⟩
          case measure => simp [intOf]; omega
    · obtain rfl : i = s.size := by omega
      have hform : ∃ gB cp, u3 = .slice (some ⟨gB, 0, none⟩) (8 * s.size) cp ∧ w.heap.size ≤ gB ∧ gB < wr.heap.size ∧ ∀ k, k < 8 * s.size → wr.cell? ⟨gB, k, none⟩ = some (.int .u8 (bu (sbit s k))) := by
        rcases Nat.eq_zero_or_pos s.size with hz | hp
        · obtain ⟨rfl, hlt⟩ := h0 hz
          exact ⟨w.heap.size, N, by rw [hz], Nat.le_refl _, hlt, fun k hk => by omega⟩
        · obtain ⟨gB, cp, rfl, _, _, h1, h2⟩ := own_form ho (by omega)
          refine ⟨gB, cp, rfl, h1, h2, fun k hk => ?_⟩
          rw [ho.cellAt k (by omega), bitsV_map]
          simp [hk]
      obtain ⟨gB, cp, rfl, h1, h2, h3⟩ := hform
      have H3 := Lib.hid h3
      clear ho hb h0 h3
      go_wp2_with fail
      go_ret
      exact ⟨gB, cp, rfl, h1, h2, H3.out, HB.out⟩
end Go.Proofs.YtjokibagciehlaaGreat

namespace Go.Proofs.YtjokibagciehlaaGreat
open Go.RowKit
set_option linter.unusedVariables false
set_option linter.unusedSimpArgs false

def RGS (h g : Nat) (k : Nat) : Prop := k = h ∨ k = g
/-- the document's reader: a Reader, and whether a field was none -/
def DG (w : World) (h g gB N : Nat) (f : Nat → Bool) (t : St) : Prop := Bk w h 108 #[.pointer (some ⟨g, 0, none⟩), .bool t.bad] ∧ RR w g gB N f t.a ∧ h ≠ gB
/-- a field that is read where none was wrong -/
def dX (b : Bool) (x : Int) : Int := if b = true then 0 else x
def dS (t u : St) : St := if t.bad = true then t else u
theorem RR.bk {w : World} {g gB N : Nat} {f : Nat → Bool} {a : Nat} (h : RR w g gB N f a) : ∃ cp, Bk w g 57 #[.slice (some ⟨gB, 0, none⟩) N cp, .int .i64 a] := h.1
theorem DG.ne {w : World} {h g gB N : Nat} {f : Nat → Bool} {t : St} (q : DG w h g gB N f t) : h ≠ g := by
  obtain ⟨cp, hk⟩ := q.2.1.bk
  exact Bk.ne_ q.1 hk (by decide)
theorem DG.rd {w w1 : World} {h g gB N : Nat} {f : Nat → Bool} {t : St} {a : Nat} (H : DG w h g gB N f t) (q : RRPost w g gB N f a w1) : DG w1 h g gB N f ⟨a, t.bad⟩ ∧ Touch (RGS h g) w w1 :=
  ⟨⟨H.1.touch q.2 (fun e => H.ne e), q.1, H.2.2⟩, q.2.mono fun k _ e => .inr e⟩
theorem RR.far {w : World} {h g gB N : Nat} {f : Nat → Bool} {a : Nat} (H : RR w g gB N f a) (h1 : h ≠ g) (h2 : h ≠ gB) (i : Nat) (u : Value) : RR (w.setCell ⟨h, i, none⟩ u) g gB N f a := by
  obtain ⟨⟨cp, hk⟩, q1, q2, q3⟩ := H
  exact ⟨⟨cp, hk.far (fun e => h1 e.symm) _⟩, q1, by simpa [World.setCell] using q2, fun k hk' => (World.cell?_of_block (Below.heap_setCell _ _ _ _ (fun e => h2 e.symm))).trans (q3 k hk')⟩

section
variable {w : World} {h g gB N : Nat} {f : Nat → Bool} {t : St} (H : DG w h g gB N f t) (hN : N ≤ 1125899906842624) (ha : t.a ≤ N)
include H hN ha
set_option maxRecDepth 100000 in
theorem dg_ue  : Calls Tryz.prog 90 #[.pointer (some ⟨h, 0, none⟩)] w fun r w' => r = .returned (.int .i64 (dX t.bad (ueX f N t))) ∧ DG w' h g gB N f (dS t (ueS f N t)) ∧ Touch (RGS h g) w w' := by
  obtain ⟨a, bad⟩ := t
  have c0 := H.1.cell 0
  have c1 := H.1.cell 1
  simp at c0 c1 ha
  cases bad
  · have HR := Lib.hid (uer_any g gB N f a w H.2.1 hN ha)
    have HH := Lib.hid H
    clear H
    go_enter Tryz.func90, Tryz.ntmps90
    go_wp2_with fail
    refine HR.out.mono ?_
    rintro e w1 ⟨rfl, hq⟩
    obtain ⟨h1, h2⟩ := HH.out.rd hq
    have H1 := Lib.hid h1
    have H2 := Lib.hid h2
    have c0 := h1.1.cell 0
    have c1 := h1.1.cell 1
    have f1 := h1.1.frozen 1
    simp at c0 c1
    obtain ⟨b, hb⟩ : ∃ b, ((((ueR f N a).e : Nat) : Int) != 0) = b := ⟨_, rfl⟩
    have hb2 : neB (ueR f N a).e = b := hb
    have HB := Lib.hid hb2
    clear hq h1 h2 HR hb2
    go_wp2_with fail
    go_ret
    refine ⟨rfl, ⟨?_, ?_, H1.out.2.2⟩, ?_⟩
    · have e := H1.out.1.set_ 1 (.bool b)
      show Bk _ h _ #[_, .bool (false || neB _)]
      rw [Bool.false_or]
      first | rw [HB.out] | (rw [show neB (ueR f N a).e = b from HB.out])
      exact e
    · exact H1.out.2.1.far H1.out.ne H1.out.2.2 1 _
    · exact H2.out.setCell (fun _ => .inl rfl) _
  · have HH := Lib.hid H
    clear H
    go_enter Tryz.func90, Tryz.ntmps90
    go_wp2_with fail
    go_ret
    exact ⟨rfl, HH.out, Touch.refl _ _⟩
set_option maxRecDepth 100000 in
theorem dg_se  : Calls Tryz.prog 116 #[.pointer (some ⟨h, 0, none⟩)] w fun r w' => r = .returned (.int .i64 (dX t.bad (seX f N t))) ∧ DG w' h g gB N f (dS t (ueS f N t)) ∧ Touch (RGS h g) w w' := by
  obtain ⟨a, bad⟩ := t
  have c0 := H.1.cell 0
  have c1 := H.1.cell 1
  simp at c0 c1 ha
  cases bad
  · have HR := Lib.hid (ser_any g gB N f a w H.2.1 hN ha)
    have HH := Lib.hid H
    clear H
    go_enter Tryz.func116, Tryz.ntmps116
    go_wp2_with fail
    refine HR.out.mono ?_
    rintro e w1 ⟨rfl, hq⟩
    obtain ⟨h1, h2⟩ := HH.out.rd hq
    have H1 := Lib.hid h1
    have H2 := Lib.hid h2
    have c0 := h1.1.cell 0
    have c1 := h1.1.cell 1
    have f1 := h1.1.frozen 1
    simp at c0 c1
    obtain ⟨b, hb⟩ : ∃ b, ((((seR f N a).e : Nat) : Int) != 0) = b := ⟨_, rfl⟩
    have hb2 : neB (seR f N a).e = b := hb
    have HB := Lib.hid hb2
    clear hq h1 h2 HR hb2
    go_wp2_with fail
    go_ret
    refine ⟨rfl, ⟨?_, ?_, H1.out.2.2⟩, ?_⟩
    · have e := H1.out.1.set_ 1 (.bool b)
      show Bk _ h _ #[_, .bool (false || neB _)]
      rw [Bool.false_or]
      first | rw [HB.out] | (rw [show neB (ueR f N a).e = b from HB.out])
      exact e
    · exact H1.out.2.1.far H1.out.ne H1.out.2.2 1 _
    · exact H2.out.setCell (fun _ => .inl rfl) _
  · have HH := Lib.hid H
    clear H
    go_enter Tryz.func116, Tryz.ntmps116
    go_wp2_with fail
    go_ret
    exact ⟨rfl, HH.out, Touch.refl _ _⟩
set_option maxRecDepth 100000 in
theorem dg_bits (n : Nat) : Calls Tryz.prog 91 #[.pointer (some ⟨h, 0, none⟩), .int .i64 n] w fun r w' => r = .returned (.int .i64 (dX t.bad (btX f N n t))) ∧ DG w' h g gB N f (dS t (btS f N n t)) ∧ Touch (RGS h g) w w' := by
  obtain ⟨a, bad⟩ := t
  have c0 := H.1.cell 0
  have c1 := H.1.cell 1
  simp at c0 c1 ha
  cases bad
  · have HR := Lib.hid (bits2_any g gB N f a n w H.2.1 hN ha)
    have HH := Lib.hid H
    clear H
    go_enter Tryz.func91, Tryz.ntmps91
    go_wp2_with fail
    refine HR.out.mono ?_
    rintro e w1 ⟨rfl, hq⟩
    obtain ⟨h1, h2⟩ := HH.out.rd hq
    have H1 := Lib.hid h1
    have H2 := Lib.hid h2
    have c0 := h1.1.cell 0
    have c1 := h1.1.cell 1
    have f1 := h1.1.frozen 1
    simp at c0 c1
    obtain ⟨b, hb⟩ : ∃ b, ((((bitsR f N a n).e : Nat) : Int) != 0) = b := ⟨_, rfl⟩
    have hb2 : neB (bitsR f N a n).e = b := hb
    have HB := Lib.hid hb2
    clear hq h1 h2 HR hb2
    go_wp2_with fail
    go_ret
    refine ⟨rfl, ⟨?_, ?_, H1.out.2.2⟩, ?_⟩
    · have e := H1.out.1.set_ 1 (.bool b)
      show Bk _ h _ #[_, .bool (false || neB _)]
      rw [Bool.false_or]
      first | rw [HB.out] | (rw [show neB (ueR f N a).e = b from HB.out])
      exact e
    · exact H1.out.2.1.far H1.out.ne H1.out.2.2 1 _
    · exact H2.out.setCell (fun _ => .inl rfl) _
  · have HH := Lib.hid H
    clear H
    go_enter Tryz.func91, Tryz.ntmps91
    go_wp2_with fail
    go_ret
    exact ⟨rfl, HH.out, Touch.refl _ _⟩
end
theorem dS_le {t u : St} {N : Nat} (h : t.a ≤ N) (g : u.a ≤ N) : (dS t u).a ≤ N := by unfold dS; split <;> assumption
theorem bitsR_at {f : Nat → Bool} {N a : Nat} (n : Int) (h : a ≤ N) : (bitsR f N a n).at_ ≤ N := by
  unfold bitsR
  split
  · exact h
  · split
    · exact h
    · show a + n.toNat ≤ N
      omega
theorem btS_le {f : Nat → Bool} {N : Nat} {t : St} (n : Int) (h : t.a ≤ N) : (btS f N n t).a ≤ N := bitsR_at n h
theorem ueS_le {f : Nat → Bool} {N : Nat} {t : St} (h : t.a ≤ N) : (ueS f N t).a ≤ N := (ueR_bd f N _ h).2.2.2.1
theorem dX_bd {b : Bool} {x : Int} (h0 : 0 ≤ x) (h1 : x ≤ 2147483646) : 0 ≤ dX b x ∧ dX b x ≤ 2147483646 := by unfold dX; split <;> omega
section
variable {w w' : World} {h g gB N : Nat} {f : Nat → Bool} {t : St}
theorem DG.far (H : DG w h g gB N f t) {M : Nat} (h1 : M ≠ h) (h2 : M ≠ g) (h3 : M ≠ gB) (i : Nat) (u : Value) : DG (w.setCell ⟨M, i, none⟩ u) h g gB N f t :=
  ⟨H.1.far h1.symm _, H.2.1.far h2 h3 i u, H.2.2⟩
theorem DG.go (H : DG w h g gB N f t) (hb : Below w.heap.size w w') : DG w' h g gB N f t := ⟨H.1.go hb, H.2.1.go hb, H.2.2⟩
theorem DG.lts (H : DG w h g gB N f t) : h < w.heap.size ∧ g < w.heap.size ∧ gB < w.heap.size := by
  obtain ⟨q1, ⟨⟨c, q2⟩, q3, q4, q5⟩, q6⟩ := H
  exact ⟨q1.lt, q2.lt, q4⟩
theorem DG.grown {row : Option Nat} (H : DG w h g gB N f t) (hg : w.grownBy w' row) (h1 : some h ≠ row) (h2 : some g ≠ row) (h3 : some gB ≠ row) : DG w' h g gB N f t := by
  obtain ⟨q1, ⟨⟨c, q2⟩, q3, q4, q5⟩, q6⟩ := H
  exact ⟨q1.grown hg h1, ⟨⟨c, q2.grown hg h2⟩, q3, Nat.lt_of_lt_of_le q4 hg.size, fun k hk => (hg.cell_far ⟨gB, k, none⟩ q4 h3).trans (q5 k hk)⟩, q6⟩
end
end Go.Proofs.YtjokibagciehlaaGreat
