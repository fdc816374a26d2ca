/- The statement BitsWrites: the walk. -/
import Derived.Test.YtbahmiiflkgigaaLawG
import Derived.Deep.DeepCutAuto
namespace Go.Proofs.Ytbahmiiflkgigaa
open Go.RowKit
set_option linter.unusedVariables false
set_option linter.unusedSimpArgs false

theorem pow_wrap (N : Int) (h0 : 0 ≤ N) (h1 : N ≤ 32) : wrap64 (2 ^ N.toNat) = 2 ^ N.toNat ∧ (0 : Int) ≤ 2 ^ N.toNat ∧ (2 : Int) ^ N.toNat ≤ 4294967296 := by
  have hp : (2 : Int) ^ N.toNat ≤ 4294967296 := by
    have : (2 : Nat) ^ N.toNat ≤ 2 ^ 32 := Nat.pow_le_pow_right (by omega) (by omega)
    have e : (2 : Int) ^ N.toNat = ((2 ^ N.toNat : Nat) : Int) := by simp
    rw [e]
    omega
  have hp0 : (0 : Int) ≤ 2 ^ N.toNat := Int.pow_nonneg (by omega)
  exact ⟨IntWalk.wrap64_in _ ⟨by omega, by omega⟩, hp0, hp⟩

set_option maxRecDepth 100000 in
set_option maxHeartbeats 25600000 in
theorem walk_BitsWrites (a0 : Option Addr) (n0 c0 : Nat) (V : Nat → Nat → Value) (zK zX zN : Nat → Int) (w : World) (w_a0 : RowsOf w a0 n0 c0 3 V) (e_K : ∀ k, k < n0 → V k 0 = .int .i64 (zK k)) (e_X : ∀ k, k < n0 → V k 1 = .int .i64 (zX k)) (e_N : ∀ k, k < n0 → V k 2 = .int .i64 (zN k)) (f_K : ∀ k, (Lit.int .i64 (zK k)).wf = true) (f_X : ∀ k, (Lit.int .i64 (zX k)).wf = true) (f_N : ∀ k, (Lit.int .i64 (zN k)).wf = true) (s_a0 : c0 * 24 ≤ 140737488351232) :
    Calls Try.prog 3 #[.slice a0 n0 c0] w fun e w' => e = .returned (.bool true) ∧ Below w.heap.size w w' := by
  obtain ⟨hrow, hnil, hnc⟩ := w_a0
  obtain ⟨i0, hi, hz0, hz1, hz2⟩ := info_parts u8_info
  have hn0 : n0 ≤ 140737488351232 := by omega
  have HROW := Lib.hid hrow
  have HK := Lib.hid e_K
  have HX := Lib.hid e_X
  have HN := Lib.hid e_N
  clear hrow hnil e_K e_X e_N f_K f_X f_N s_a0
  go_enter Try.func3, Try.ntmps3
  go_wp2_with fail
  refine (st_new _).mono ?_
  rintro e w1 ⟨rfl, hw⟩
  have hwb : WB w w1 w.heap.size (.slice none 0 0) [] 0 (.slice none 0 0) [] := ⟨hw, World.ownsRow_nil _ _ _ _, Sep.nil _⟩
  have HW := Lib.hid hwb
  clear hw hwb
  go_wp2_with fail
  go_loopw [4, 5] (fun u t wr => ∃ (i : Nat) (v : Value) (b : List Bool), i ≤ n0 ∧ i ≤ 100 ∧ t = .int .i64 i ∧ WB w wr w.heap.size v b (64 * i) u b) (fun _ t _ => 100 - (intOf t).toNat)
  case atStart => exact ⟨0, _, [], Nat.zero_le _, by omega, rfl, HW.out⟩
  case round =>
    clear HW
    obtain ⟨i, v, b, hi', hi100, rfl, hw⟩ := hrel
    by_cases hlt : i < n0 ∧ i < 100
    · obtain ⟨h1, h2⟩ := hlt
      have hsz := hw.size
      obtain ⟨ad, rfl, hadb, hc⟩ := HROW.out (by omega)
      have hbe := hw.1.2.2.1
      have cK : wr.cell? (ad.add (i * 3)) = some (.int .i64 (zK i)) := by have := hc i h1 0 (by omega); rw [HK.out i h1, Nat.add_zero] at this; exact (hbe.cell (by rw [block_add]; exact hadb)).trans this
      have cX : wr.cell? ⟨(ad.add (i * 3)).block, (ad.add (i * 3)).off + 1, none⟩ = some (.int .i64 (zX i)) := by rw [← add_off _ _ _ (by omega)]; have := hc i h1 1 (by omega); rw [HX.out i h1] at this; exact (hbe.cell (by rw [block_add]; exact hadb)).trans this
      have cN : wr.cell? ⟨(ad.add (i * 3)).block, (ad.add (i * 3)).off + 2, none⟩ = some (.int .i64 (zN i)) := by rw [← add_off _ _ _ (by omega)]; have := hc i h1 2 (by omega); rw [HN.out i h1] at this; exact (hbe.cell (by rw [block_add]; exact hadb)).trans this
      generalize zK i = K at *
      generalize zX i = X at *
      generalize zN i = N at *
      have hi0 : (0 : Int) ≤ (i : Int) := Int.natCast_nonneg _
      have hi1 : (i : Int) < (n0 : Int) := by omega
      have hi2 : (i : Int) < 100 := by omega
      have hM : 64 * i ≤ 6400 := by omega
      have hbl := hw.1.2.2.2
      have HWB := Lib.hid hw
      have hsz2 : 64 * i + 64 = 64 * (i + 1) := by omega
      clear hw hc hbe hadb
      have hkind : K = 0 ∨ K = 1 ∨ K = 2 ∨ K = 3 ∨ (K ≠ 0 ∧ K ≠ 1 ∧ K ≠ 2 ∧ K ≠ 3) := by omega
      have hcase : (K = 0 ∧ 0 ≤ N ∧ N ≤ 32 ∧ 0 ≤ X ∧ X < 2 ^ N.toNat) ∨ (K = 0 ∧ N < 0) ∨ (K = 0 ∧ 32 < N) ∨ (K = 0 ∧ 0 ≤ N ∧ N ≤ 32 ∧ X < 0) ∨ (K = 0 ∧ 0 ≤ N ∧ N ≤ 32 ∧ 0 ≤ X ∧ 2 ^ N.toNat ≤ X) ∨ (K = 1 ∧ 0 ≤ X ∧ X ≤ 2147483646) ∨ (K = 1 ∧ X < 0) ∨ (K = 1 ∧ 2147483646 < X) ∨ (K = 2 ∧ -1073741823 ≤ X ∧ X ≤ 1073741823) ∨ (K = 2 ∧ X < -1073741823) ∨ (K = 2 ∧ 1073741823 < X) ∨ (K = 3 ∧ 1 ≤ N ∧ 0 ≤ X ∧ X ≤ N ∧ X ≤ 2147483646) ∨ (K = 3 ∧ N < 1) ∨ (K = 3 ∧ 1 ≤ N ∧ X < 0) ∨ (K = 3 ∧ 1 ≤ N ∧ 0 ≤ X ∧ N < X) ∨ (K = 3 ∧ 1 ≤ N ∧ 0 ≤ X ∧ X ≤ N ∧ 2147483646 < X) ∨ (K ≠ 0 ∧ K ≠ 1 ∧ K ≠ 2 ∧ K ≠ 3) := by
        rcases hkind with hk | hk | hk | hk | hk
        · by_cases a1 : N < 0
          · exact .inr (.inl ⟨hk, a1⟩)
          · by_cases a2 : 32 < N
            · exact .inr (.inr (.inl ⟨hk, a2⟩))
            · by_cases a3 : X < 0
              · exact .inr (.inr (.inr (.inl ⟨hk, by omega, by omega, a3⟩)))
              · by_cases a4 : X < 2 ^ N.toNat
                · exact .inl ⟨hk, by omega, by omega, by omega, a4⟩
                · exact .inr (.inr (.inr (.inr (.inl ⟨hk, by omega, by omega, by omega, by omega⟩))))
        · by_cases a1 : X < 0
          · exact .inr (.inr (.inr (.inr (.inr (.inr (.inl ⟨hk, a1⟩))))))
          · by_cases a2 : 2147483646 < X
            · exact .inr (.inr (.inr (.inr (.inr (.inr (.inr (.inl ⟨hk, a2⟩)))))))
            · exact .inr (.inr (.inr (.inr (.inr (.inl ⟨hk, by omega, by omega⟩)))))
        · by_cases a1 : X < -1073741823
          · exact .inr (.inr (.inr (.inr (.inr (.inr (.inr (.inr (.inr (.inl ⟨hk, a1⟩)))))))))
          · by_cases a2 : 1073741823 < X
            · exact .inr (.inr (.inr (.inr (.inr (.inr (.inr (.inr (.inr (.inr (.inl ⟨hk, a2⟩))))))))))
            · exact .inr (.inr (.inr (.inr (.inr (.inr (.inr (.inr (.inl ⟨hk, by omega, by omega⟩))))))))
        · by_cases a1 : N < 1
          · exact .inr (.inr (.inr (.inr (.inr (.inr (.inr (.inr (.inr (.inr (.inr (.inr (.inl ⟨hk, a1⟩))))))))))))
          · by_cases a2 : X < 0
            · exact .inr (.inr (.inr (.inr (.inr (.inr (.inr (.inr (.inr (.inr (.inr (.inr (.inr (.inl ⟨hk, by omega, a2⟩)))))))))))))
            · by_cases a3 : N < X
              · exact .inr (.inr (.inr (.inr (.inr (.inr (.inr (.inr (.inr (.inr (.inr (.inr (.inr (.inr (.inl ⟨hk, by omega, by omega, a3⟩))))))))))))))
              · by_cases a4 : 2147483646 < X
                · exact .inr (.inr (.inr (.inr (.inr (.inr (.inr (.inr (.inr (.inr (.inr (.inr (.inr (.inr (.inr (.inl ⟨hk, by omega, by omega, by omega, a4⟩)))))))))))))))
                · exact .inr (.inr (.inr (.inr (.inr (.inr (.inr (.inr (.inr (.inr (.inr (.inl ⟨hk, by omega, by omega, by omega, by omega⟩)))))))))))
        · exact .inr (.inr (.inr (.inr (.inr (.inr (.inr (.inr (.inr (.inr (.inr (.inr (.inr (.inr (.inr (.inr hk)))))))))))))))
      clear hkind
      go_upto_block 2 with fail
      clear cK cX cN
      obtain ⟨wa, hwa⟩ : ∃ wa, wa = wr.alloc (.cells #[.int .i64 K, .int .i64 X, .int .i64 N] 27) := ⟨_, rfl⟩
      have hbk : Bk wa wr.heap.size 27 #[.int .i64 K, .int .i64 X, .int .i64 N] := by rw [hwa]; exact Bk.new _ _ _
      have HW := Lib.hid (HWB.out.go (w2 := wa) (by rw [hwa]; exact (Below.refl _ _).alloc (Nat.le_refl _) _))
      rw [← hwa]
      have kal := hbk.lt
      have HBK := Lib.hid hbk
      clear hwa hbk HWB
      go_cut [4, 7, 8] (fun s4 s7 s8 wx => ∃ (v : Value) (B : List Bool) (e : Int), s7 = .int .i64 e ∧ s8 = .int .i64 e ∧ WB w wx w.heap.size v B (64 * i + 64) s4 B)
      case first =>
        rcases hcase with hcs | hcs | hcs | hcs | hcs | hcs | hcs | hcs | hcs | hcs | hcs | hcs | hcs | hcs | hcs | hcs | hcs
        · have t0 : (K == 0) = true := by rw [beq_iff_eq]; omega
          have t1 : (K == 1) = false := by rw [beq_eq_false_iff_ne]; omega
          have t2 : (K == 2) = false := by rw [beq_eq_false_iff_ne]; omega
          have t3 : (K == 3) = false := by rw [beq_eq_false_iff_ne]; omega
          have h32 : N.toNat ≤ 32 := by omega
          have hxp : X.toNat < 2 ^ N.toNat := by have e : (((2 : Nat) ^ N.toNat : Nat) : Int) = 2 ^ N.toNat := (by simp); omega
          have hxm : X.toNat ≤ 9223372036854775807 := by have : (2 : Nat) ^ N.toNat ≤ 2 ^ 32 := Nat.pow_le_pow_right (by omega) h32; omega
          have hq := hcs.2.2.2.2
          have hq0 : 0 ≤ N ∧ N ≤ 32 ∧ 0 ≤ X := by omega
          obtain ⟨hpw0, hp0, hp32⟩ := pow_wrap N (by omega) (by omega)
          obtain ⟨P, hP⟩ : ∃ P : Int, P = 2 ^ N.toNat := ⟨_, rfl⟩
          have hPI := Lib.hid hP
          have hpw : wrap64 (2 ^ N.toNat) = P := by rw [hP]; exact hpw0
          rw [← hP] at hq hp0 hp32
          have HPW := Lib.hid hpw
          clear hP hpw0 hpw
          clear hcs
          have cK : wa.cell? ⟨wr.heap.size, 0, none⟩ = some (.int .i64 K) := HBK.out.cell 0
          have cX : wa.cell? ⟨wr.heap.size, 1, none⟩ = some (.int .i64 X) := HBK.out.cell 1
          have cN : wa.cell? ⟨wr.heap.size, 2, none⟩ = some (.int .i64 N) := HBK.out.cell 2
          have hp := bits_yes w.heap.size w.heap.size v b X.toNat N.toNat _ HW.out.1.1 (by omega) (by omega) hxp HW.out.size
          rw [show ((X.toNat : Nat) : Int) = X by omega, show ((N.toNat : Nat) : Int) = N by omega] at hp
          have HP := Lib.hid hp
          clear hp
          go_wp2_with fail
          ((with_reducible refine HP.out.mono ?_))
          rintro e w2 ⟨rfl, hq⟩
          have ht2 := hq.choose_spec.2.1
          have hll : (dig X.toNat N.toNat).length ≤ 61 := by rw [dig_len]; omega
          obtain ⟨v2, hw2⟩ := HW.out.put hq (M' := 64 * i + 64) (by rw [List.length_append]; omega)
          have HBK := Lib.hid (HBK.out.touch ht2 (fun q => by rcases q with q | q; exact absurd q (HBK.out.ne_ (Classical.choose_spec HW.out.1.1).1 (by decide)); exact HBK.out.ne_own (Classical.choose_spec HW.out.1.1).2 (by decide) q))
          have HW := Lib.hid hw2
          clear hw2 hq ht2 cK cX cN HP
          have cK : w2.cell? ⟨wr.heap.size, 0, none⟩ = some (.int .i64 K) := HBK.out.cell 0
          have cX : w2.cell? ⟨wr.heap.size, 1, none⟩ = some (.int .i64 X) := HBK.out.cell 1
          have cN : w2.cell? ⟨wr.heap.size, 2, none⟩ = some (.int .i64 N) := HBK.out.cell 2
          have kal2 := HBK.out.lt
          go_wp2_with (first | (go_at_call 12; refine (num_any _ _).mono ?_; rintro e w' ⟨rfl, rfl⟩))
          have hpw := HPW.out
          go_quiet (fail)
          clear hpw
          have HW := Lib.hid (WB.go (w2 := _) HW.out (drewN_below _ nq))
          go_wp2_with fail
          have hd := digits_any X.toNat N.toNat (w2.drewN nq) hxm (by omega)
          rw [show ((X.toNat : Nat) : Int) = X by omega, show ((N.toNat : Nat) : Int) = N by omega] at hd
          have HD := Lib.hid hd
          clear hd
          ((with_reducible refine HD.out.mono ?_))
          rintro e w3 ⟨r, rfl, hrow, hb⟩
          have HW := Lib.hid (HW.out.go hb)
          obtain ⟨A3, c3, rfl, hrd, hnl⟩ := BRow.rd hrow
          have HRD := Lib.hid hrd
          have HNL := Lib.hid hnl
          clear hrow hb hrd hnl HD
          have hbl2 : b.length ≤ 6400 := by omega
          go_wp2_with (at_builtin; refine wpList_append_rd_at _ rfl (.tmp 65) (.tmp 70) 25 rfl w.heap.size 5 i0 (.int .u8 0) 1 Try.underlying25 hi hz0 hz1 hz2 rfl _ b.length (bitsV b) rfl HW.out.2.1 w3.heap.size A3 (dig X.toNat N.toNat).length c3 (fun j => .int .u8 (bu ((dig X.toNat N.toNat).getD j false))) rfl HRD.out HNL.out (fun k => rfl) (by unfold maxLen; omega) (by omega) HW.out.size ?_; intro u4 w4 hown4 hg4 hat4)
          rw [bitsV_add, ← List.length_append] at hown4
          have hw4 := HW.out.app hown4 hg4 hat4
          obtain ⟨B, hB⟩ : ∃ B, B = b ++ dig X.toNat N.toNat := ⟨_, rfl⟩
          rw [← hB] at hw4
          have HW := Lib.hid hw4
          clear hw4 hown4 hg4 hat4 hB HRD HNL cK cX cN
          go_wp2_with fail
          go_meet
          exact ⟨_, B, _, rfl, rfl, HW.out⟩
        · have t0 : (K == 0) = true := by rw [beq_iff_eq]; omega
          have t1 : (K == 1) = false := by rw [beq_eq_false_iff_ne]; omega
          have t2 : (K == 2) = false := by rw [beq_eq_false_iff_ne]; omega
          have t3 : (K == 3) = false := by rw [beq_eq_false_iff_ne]; omega
          have hq0 : N < 0 := by omega
          have hg0 : decide (0 ≤ N) = false := decide_eq_false (by omega)
          clear hcs
          have cK : wa.cell? ⟨wr.heap.size, 0, none⟩ = some (.int .i64 K) := HBK.out.cell 0
          have cX : wa.cell? ⟨wr.heap.size, 1, none⟩ = some (.int .i64 X) := HBK.out.cell 1
          have cN : wa.cell? ⟨wr.heap.size, 2, none⟩ = some (.int .i64 N) := HBK.out.cell 2
          go_wp2_with fail
          ((with_reducible refine (bits_no _ X N _ (by omega)).mono ?_))
          rintro e w' ⟨rfl, rfl⟩
          have hw2 := HW.out.same (M' := 64 * i + 64) (by omega)
          obtain ⟨B, hB⟩ : ∃ B, B = b := ⟨_, rfl⟩
          rw [← hB] at hw2
          have HW := Lib.hid hw2
          clear hw2 hB
          go_wp2_with (first | (go_at_call 12; refine (num_any _ _).mono ?_; rintro e w' ⟨rfl, rfl⟩))
          go_quiet (fail)
          have HW := Lib.hid (WB.go (w2 := _) HW.out (drewN_below _ nq))
          go_wp2_with fail
          go_meet
          exact ⟨_, B, _, rfl, rfl, HW.out⟩
        · have t0 : (K == 0) = true := by rw [beq_iff_eq]; omega
          have t1 : (K == 1) = false := by rw [beq_eq_false_iff_ne]; omega
          have t2 : (K == 2) = false := by rw [beq_eq_false_iff_ne]; omega
          have t3 : (K == 3) = false := by rw [beq_eq_false_iff_ne]; omega
          have hq0 : 32 < N ∧ 0 ≤ N := by omega
          have hg0 : decide (N ≤ 32) = false := decide_eq_false (by omega)
          clear hcs
          have cK : wa.cell? ⟨wr.heap.size, 0, none⟩ = some (.int .i64 K) := HBK.out.cell 0
          have cX : wa.cell? ⟨wr.heap.size, 1, none⟩ = some (.int .i64 X) := HBK.out.cell 1
          have cN : wa.cell? ⟨wr.heap.size, 2, none⟩ = some (.int .i64 N) := HBK.out.cell 2
          go_wp2_with fail
          ((with_reducible refine (bits_no _ X N _ (by omega)).mono ?_))
          rintro e w' ⟨rfl, rfl⟩
          have hw2 := HW.out.same (M' := 64 * i + 64) (by omega)
          obtain ⟨B, hB⟩ : ∃ B, B = b := ⟨_, rfl⟩
          rw [← hB] at hw2
          have HW := Lib.hid hw2
          clear hw2 hB
          go_wp2_with (first | (go_at_call 12; refine (num_any _ _).mono ?_; rintro e w' ⟨rfl, rfl⟩))
          go_quiet (fail)
          have HW := Lib.hid (WB.go (w2 := _) HW.out (drewN_below _ nq))
          go_wp2_with fail
          go_meet
          exact ⟨_, B, _, rfl, rfl, HW.out⟩
        · have t0 : (K == 0) = true := by rw [beq_iff_eq]; omega
          have t1 : (K == 1) = false := by rw [beq_eq_false_iff_ne]; omega
          have t2 : (K == 2) = false := by rw [beq_eq_false_iff_ne]; omega
          have t3 : (K == 3) = false := by rw [beq_eq_false_iff_ne]; omega
          have hq0 : 0 ≤ N ∧ N ≤ 32 ∧ X < 0 := by omega
          have hg0 : decide (0 ≤ X) = false := decide_eq_false (by omega)
          clear hcs
          have cK : wa.cell? ⟨wr.heap.size, 0, none⟩ = some (.int .i64 K) := HBK.out.cell 0
          have cX : wa.cell? ⟨wr.heap.size, 1, none⟩ = some (.int .i64 X) := HBK.out.cell 1
          have cN : wa.cell? ⟨wr.heap.size, 2, none⟩ = some (.int .i64 N) := HBK.out.cell 2
          go_wp2_with fail
          ((with_reducible refine (bits_no _ X N _ (by omega)).mono ?_))
          rintro e w' ⟨rfl, rfl⟩
          have hw2 := HW.out.same (M' := 64 * i + 64) (by omega)
          obtain ⟨B, hB⟩ : ∃ B, B = b := ⟨_, rfl⟩
          rw [← hB] at hw2
          have HW := Lib.hid hw2
          clear hw2 hB
          go_wp2_with (first | (go_at_call 12; refine (num_any _ _).mono ?_; rintro e w' ⟨rfl, rfl⟩))
          go_quiet (fail)
          have HW := Lib.hid (WB.go (w2 := _) HW.out (drewN_below _ nq))
          go_wp2_with fail
          go_meet
          exact ⟨_, B, _, rfl, rfl, HW.out⟩
        · have t0 : (K == 0) = true := by rw [beq_iff_eq]; omega
          have t1 : (K == 1) = false := by rw [beq_eq_false_iff_ne]; omega
          have t2 : (K == 2) = false := by rw [beq_eq_false_iff_ne]; omega
          have t3 : (K == 3) = false := by rw [beq_eq_false_iff_ne]; omega
          have hq := hcs.2.2.2.2
          have hq1 : N < 0 ∨ 32 < N ∨ X < 0 ∨ 2 ^ N.toNat ≤ X := .inr (.inr (.inr hq))
          have HQ1 := Lib.hid hq1
          clear hq1
          have hq0 : 0 ≤ N ∧ N ≤ 32 ∧ 0 ≤ X := by omega
          obtain ⟨hpw0, hp0, hp32⟩ := pow_wrap N (by omega) (by omega)
          obtain ⟨P, hP⟩ : ∃ P : Int, P = 2 ^ N.toNat := ⟨_, rfl⟩
          have hPI := Lib.hid hP
          have hpw : wrap64 (2 ^ N.toNat) = P := by rw [hP]; exact hpw0
          rw [← hP] at hq hp0 hp32
          have HPW := Lib.hid hpw
          clear hP hpw0 hpw
          have hg0 : decide (X < P) = false := decide_eq_false (by omega)
          clear hcs
          have cK : wa.cell? ⟨wr.heap.size, 0, none⟩ = some (.int .i64 K) := HBK.out.cell 0
          have cX : wa.cell? ⟨wr.heap.size, 1, none⟩ = some (.int .i64 X) := HBK.out.cell 1
          have cN : wa.cell? ⟨wr.heap.size, 2, none⟩ = some (.int .i64 N) := HBK.out.cell 2
          go_wp2_with fail
          ((with_reducible refine (bits_no _ X N _ HQ1.out).mono ?_))
          rintro e w' ⟨rfl, rfl⟩
          have hw2 := HW.out.same (M' := 64 * i + 64) (by omega)
          obtain ⟨B, hB⟩ : ∃ B, B = b := ⟨_, rfl⟩
          rw [← hB] at hw2
          have HW := Lib.hid hw2
          clear hw2 hB
          go_wp2_with (first | (go_at_call 12; refine (num_any _ _).mono ?_; rintro e w' ⟨rfl, rfl⟩))
          have hpw := HPW.out
          go_quiet (fail)
          clear hpw
          have HW := Lib.hid (WB.go (w2 := _) HW.out (drewN_below _ nq))
          go_wp2_with fail
          go_meet
          exact ⟨_, B, _, rfl, rfl, HW.out⟩
        · have t0 : (K == 0) = false := by rw [beq_eq_false_iff_ne]; omega
          have t1 : (K == 1) = true := by rw [beq_iff_eq]; omega
          have t2 : (K == 2) = false := by rw [beq_eq_false_iff_ne]; omega
          have t3 : (K == 3) = false := by rw [beq_eq_false_iff_ne]; omega
          have hq0 : 0 ≤ X ∧ X ≤ 2147483646 := by omega
          clear hcs
          have cK : wa.cell? ⟨wr.heap.size, 0, none⟩ = some (.int .i64 K) := HBK.out.cell 0
          have cX : wa.cell? ⟨wr.heap.size, 1, none⟩ = some (.int .i64 X) := HBK.out.cell 1
          have cN : wa.cell? ⟨wr.heap.size, 2, none⟩ = some (.int .i64 N) := HBK.out.cell 2
          have hp := ue_yes w.heap.size w.heap.size v b X _ HW.out.1.1 (by omega) (by omega) (by omega) HW.out.size
          have HP := Lib.hid hp
          clear hp
          go_wp2_with fail
          ((with_reducible refine HP.out.mono ?_))
          rintro e w2 ⟨rfl, hq⟩
          have ht2 := hq.choose_spec.2.1
          have hll : (ueL X.toNat).length ≤ 61 := ueL_le (by omega)
          obtain ⟨v2, hw2⟩ := HW.out.put hq (M' := 64 * i + 64) (by rw [List.length_append]; omega)
          have HBK := Lib.hid (HBK.out.touch ht2 (fun q => by rcases q with q | q; exact absurd q (HBK.out.ne_ (Classical.choose_spec HW.out.1.1).1 (by decide)); exact HBK.out.ne_own (Classical.choose_spec HW.out.1.1).2 (by decide) q))
          have HW := Lib.hid hw2
          clear hw2 hq ht2 cK cX cN HP
          have cK : w2.cell? ⟨wr.heap.size, 0, none⟩ = some (.int .i64 K) := HBK.out.cell 0
          have cX : w2.cell? ⟨wr.heap.size, 1, none⟩ = some (.int .i64 X) := HBK.out.cell 1
          have cN : w2.cell? ⟨wr.heap.size, 2, none⟩ = some (.int .i64 N) := HBK.out.cell 2
          have kal2 := HBK.out.lt
          go_wp2_with (first | (go_at_call 12; refine (num_any _ _).mono ?_; rintro e w' ⟨rfl, rfl⟩))
          have hd := ue2_any X.toNat w2 (by omega)
          rw [show ((X.toNat : Nat) : Int) = X by omega] at hd
          have HD := Lib.hid hd
          clear hd
          ((with_reducible refine HD.out.mono ?_))
          rintro e w3 ⟨r, rfl, hrow, hb⟩
          have HW := Lib.hid (HW.out.go hb)
          obtain ⟨A3, c3, rfl, hrd, hnl⟩ := BRow.rd hrow
          have HRD := Lib.hid hrd
          have HNL := Lib.hid hnl
          clear hrow hb hrd hnl HD
          have hbl2 : b.length ≤ 6400 := by omega
          go_wp2_with (at_builtin; refine wpList_append_rd_at _ rfl (.tmp 88) (.tmp 91) 25 rfl w.heap.size 5 i0 (.int .u8 0) 1 Try.underlying25 hi hz0 hz1 hz2 rfl _ b.length (bitsV b) rfl HW.out.2.1 w3.heap.size A3 (ueL X.toNat).length c3 (fun j => .int .u8 (bu ((ueL X.toNat).getD j false))) rfl HRD.out HNL.out (fun k => rfl) (by unfold maxLen; omega) (by omega) HW.out.size ?_; intro u4 w4 hown4 hg4 hat4)
          rw [bitsV_add, ← List.length_append] at hown4
          have hw4 := HW.out.app hown4 hg4 hat4
          obtain ⟨B, hB⟩ : ∃ B, B = b ++ ueL X.toNat := ⟨_, rfl⟩
          rw [← hB] at hw4
          have HW := Lib.hid hw4
          clear hw4 hown4 hg4 hat4 hB HRD HNL cK cX cN
          go_wp2_with fail
          go_meet
          exact ⟨_, B, _, rfl, rfl, HW.out⟩
        · have t0 : (K == 0) = false := by rw [beq_eq_false_iff_ne]; omega
          have t1 : (K == 1) = true := by rw [beq_iff_eq]; omega
          have t2 : (K == 2) = false := by rw [beq_eq_false_iff_ne]; omega
          have t3 : (K == 3) = false := by rw [beq_eq_false_iff_ne]; omega
          have hq0 : X < 0 := by omega
          clear hcs
          have cK : wa.cell? ⟨wr.heap.size, 0, none⟩ = some (.int .i64 K) := HBK.out.cell 0
          have cX : wa.cell? ⟨wr.heap.size, 1, none⟩ = some (.int .i64 X) := HBK.out.cell 1
          have cN : wa.cell? ⟨wr.heap.size, 2, none⟩ = some (.int .i64 N) := HBK.out.cell 2
          go_wp2_with fail
          ((with_reducible refine (ue_no _ X _ (by omega)).mono ?_))
          rintro e w' ⟨rfl, rfl⟩
          have hw2 := HW.out.same (M' := 64 * i + 64) (by omega)
          obtain ⟨B, hB⟩ : ∃ B, B = b := ⟨_, rfl⟩
          rw [← hB] at hw2
          have HW := Lib.hid hw2
          clear hw2 hB
          go_wp2_with (first | (go_at_call 12; refine (num_any _ _).mono ?_; rintro e w' ⟨rfl, rfl⟩))
          go_meet
          exact ⟨_, B, _, rfl, rfl, HW.out⟩
        · have t0 : (K == 0) = false := by rw [beq_eq_false_iff_ne]; omega
          have t1 : (K == 1) = true := by rw [beq_iff_eq]; omega
          have t2 : (K == 2) = false := by rw [beq_eq_false_iff_ne]; omega
          have t3 : (K == 3) = false := by rw [beq_eq_false_iff_ne]; omega
          have hq0 : 2147483646 < X ∧ 0 ≤ X := by omega
          clear hcs
          have cK : wa.cell? ⟨wr.heap.size, 0, none⟩ = some (.int .i64 K) := HBK.out.cell 0
          have cX : wa.cell? ⟨wr.heap.size, 1, none⟩ = some (.int .i64 X) := HBK.out.cell 1
          have cN : wa.cell? ⟨wr.heap.size, 2, none⟩ = some (.int .i64 N) := HBK.out.cell 2
          go_wp2_with fail
          ((with_reducible refine (ue_no _ X _ (by omega)).mono ?_))
          rintro e w' ⟨rfl, rfl⟩
          have hw2 := HW.out.same (M' := 64 * i + 64) (by omega)
          obtain ⟨B, hB⟩ : ∃ B, B = b := ⟨_, rfl⟩
          rw [← hB] at hw2
          have HW := Lib.hid hw2
          clear hw2 hB
          go_wp2_with (first | (go_at_call 12; refine (num_any _ _).mono ?_; rintro e w' ⟨rfl, rfl⟩))
          go_meet
          exact ⟨_, B, _, rfl, rfl, HW.out⟩
        · have t0 : (K == 0) = false := by rw [beq_eq_false_iff_ne]; omega
          have t1 : (K == 1) = false := by rw [beq_eq_false_iff_ne]; omega
          have t2 : (K == 2) = true := by rw [beq_iff_eq]; omega
          have t3 : (K == 3) = false := by rw [beq_eq_false_iff_ne]; omega
          have hq0 : -1073741823 ≤ X ∧ X ≤ 1073741823 := by omega
          clear hcs
          have cK : wa.cell? ⟨wr.heap.size, 0, none⟩ = some (.int .i64 K) := HBK.out.cell 0
          have cX : wa.cell? ⟨wr.heap.size, 1, none⟩ = some (.int .i64 X) := HBK.out.cell 1
          have cN : wa.cell? ⟨wr.heap.size, 2, none⟩ = some (.int .i64 N) := HBK.out.cell 2
          have hp := se_yes w.heap.size w.heap.size v b X _ HW.out.1.1 (by omega) (by omega) (by omega) HW.out.size
          have HP := Lib.hid hp
          clear hp
          go_wp2_with fail
          ((with_reducible refine HP.out.mono ?_))
          rintro e w2 ⟨rfl, hq⟩
          have ht2 := hq.choose_spec.2.1
          have hll : (seL X).length ≤ 61 := seL_le (by omega) (by omega)
          obtain ⟨v2, hw2⟩ := HW.out.put hq (M' := 64 * i + 64) (by rw [List.length_append]; omega)
          have HBK := Lib.hid (HBK.out.touch ht2 (fun q => by rcases q with q | q; exact absurd q (HBK.out.ne_ (Classical.choose_spec HW.out.1.1).1 (by decide)); exact HBK.out.ne_own (Classical.choose_spec HW.out.1.1).2 (by decide) q))
          have HW := Lib.hid hw2
          clear hw2 hq ht2 cK cX cN HP
          have cK : w2.cell? ⟨wr.heap.size, 0, none⟩ = some (.int .i64 K) := HBK.out.cell 0
          have cX : w2.cell? ⟨wr.heap.size, 1, none⟩ = some (.int .i64 X) := HBK.out.cell 1
          have cN : w2.cell? ⟨wr.heap.size, 2, none⟩ = some (.int .i64 N) := HBK.out.cell 2
          have kal2 := HBK.out.lt
          go_wp2_with (first | (go_at_call 12; refine (num_any _ _).mono ?_; rintro e w' ⟨rfl, rfl⟩))
          have hd := se2_any X w2 (by omega)
          have HD := Lib.hid hd
          clear hd
          ((with_reducible refine HD.out.mono ?_))
          rintro e w3 ⟨r, rfl, hrow, hb⟩
          have HW := Lib.hid (HW.out.go hb)
          obtain ⟨A3, c3, rfl, hrd, hnl⟩ := BRow.rd hrow
          have HRD := Lib.hid hrd
          have HNL := Lib.hid hnl
          clear hrow hb hrd hnl HD
          have hbl2 : b.length ≤ 6400 := by omega
          go_wp2_with (at_builtin; refine wpList_append_rd_at _ rfl (.tmp 109) (.tmp 112) 25 rfl w.heap.size 5 i0 (.int .u8 0) 1 Try.underlying25 hi hz0 hz1 hz2 rfl _ b.length (bitsV b) rfl HW.out.2.1 w3.heap.size A3 (seL X).length c3 (fun j => .int .u8 (bu ((seL X).getD j false))) rfl HRD.out HNL.out (fun k => rfl) (by unfold maxLen; omega) (by omega) HW.out.size ?_; intro u4 w4 hown4 hg4 hat4)
          rw [bitsV_add, ← List.length_append] at hown4
          have hw4 := HW.out.app hown4 hg4 hat4
          obtain ⟨B, hB⟩ : ∃ B, B = b ++ seL X := ⟨_, rfl⟩
          rw [← hB] at hw4
          have HW := Lib.hid hw4
          clear hw4 hown4 hg4 hat4 hB HRD HNL cK cX cN
          go_wp2_with fail
          go_meet
          exact ⟨_, B, _, rfl, rfl, HW.out⟩
        · have t0 : (K == 0) = false := by rw [beq_eq_false_iff_ne]; omega
          have t1 : (K == 1) = false := by rw [beq_eq_false_iff_ne]; omega
          have t2 : (K == 2) = true := by rw [beq_iff_eq]; omega
          have t3 : (K == 3) = false := by rw [beq_eq_false_iff_ne]; omega
          have hq0 : X < -1073741823 := by omega
          clear hcs
          have cK : wa.cell? ⟨wr.heap.size, 0, none⟩ = some (.int .i64 K) := HBK.out.cell 0
          have cX : wa.cell? ⟨wr.heap.size, 1, none⟩ = some (.int .i64 X) := HBK.out.cell 1
          have cN : wa.cell? ⟨wr.heap.size, 2, none⟩ = some (.int .i64 N) := HBK.out.cell 2
          go_wp2_with fail
          ((with_reducible refine (se_no _ X _ (by omega)).mono ?_))
          rintro e w' ⟨rfl, rfl⟩
          have hw2 := HW.out.same (M' := 64 * i + 64) (by omega)
          obtain ⟨B, hB⟩ : ∃ B, B = b := ⟨_, rfl⟩
          rw [← hB] at hw2
          have HW := Lib.hid hw2
          clear hw2 hB
          go_wp2_with (first | (go_at_call 12; refine (num_any _ _).mono ?_; rintro e w' ⟨rfl, rfl⟩))
          go_meet
          exact ⟨_, B, _, rfl, rfl, HW.out⟩
        · have t0 : (K == 0) = false := by rw [beq_eq_false_iff_ne]; omega
          have t1 : (K == 1) = false := by rw [beq_eq_false_iff_ne]; omega
          have t2 : (K == 2) = true := by rw [beq_iff_eq]; omega
          have t3 : (K == 3) = false := by rw [beq_eq_false_iff_ne]; omega
          have hq0 : 1073741823 < X ∧ -1073741823 ≤ X := by omega
          clear hcs
          have cK : wa.cell? ⟨wr.heap.size, 0, none⟩ = some (.int .i64 K) := HBK.out.cell 0
          have cX : wa.cell? ⟨wr.heap.size, 1, none⟩ = some (.int .i64 X) := HBK.out.cell 1
          have cN : wa.cell? ⟨wr.heap.size, 2, none⟩ = some (.int .i64 N) := HBK.out.cell 2
          go_wp2_with fail
          ((with_reducible refine (se_no _ X _ (by omega)).mono ?_))
          rintro e w' ⟨rfl, rfl⟩
          have hw2 := HW.out.same (M' := 64 * i + 64) (by omega)
          obtain ⟨B, hB⟩ : ∃ B, B = b := ⟨_, rfl⟩
          rw [← hB] at hw2
          have HW := Lib.hid hw2
          clear hw2 hB
          go_wp2_with (first | (go_at_call 12; refine (num_any _ _).mono ?_; rintro e w' ⟨rfl, rfl⟩))
          go_meet
          exact ⟨_, B, _, rfl, rfl, HW.out⟩
        · have t0 : (K == 0) = false := by rw [beq_eq_false_iff_ne]; omega
          have t1 : (K == 1) = false := by rw [beq_eq_false_iff_ne]; omega
          have t2 : (K == 2) = false := by rw [beq_eq_false_iff_ne]; omega
          have t3 : (K == 3) = true := by rw [beq_iff_eq]; omega
          have hq0 : 1 ≤ N ∧ 0 ≤ X ∧ X ≤ N ∧ X ≤ 2147483646 := by omega
          clear hcs
          have cK : wa.cell? ⟨wr.heap.size, 0, none⟩ = some (.int .i64 K) := HBK.out.cell 0
          have cX : wa.cell? ⟨wr.heap.size, 1, none⟩ = some (.int .i64 X) := HBK.out.cell 1
          have cN : wa.cell? ⟨wr.heap.size, 2, none⟩ = some (.int .i64 N) := HBK.out.cell 2
          have hp := te_yes w.heap.size w.heap.size v b X N _ HW.out.1.1 (by omega) (by omega) (by omega) (by omega) (by omega) HW.out.size
          have HP := Lib.hid hp
          clear hp
          go_wp2_with fail
          ((with_reducible refine HP.out.mono ?_))
          rintro e w2 ⟨rfl, hq⟩
          have ht2 := hq.choose_spec.2.1
          have hll : (teL X.toNat N.toNat).length ≤ 61 := teL_le (by omega)
          obtain ⟨v2, hw2⟩ := HW.out.put hq (M' := 64 * i + 64) (by rw [List.length_append]; omega)
          have HBK := Lib.hid (HBK.out.touch ht2 (fun q => by rcases q with q | q; exact absurd q (HBK.out.ne_ (Classical.choose_spec HW.out.1.1).1 (by decide)); exact HBK.out.ne_own (Classical.choose_spec HW.out.1.1).2 (by decide) q))
          have HW := Lib.hid hw2
          clear hw2 hq ht2 cK cX cN HP
          have cK : w2.cell? ⟨wr.heap.size, 0, none⟩ = some (.int .i64 K) := HBK.out.cell 0
          have cX : w2.cell? ⟨wr.heap.size, 1, none⟩ = some (.int .i64 X) := HBK.out.cell 1
          have cN : w2.cell? ⟨wr.heap.size, 2, none⟩ = some (.int .i64 N) := HBK.out.cell 2
          have kal2 := HBK.out.lt
          go_wp2_with (first | (go_at_call 12; refine (num_any _ _).mono ?_; rintro e w' ⟨rfl, rfl⟩))
          have hd := te2_any X N w2 (by omega) (by omega) (by omega) (by omega)
          have HD := Lib.hid hd
          clear hd
          ((with_reducible refine HD.out.mono ?_))
          rintro e w3 ⟨r, rfl, hrow, hb⟩
          have HW := Lib.hid (HW.out.go hb)
          obtain ⟨A3, c3, rfl, hrd, hnl⟩ := BRow.rd hrow
          have HRD := Lib.hid hrd
          have HNL := Lib.hid hnl
          clear hrow hb hrd hnl HD
          have hbl2 : b.length ≤ 6400 := by omega
          go_wp2_with (at_builtin; refine wpList_append_rd_at _ rfl (.tmp 144) (.tmp 149) 25 rfl w.heap.size 5 i0 (.int .u8 0) 1 Try.underlying25 hi hz0 hz1 hz2 rfl _ b.length (bitsV b) rfl HW.out.2.1 w3.heap.size A3 (teL X.toNat N.toNat).length c3 (fun j => .int .u8 (bu ((teL X.toNat N.toNat).getD j false))) rfl HRD.out HNL.out (fun k => rfl) (by unfold maxLen; omega) (by omega) HW.out.size ?_; intro u4 w4 hown4 hg4 hat4)
          rw [bitsV_add, ← List.length_append] at hown4
          have hw4 := HW.out.app hown4 hg4 hat4
          obtain ⟨B, hB⟩ : ∃ B, B = b ++ teL X.toNat N.toNat := ⟨_, rfl⟩
          rw [← hB] at hw4
          have HW := Lib.hid hw4
          clear hw4 hown4 hg4 hat4 hB HRD HNL cK cX cN
          go_wp2_with fail
          go_meet
          exact ⟨_, B, _, rfl, rfl, HW.out⟩
        · have t0 : (K == 0) = false := by rw [beq_eq_false_iff_ne]; omega
          have t1 : (K == 1) = false := by rw [beq_eq_false_iff_ne]; omega
          have t2 : (K == 2) = false := by rw [beq_eq_false_iff_ne]; omega
          have t3 : (K == 3) = true := by rw [beq_iff_eq]; omega
          have hq0 : N < 1 := by omega
          clear hcs
          have cK : wa.cell? ⟨wr.heap.size, 0, none⟩ = some (.int .i64 K) := HBK.out.cell 0
          have cX : wa.cell? ⟨wr.heap.size, 1, none⟩ = some (.int .i64 X) := HBK.out.cell 1
          have cN : wa.cell? ⟨wr.heap.size, 2, none⟩ = some (.int .i64 N) := HBK.out.cell 2
          go_wp2_with fail
          ((with_reducible refine (te_no _ X N _ (by omega)).mono ?_))
          rintro e w' ⟨rfl, rfl⟩
          have hw2 := HW.out.same (M' := 64 * i + 64) (by omega)
          obtain ⟨B, hB⟩ : ∃ B, B = b := ⟨_, rfl⟩
          rw [← hB] at hw2
          have HW := Lib.hid hw2
          clear hw2 hB
          go_wp2_with (first | (go_at_call 12; refine (num_any _ _).mono ?_; rintro e w' ⟨rfl, rfl⟩))
          go_meet
          exact ⟨_, B, _, rfl, rfl, HW.out⟩
        · have t0 : (K == 0) = false := by rw [beq_eq_false_iff_ne]; omega
          have t1 : (K == 1) = false := by rw [beq_eq_false_iff_ne]; omega
          have t2 : (K == 2) = false := by rw [beq_eq_false_iff_ne]; omega
          have t3 : (K == 3) = true := by rw [beq_iff_eq]; omega
          have hq0 : 1 ≤ N ∧ X < 0 := by omega
          clear hcs
          have cK : wa.cell? ⟨wr.heap.size, 0, none⟩ = some (.int .i64 K) := HBK.out.cell 0
          have cX : wa.cell? ⟨wr.heap.size, 1, none⟩ = some (.int .i64 X) := HBK.out.cell 1
          have cN : wa.cell? ⟨wr.heap.size, 2, none⟩ = some (.int .i64 N) := HBK.out.cell 2
          go_wp2_with fail
          ((with_reducible refine (te_no _ X N _ (by omega)).mono ?_))
          rintro e w' ⟨rfl, rfl⟩
          have hw2 := HW.out.same (M' := 64 * i + 64) (by omega)
          obtain ⟨B, hB⟩ : ∃ B, B = b := ⟨_, rfl⟩
          rw [← hB] at hw2
          have HW := Lib.hid hw2
          clear hw2 hB
          go_wp2_with (first | (go_at_call 12; refine (num_any _ _).mono ?_; rintro e w' ⟨rfl, rfl⟩))
          go_meet
          exact ⟨_, B, _, rfl, rfl, HW.out⟩
        · have t0 : (K == 0) = false := by rw [beq_eq_false_iff_ne]; omega
          have t1 : (K == 1) = false := by rw [beq_eq_false_iff_ne]; omega
          have t2 : (K == 2) = false := by rw [beq_eq_false_iff_ne]; omega
          have t3 : (K == 3) = true := by rw [beq_iff_eq]; omega
          have hq0 : 1 ≤ N ∧ 0 ≤ X ∧ N < X := by omega
          clear hcs
          have cK : wa.cell? ⟨wr.heap.size, 0, none⟩ = some (.int .i64 K) := HBK.out.cell 0
          have cX : wa.cell? ⟨wr.heap.size, 1, none⟩ = some (.int .i64 X) := HBK.out.cell 1
          have cN : wa.cell? ⟨wr.heap.size, 2, none⟩ = some (.int .i64 N) := HBK.out.cell 2
          go_wp2_with fail
          ((with_reducible refine (te_no _ X N _ (by omega)).mono ?_))
          rintro e w' ⟨rfl, rfl⟩
          have hw2 := HW.out.same (M' := 64 * i + 64) (by omega)
          obtain ⟨B, hB⟩ : ∃ B, B = b := ⟨_, rfl⟩
          rw [← hB] at hw2
          have HW := Lib.hid hw2
          clear hw2 hB
          go_wp2_with (first | (go_at_call 12; refine (num_any _ _).mono ?_; rintro e w' ⟨rfl, rfl⟩))
          go_meet
          exact ⟨_, B, _, rfl, rfl, HW.out⟩
        · have t0 : (K == 0) = false := by rw [beq_eq_false_iff_ne]; omega
          have t1 : (K == 1) = false := by rw [beq_eq_false_iff_ne]; omega
          have t2 : (K == 2) = false := by rw [beq_eq_false_iff_ne]; omega
          have t3 : (K == 3) = true := by rw [beq_iff_eq]; omega
          have hq0 : 1 ≤ N ∧ 0 ≤ X ∧ X ≤ N ∧ 2147483646 < X := by omega
          clear hcs
          have cK : wa.cell? ⟨wr.heap.size, 0, none⟩ = some (.int .i64 K) := HBK.out.cell 0
          have cX : wa.cell? ⟨wr.heap.size, 1, none⟩ = some (.int .i64 X) := HBK.out.cell 1
          have cN : wa.cell? ⟨wr.heap.size, 2, none⟩ = some (.int .i64 N) := HBK.out.cell 2
          go_wp2_with fail
          ((with_reducible refine (te_no _ X N _ (by omega)).mono ?_))
          rintro e w' ⟨rfl, rfl⟩
          have hw2 := HW.out.same (M' := 64 * i + 64) (by omega)
          obtain ⟨B, hB⟩ : ∃ B, B = b := ⟨_, rfl⟩
          rw [← hB] at hw2
          have HW := Lib.hid hw2
          clear hw2 hB
          go_wp2_with (first | (go_at_call 12; refine (num_any _ _).mono ?_; rintro e w' ⟨rfl, rfl⟩))
          go_meet
          exact ⟨_, B, _, rfl, rfl, HW.out⟩
        · have t0 : (K == 0) = false := by rw [beq_eq_false_iff_ne]; omega
          have t1 : (K == 1) = false := by rw [beq_eq_false_iff_ne]; omega
          have t2 : (K == 2) = false := by rw [beq_eq_false_iff_ne]; omega
          have t3 : (K == 3) = false := by rw [beq_eq_false_iff_ne]; omega
          clear hcs
          have cK : wa.cell? ⟨wr.heap.size, 0, none⟩ = some (.int .i64 K) := HBK.out.cell 0
          have cX : wa.cell? ⟨wr.heap.size, 1, none⟩ = some (.int .i64 X) := HBK.out.cell 1
          have cN : wa.cell? ⟨wr.heap.size, 2, none⟩ = some (.int .i64 N) := HBK.out.cell 2
          go_wp2_with fail
          have HP := Lib.hid (wtrail_any w.heap.size w.heap.size v b _ HW.out.1.1 (by omega) HW.out.size)
          ((with_reducible refine HP.out.mono ?_))
          rintro e w2 ⟨rfl, hq⟩
          obtain ⟨v2, hw2⟩ := HW.out.put hq (M' := 64 * i + 64) (by rw [trL_len]; omega)
          have HW := Lib.hid hw2
          clear hw2 hq cK cX cN HP
          go_wp2_with fail
          have HT := Lib.hid (trail2_any w.heap.size _ b _ HW.out.2.1 HW.out.size (by omega))
          ((with_reducible refine HT.out.mono ?_))
          rintro e w3 ⟨u3, rfl, hg⟩
          have hw3 := HW.out.grow hg.1 hg.2.1 hg.2.2
          obtain ⟨B, hB⟩ : ∃ B, B = trL b := ⟨_, rfl⟩
          rw [← hB] at hw3
          have HW := Lib.hid hw3
          clear hw3 hg hB HT
          go_wp2_with fail
          go_meet
          exact ⟨_, B, _, rfl, rfl, HW.out⟩
      case rest =>
        obtain ⟨v2, B, ec, rfl, rfl, hw⟩ := hcut
        have HW := Lib.hid hw
        clear hw hcase HBK
        have hbs := HW.out.1.2.2.2
        have hpk := HW.out.2.1
        obtain ⟨A9, c9, hu9, hr9, -⟩ := BRow.rd (w := w) hpk
        subst hu9
        obtain ⟨L, hL⟩ : ∃ L : Nat, L = B.length := ⟨_, rfl⟩
        obtain ⟨S, hS⟩ : ∃ S, packS B = S := ⟨_, rfl⟩
        have HR9 := Lib.hid hr9
        have HS := Lib.hid hS
        have hln : (B.length : Int) = (L : Int) := by rw [hL]
        have HLN := Lib.hid hln
        rw [← hL]
        have hLb : L ≤ 1000000 := by omega
        have HL := Lib.hid hL
        clear hbs hpk hr9 hL hS hln
        go_wp2_with (first | (go_at_call 12; refine (num_any _ _).mono ?_; rintro e w' ⟨rfl, rfl⟩) | (go_at_call 22; refine (st_len HW.out.1 HLN.out).mono ?_; rintro e w' ⟨rfl, rfl⟩) | (go_at_call 23; refine (st_bytes HW.out.1 HS.out).mono ?_; rintro e w' ⟨rfl, rfl⟩))
        have hpa := pack_any A9 c9 _ B _ HR9.out (Nat.le_refl _) (by rw [← HL.out]; omega)
        rw [← HL.out, HS.out] at hpa
        have HPA := Lib.hid hpa
        clear hpa
        ((with_reducible refine HPA.out.mono ?_))
        rintro e w9 ⟨rfl, hb⟩
        have HW := Lib.hid (HW.out.go hb)
        clear hb HPA
        go_wp2_with fail
        go_roundw
        case rel => exact ⟨i + 1, _, B, by omega, by omega, by go_num, by rw [← hsz2, HL.out]; exact HW.out⟩
        case measure => simp [intOf]; omega
    · have hst : ((n0 : Int) ≤ i ∧ (n0 : Int) ≤ i) ∨ ((i : Int) < n0 ∧ 100 ≤ (i : Int)) := by omega
      have HB := Lib.hid hw.1.2.2.1
      clear hw hlt
      rcases hst with ⟨h5, h6⟩ | ⟨h5, h6⟩
      all_goals
        go_wp2_with fail
        refine (awake_any _).mono ?_
        rintro e w2 ⟨rfl, hb⟩
        have HB2 := Lib.hid (HB.out.trans (hb.mono HB.out.size))
        clear hb HB
        go_wp2_with fail
        go_ret
        exact ⟨rfl, HB2.out⟩
end Go.Proofs.Ytbahmiiflkgigaa
