/- May: which headers there are. SameMods, SameWeights, SameOps, SameHead: of equal ones. Printed by gen-heds.py. SameHead: of equal headers. Printed by gen-hedsh.py. A region that draws its order, with calls (stores) that come one behind the other, one allocation anywhere, quiet operations between. No function of the program. Headers, plainly: what a header that may be has; its bits. No function of the program. Put. Get. Printed by gen-hget.py. Get, where the parameters are fine. Printed by gen-hrun.py. Headers, plainly: what is written is read. No function of the program. Headers, plainly: what is written is read: the whole. No function of the program. Tiny. Steps of a plain region, by hand; three boxes of Tiny's. awake: the region that reads a header back, by an invariant over what has been done. Printed by gen-haw.py. The region that lays Tiny's answer in boxes. -/
import Derived.Test.YtjokibagciehlaaGreatHedF1
import Derived.Test.YtjokibagciehlaaGreatHedF4
import Derived.Test.YtjokibagciehlaaGreatHedF6
import Derived.Test.YtjokibagciehlaaGreatHedF8
import Derived.Test.YtjokibagciehlaaGreatHedF10
import Derived.Test.YtjokibagciehlaaGreatHedF12
import Derived.Test.YtjokibagciehlaaGreatHedF14
import Derived.Test.YtjokibagciehlaaGreatHedE
import Derived.Laws.StructEq
import Derived.Laws.Tables
import Derived.Test.YtjokibagciehlaaGreatInv
import Derived.Test.YtjokibagciehlaaGreatHedY
import Derived.Test.YtjokibagciehlaaGreatBitL
namespace Go.Proofs.YtjokibagciehlaaGreat
open Go.RowKit
set_option linter.unusedVariables false

theorem mayhd_any (h : Hd) (q : Ha) (s : Sp) (A : Option Addr) (c : Nat) (p : Pp) (ref : Int) (key : Bool) (w : World) (H : HdAt w w.heap.size h q) (L : HdLen h) (hs : SpAt w w.heap.size s A) (hn : s.cy.length ≤ 1152921504606846976) :
  Calls Tryz.prog 11 #[.agg (hdV h q), .agg (spV s A c), .agg (ppV p), .int .i64 ref, .bool key] w fun e w' => e = .returned (.bool (mayHd h s p ref key)) ∧ Below w.heap.size w w' := by
 by_cases h0 : maySp s = true ∧ mayPp p = true ∧ inR 0 3 ref = true
 ·obtain ⟨e1, e2, e3⟩ := h0
  have hM : mayHd h s p ref key = (r4 h s key && r6 h s key && r8 h s && r10 h p ref key && r12 h p && inR 0 51 h.qp) := by
   unfold mayHd
   rw [e1, e2, e3]
   rfl
  rw [hM]
  obtain ⟨z4, hr4⟩ : ∃ b, r4 h s key = b := ⟨_, rfl⟩
  obtain ⟨z6, hr6⟩ : ∃ b, r6 h s key = b := ⟨_, rfl⟩
  obtain ⟨z8, hr8⟩ : ∃ b, r8 h s = b := ⟨_, rfl⟩
  obtain ⟨z10, hr10⟩ : ∃ b, r10 h p ref key = b := ⟨_, rfl⟩
  obtain ⟨z12, hr12⟩ : ∃ b, r12 h p = b := ⟨_, rfl⟩
  rw [hr4, hr6, hr8, hr10, hr12]
  cases z4
  ·exact may_4 h q s A c p ref key w H L hs hn e1 e2 e3 hr4
  cases z6
  ·exact may_6 h q s A c p ref key w H L hs hn e1 e2 e3 hr4 hr6
  cases z8
  ·exact may_8 h q s A c p ref key w H L hs hn e1 e2 e3 hr4 hr6 hr8
  cases z10
  ·exact may_10 h q s A c p ref key w H L hs hn e1 e2 e3 hr4 hr6 hr8 hr10
  cases z12
  ·exact may_12 h q s A c p ref key w H L hs hn e1 e2 e3 hr4 hr6 hr8 hr10 hr12
  ·exact may_14 h q s A c p ref key w H L hs hn e1 e2 e3 hr4 hr6 hr8 hr10 hr12
 ·have hM : mayHd h s p ref key = false := by
   unfold mayHd
   rcases h1 : maySp s with _ | _
   ·rfl
   rcases h2 : mayPp p with _ | _
   ·rfl
   rcases h3 : inR 0 3 ref with _ | _
   ·rfl
   exact absurd ⟨h1, h2, h3⟩ h0
  rw [hM]
  exact may_1 h q s A c p ref key w H L hs hn h0
end Go.Proofs.YtjokibagciehlaaGreat

namespace Go.Proofs.YtjokibagciehlaaGreat
open Go.RowKit
set_option linter.unusedVariables false
set_option linter.unusedSimpArgs false

theorem eq_arr3 (d : Nat) (a b c : Int) (w : World) : (Op.equalIn (d + 2) 114 (.agg #[.int .i64 a, .int .i64 b, .int .i64 c]) (.agg #[.int .i64 a, .int .i64 b, .int .i64 c])).run Tryz.prog w = .ok true w := by
 have u3 := Tryz.underlying3
 have a3 := Tryz.isAgg3
 have z3 := Tryz.sizeOf3
 rw [Op.equalIn]
 simp only [Sem.run_bind, run_underlying Tryz.underlying114, Result.andThen_ok]
 simp only [Std.Legacy.Range.forIn_eq_forIn_range', Std.Legacy.Range.size, Nat.sub_zero, Nat.add_sub_cancel, Nat.div_one, List.range'_succ, List.range'_zero, List.forIn_cons, List.forIn_nil]
 go_simp
 try simp
attribute [local go_sem] eq_arr3
set_option maxRecDepth 100000 in
set_option maxHeartbeats 3200000 in
theorem sameMods_yes (l : List Md) (A B : Option Addr) (c d : Nat) (w : World) (h1 : RwAt w w.heap.size A 2 mdF l) (h2 : RwAt w w.heap.size B 2 mdF l) (hn : l.length ≤ 1152921504606846976) :
  Calls Tryz.prog 59 #[.slice A l.length c, .slice B l.length d] w fun e w' => e = .returned (.bool true) ∧ Below w.heap.size w w' := by
 have H1 := Lib.hid h1
 have H2 := Lib.hid h2
 clear h1 h2
 go_enter Tryz.func59, Tryz.ntmps59
 go_wp2_with fail
 go_loopw [5] (fun i wr => ∃ k : Nat, k ≤ l.length ∧ i = .int .i64 k ∧ Below w.heap.size w wr) (fun i _ => l.length - (intOf i).toNat)
 case atStart => exact ⟨0, Nat.zero_le _, rfl, Below.refl _ _⟩
 case round =>
  obtain ⟨k, hk, rfl, hbl⟩ := hrel
  have HB := Lib.hid hbl
  clear hbl
  by_cases hlt : k < l.length
  ·have hlt' : (k : Int) < (l.length : Int) := by omega
   have hk0 : (0 : Int) ≤ (k : Int) := Int.natCast_nonneg _
   obtain ⟨ad, rfl, hab, hc⟩ := (H1.out.below HB.out (Nat.le_refl _)) (by omega)
   obtain ⟨ae, rfl, hae, he⟩ := (H2.out.below HB.out (Nat.le_refl _)) (by omega)
   obtain ⟨hc0, hcj⟩ := hc k hlt
   obtain ⟨he0, hej⟩ := he k hlt
   have hc1 := hcj 1 (by omega) (by omega)
   have he1 := hej 1 (by omega) (by omega)
   obtain ⟨⟨mk, mv⟩, hm⟩ : ∃ m, m = l[k] := ⟨_, rfl⟩
   rw [← hm] at hc0 he0 hc1 he1
   have dc0 : wr.cell? (ad.add (k * 2)) = some (.int .i64 mk) := hc0
   have de0 : wr.cell? (ae.add (k * 2)) = some (.int .i64 mk) := he0
   have dc1 : wr.cell? ⟨(ad.add (k * 2)).block, (ad.add (k * 2)).off + 1, none⟩ = some (.int .i64 mv) := hc1
   have de1 : wr.cell? ⟨(ae.add (k * 2)).block, (ae.add (k * 2)).off + 1, none⟩ = some (.int .i64 mv) := he1
   clear hc0 he0 hc1 he1 hcj hej hc he hab hae hm
   go_wp2_with fail
   go_quiet (fail)
   go_wp2_with fail
   go_roundw
   case rel => 
    have hq := HB.out
    exact ⟨k + 1, by omega, by go_num, ⟨hq.os, hq.tape, hq.output, hq.size, hq.block⟩⟩
   case measure => simp [intOf]; omega
  ·obtain rfl : k = l.length := by omega
   have hnl : ¬ (l.length : Int) < (l.length : Int) := by omega
   go_wp2_with fail
   go_ret
   exact ⟨rfl, HB.out⟩
set_option maxRecDepth 100000 in
set_option maxHeartbeats 3200000 in
theorem sameWeights_yes (l : List Wt) (A B : Option Addr) (c d : Nat) (w : World) (h1 : RwAt w w.heap.size A 6 wtF l) (h2 : RwAt w w.heap.size B 6 wtF l) (hn : l.length ≤ 1152921504606846976) :
  Calls Tryz.prog 60 #[.slice A l.length c, .slice B l.length d] w fun e w' => e = .returned (.bool true) ∧ Below w.heap.size w w' := by
 have H1 := Lib.hid h1
 have H2 := Lib.hid h2
 clear h1 h2
 go_enter Tryz.func60, Tryz.ntmps60
 go_wp2_with fail
 go_loopw [5] (fun i wr => ∃ k : Nat, k ≤ l.length ∧ i = .int .i64 k ∧ Below w.heap.size w wr) (fun i _ => l.length - (intOf i).toNat)
 case atStart => exact ⟨0, Nat.zero_le _, rfl, Below.refl _ _⟩
 case round =>
  obtain ⟨k, hk, rfl, hbl⟩ := hrel
  have HB := Lib.hid hbl
  clear hbl
  by_cases hlt : k < l.length
  ·have hlt' : (k : Int) < (l.length : Int) := by omega
   have hk0 : (0 : Int) ≤ (k : Int) := Int.natCast_nonneg _
   obtain ⟨ad, rfl, hab, hc⟩ := (H1.out.below HB.out (Nat.le_refl _)) (by omega)
   obtain ⟨ae, rfl, hae, he⟩ := (H2.out.below HB.out (Nat.le_refl _)) (by omega)
   obtain ⟨hc0, hcj⟩ := hc k hlt
   obtain ⟨he0, hej⟩ := he k hlt
   have hc1 := hcj 1 (by omega) (by omega)
   have he1 := hej 1 (by omega) (by omega)
   have hc2 := hcj 2 (by omega) (by omega)
   have he2 := hej 2 (by omega) (by omega)
   have hc3 := hcj 3 (by omega) (by omega)
   have he3 := hej 3 (by omega) (by omega)
   have hc4 := hcj 4 (by omega) (by omega)
   have he4 := hej 4 (by omega) (by omega)
   have hc5 := hcj 5 (by omega) (by omega)
   have he5 := hej 5 (by omega) (by omega)
   obtain ⟨⟨xs0, xs1, xs2, xo0, xo1, xo2⟩, hm⟩ : ∃ m, m = l[k] := ⟨_, rfl⟩
   rw [← hm] at hc0 he0 hc1 he1 hc2 he2 hc3 he3 hc4 he4 hc5 he5
   have dc0 : wr.cell? (ad.add (k * 6)) = some (.int .i64 xs0) := hc0
   have de0 : wr.cell? (ae.add (k * 6)) = some (.int .i64 xs0) := he0
   have dc1 : wr.cell? ⟨(ad.add (k * 6)).block, (ad.add (k * 6)).off + 1, none⟩ = some (.int .i64 xs1) := hc1
   have de1 : wr.cell? ⟨(ae.add (k * 6)).block, (ae.add (k * 6)).off + 1, none⟩ = some (.int .i64 xs1) := he1
   have dc2 : wr.cell? ⟨(ad.add (k * 6)).block, (ad.add (k * 6)).off + 2, none⟩ = some (.int .i64 xs2) := hc2
   have de2 : wr.cell? ⟨(ae.add (k * 6)).block, (ae.add (k * 6)).off + 2, none⟩ = some (.int .i64 xs2) := he2
   have dc3 : wr.cell? ⟨(ad.add (k * 6)).block, (ad.add (k * 6)).off + 3, none⟩ = some (.int .i64 xo0) := hc3
   have de3 : wr.cell? ⟨(ae.add (k * 6)).block, (ae.add (k * 6)).off + 3, none⟩ = some (.int .i64 xo0) := he3
   have dc4 : wr.cell? ⟨(ad.add (k * 6)).block, (ad.add (k * 6)).off + 4, none⟩ = some (.int .i64 xo1) := hc4
   have de4 : wr.cell? ⟨(ae.add (k * 6)).block, (ae.add (k * 6)).off + 4, none⟩ = some (.int .i64 xo1) := he4
   have dc5 : wr.cell? ⟨(ad.add (k * 6)).block, (ad.add (k * 6)).off + 5, none⟩ = some (.int .i64 xo2) := hc5
   have de5 : wr.cell? ⟨(ae.add (k * 6)).block, (ae.add (k * 6)).off + 5, none⟩ = some (.int .i64 xo2) := he5
   clear hc0 he0 hc1 he1 hc2 he2 hc3 he3 hc4 he4 hc5 he5 hcj hej hc he hab hae hm
   go_wp2_with fail
   go_quiet (fail)
   go_wp2_with fail
   go_roundw
   case rel => 
    have hq := HB.out
    exact ⟨k + 1, by omega, by go_num, ⟨hq.os, hq.tape, hq.output, hq.size, hq.block⟩⟩
   case measure => simp [intOf]; omega
  ·obtain rfl : k = l.length := by omega
   have hnl : ¬ (l.length : Int) < (l.length : Int) := by omega
   go_wp2_with fail
   go_ret
   exact ⟨rfl, HB.out⟩
set_option maxRecDepth 100000 in
set_option maxHeartbeats 3200000 in
theorem sameOps_yes (l : List Mo) (A B : Option Addr) (c d : Nat) (w : World) (h1 : RwAt w w.heap.size A 3 moF l) (h2 : RwAt w w.heap.size B 3 moF l) (hn : l.length ≤ 1152921504606846976) :
  Calls Tryz.prog 61 #[.slice A l.length c, .slice B l.length d] w fun e w' => e = .returned (.bool true) ∧ Below w.heap.size w w' := by
 have H1 := Lib.hid h1
 have H2 := Lib.hid h2
 clear h1 h2
 go_enter Tryz.func61, Tryz.ntmps61
 go_wp2_with fail
 go_loopw [5] (fun i wr => ∃ k : Nat, k ≤ l.length ∧ i = .int .i64 k ∧ Below w.heap.size w wr) (fun i _ => l.length - (intOf i).toNat)
 case atStart => exact ⟨0, Nat.zero_le _, rfl, Below.refl _ _⟩
 case round =>
  obtain ⟨k, hk, rfl, hbl⟩ := hrel
  have HB := Lib.hid hbl
  clear hbl
  by_cases hlt : k < l.length
  ·have hlt' : (k : Int) < (l.length : Int) := by omega
   have hk0 : (0 : Int) ≤ (k : Int) := Int.natCast_nonneg _
   obtain ⟨ad, rfl, hab, hc⟩ := (H1.out.below HB.out (Nat.le_refl _)) (by omega)
   obtain ⟨ae, rfl, hae, he⟩ := (H2.out.below HB.out (Nat.le_refl _)) (by omega)
   obtain ⟨hc0, hcj⟩ := hc k hlt
   obtain ⟨he0, hej⟩ := he k hlt
   have hc1 := hcj 1 (by omega) (by omega)
   have he1 := hej 1 (by omega) (by omega)
   have hc2 := hcj 2 (by omega) (by omega)
   have he2 := hej 2 (by omega) (by omega)
   obtain ⟨⟨mk, ma, mb⟩, hm⟩ : ∃ m, m = l[k] := ⟨_, rfl⟩
   rw [← hm] at hc0 he0 hc1 he1 hc2 he2
   have dc0 : wr.cell? (ad.add (k * 3)) = some (.int .i64 mk) := hc0
   have de0 : wr.cell? (ae.add (k * 3)) = some (.int .i64 mk) := he0
   have dc1 : wr.cell? ⟨(ad.add (k * 3)).block, (ad.add (k * 3)).off + 1, none⟩ = some (.int .i64 ma) := hc1
   have de1 : wr.cell? ⟨(ae.add (k * 3)).block, (ae.add (k * 3)).off + 1, none⟩ = some (.int .i64 ma) := he1
   have dc2 : wr.cell? ⟨(ad.add (k * 3)).block, (ad.add (k * 3)).off + 2, none⟩ = some (.int .i64 mb) := hc2
   have de2 : wr.cell? ⟨(ae.add (k * 3)).block, (ae.add (k * 3)).off + 2, none⟩ = some (.int .i64 mb) := he2
   clear hc0 he0 hc1 he1 hc2 he2 hcj hej hc he hab hae hm
   go_wp2_with fail
   go_quiet (fail)
   go_wp2_with fail
   go_roundw
   case rel => 
    have hq := HB.out
    exact ⟨k + 1, by omega, by go_num, ⟨hq.os, hq.tape, hq.output, hq.size, hq.block⟩⟩
   case measure => simp [intOf]; omega
  ·obtain rfl : k = l.length := by omega
   have hnl : ¬ (l.length : Int) < (l.length : Int) := by omega
   go_wp2_with fail
   go_ret
   exact ⟨rfl, HB.out⟩
end Go.Proofs.YtjokibagciehlaaGreat

namespace Go.Proofs.YtjokibagciehlaaGreat
open Go.RowKit
set_option linter.unusedVariables false
set_option linter.unusedSimpArgs false

set_option maxRecDepth 100000 in
set_option maxHeartbeats 6400000 in
theorem samehd_yes (h : Hd) (q r : Ha) (w : World) (H : HdAt w w.heap.size h q) (H' : HdAt w w.heap.size h r) (L : HdLen h) :
  Calls Tryz.prog 25 #[.agg (hdV h q), .agg (hdV h r)] w fun e w' => e = .returned (.bool true) ∧ Below w.heap.size w w' := by
 have HQ := Lib.hid H
 have HR := Lib.hid H'
 have HL := Lib.hid L
 clear H H' L
 simp only [hdV]
 have HB := Lib.hid (Below.refl w.heap.size w)
 replace HQ := Lib.hid (HdAt.past HQ.out (.cells #[.int .i64 h.first, .int .i64 h.count, .int .i64 h.type, .int .i64 h.fn, .int .i64 h.id, .int .i64 h.poc, .bool h.spatial, .int .i64 h.a0, .int .i64 h.a1, .slice q.m0 h.m0.length q.cm0, .slice q.m1 h.m1.length q.cm1, .int .i64 h.log, .int .i64 h.logC, .slice q.w0 h.w0.length q.cw0, .slice q.w1 h.w1.length q.cw1, .bool h.longKey, .slice q.ops h.ops.length q.cops, .int .i64 h.qp, .bool h.off, .int .i64 h.a, .int .i64 h.b] 26))
 replace HR := Lib.hid (HdAt.past HR.out (.cells #[.int .i64 h.first, .int .i64 h.count, .int .i64 h.type, .int .i64 h.fn, .int .i64 h.id, .int .i64 h.poc, .bool h.spatial, .int .i64 h.a0, .int .i64 h.a1, .slice q.m0 h.m0.length q.cm0, .slice q.m1 h.m1.length q.cm1, .int .i64 h.log, .int .i64 h.logC, .slice q.w0 h.w0.length q.cw0, .slice q.w1 h.w1.length q.cw1, .bool h.longKey, .slice q.ops h.ops.length q.cops, .int .i64 h.qp, .bool h.off, .int .i64 h.a, .int .i64 h.b] 26))
 replace HB := Lib.hid (HB.out.alloc HB.out.size (.cells #[.int .i64 h.first, .int .i64 h.count, .int .i64 h.type, .int .i64 h.fn, .int .i64 h.id, .int .i64 h.poc, .bool h.spatial, .int .i64 h.a0, .int .i64 h.a1, .slice q.m0 h.m0.length q.cm0, .slice q.m1 h.m1.length q.cm1, .int .i64 h.log, .int .i64 h.logC, .slice q.w0 h.w0.length q.cw0, .slice q.w1 h.w1.length q.cw1, .bool h.longKey, .slice q.ops h.ops.length q.cops, .int .i64 h.qp, .bool h.off, .int .i64 h.a, .int .i64 h.b] 26))
 have Kx := Lib.hid (Bk.new w 26 #[.int .i64 h.first, .int .i64 h.count, .int .i64 h.type, .int .i64 h.fn, .int .i64 h.id, .int .i64 h.poc, .bool h.spatial, .int .i64 h.a0, .int .i64 h.a1, .slice q.m0 h.m0.length q.cm0, .slice q.m1 h.m1.length q.cm1, .int .i64 h.log, .int .i64 h.logC, .slice q.w0 h.w0.length q.cw0, .slice q.w1 h.w1.length q.cw1, .bool h.longKey, .slice q.ops h.ops.length q.cops, .int .i64 h.qp, .bool h.off, .int .i64 h.a, .int .i64 h.b])
 replace Kx := Lib.hid (Kx.out.alloc (.cells #[.int .i64 h.first, .int .i64 h.count, .int .i64 h.type, .int .i64 h.fn, .int .i64 h.id, .int .i64 h.poc, .bool h.spatial, .int .i64 h.a0, .int .i64 h.a1, .slice r.m0 h.m0.length r.cm0, .slice r.m1 h.m1.length r.cm1, .int .i64 h.log, .int .i64 h.logC, .slice r.w0 h.w0.length r.cw0, .slice r.w1 h.w1.length r.cw1, .bool h.longKey, .slice r.ops h.ops.length r.cops, .int .i64 h.qp, .bool h.off, .int .i64 h.a, .int .i64 h.b] 26))
 replace HQ := Lib.hid (HdAt.past HQ.out (.cells #[.int .i64 h.first, .int .i64 h.count, .int .i64 h.type, .int .i64 h.fn, .int .i64 h.id, .int .i64 h.poc, .bool h.spatial, .int .i64 h.a0, .int .i64 h.a1, .slice r.m0 h.m0.length r.cm0, .slice r.m1 h.m1.length r.cm1, .int .i64 h.log, .int .i64 h.logC, .slice r.w0 h.w0.length r.cw0, .slice r.w1 h.w1.length r.cw1, .bool h.longKey, .slice r.ops h.ops.length r.cops, .int .i64 h.qp, .bool h.off, .int .i64 h.a, .int .i64 h.b] 26))
 replace HR := Lib.hid (HdAt.past HR.out (.cells #[.int .i64 h.first, .int .i64 h.count, .int .i64 h.type, .int .i64 h.fn, .int .i64 h.id, .int .i64 h.poc, .bool h.spatial, .int .i64 h.a0, .int .i64 h.a1, .slice r.m0 h.m0.length r.cm0, .slice r.m1 h.m1.length r.cm1, .int .i64 h.log, .int .i64 h.logC, .slice r.w0 h.w0.length r.cw0, .slice r.w1 h.w1.length r.cw1, .bool h.longKey, .slice r.ops h.ops.length r.cops, .int .i64 h.qp, .bool h.off, .int .i64 h.a, .int .i64 h.b] 26))
 replace HB := Lib.hid (HB.out.alloc HB.out.size (.cells #[.int .i64 h.first, .int .i64 h.count, .int .i64 h.type, .int .i64 h.fn, .int .i64 h.id, .int .i64 h.poc, .bool h.spatial, .int .i64 h.a0, .int .i64 h.a1, .slice r.m0 h.m0.length r.cm0, .slice r.m1 h.m1.length r.cm1, .int .i64 h.log, .int .i64 h.logC, .slice r.w0 h.w0.length r.cw0, .slice r.w1 h.w1.length r.cw1, .bool h.longKey, .slice r.ops h.ops.length r.cops, .int .i64 h.qp, .bool h.off, .int .i64 h.a, .int .i64 h.b] 26))
 have Ky := Lib.hid (Bk.new (w.alloc (.cells #[.int .i64 h.first, .int .i64 h.count, .int .i64 h.type, .int .i64 h.fn, .int .i64 h.id, .int .i64 h.poc, .bool h.spatial, .int .i64 h.a0, .int .i64 h.a1, .slice q.m0 h.m0.length q.cm0, .slice q.m1 h.m1.length q.cm1, .int .i64 h.log, .int .i64 h.logC, .slice q.w0 h.w0.length q.cw0, .slice q.w1 h.w1.length q.cw1, .bool h.longKey, .slice q.ops h.ops.length q.cops, .int .i64 h.qp, .bool h.off, .int .i64 h.a, .int .i64 h.b] 26)) 26 #[.int .i64 h.first, .int .i64 h.count, .int .i64 h.type, .int .i64 h.fn, .int .i64 h.id, .int .i64 h.poc, .bool h.spatial, .int .i64 h.a0, .int .i64 h.a1, .slice r.m0 h.m0.length r.cm0, .slice r.m1 h.m1.length r.cm1, .int .i64 h.log, .int .i64 h.logC, .slice r.w0 h.w0.length r.cw0, .slice r.w1 h.w1.length r.cw1, .bool h.longKey, .slice r.ops h.ops.length r.cops, .int .i64 h.qp, .bool h.off, .int .i64 h.a, .int .i64 h.b])
 go_enter Tryz.func25, Tryz.ntmps25
 go_wp2_with fail
 refine (sameMods_yes h.m0 q.m0 r.m0 q.cm0 r.cm0 _ HQ.out.m0 HR.out.m0 (by have := HL.out.m0; omega)).mono ?_
 rintro e w1 ⟨rfl, hb⟩
 replace Kx := Lib.hid (Kx.out.go hb)
 replace Ky := Lib.hid (Ky.out.go hb)
 replace HQ := Lib.hid (HdAt.go HQ.out hb)
 replace HR := Lib.hid (HdAt.go HR.out hb)
 replace HB := Lib.hid (HB.out.trans (hb.mono HB.out.size))
 clear hb
 have cx_0 := Kx.out.cell 0
 have cx_1 := Kx.out.cell 1
 have cx_2 := Kx.out.cell 2
 have cx_3 := Kx.out.cell 3
 have cx_4 := Kx.out.cell 4
 have cx_5 := Kx.out.cell 5
 have cx_6 := Kx.out.cell 6
 have cx_7 := Kx.out.cell 7
 have cx_8 := Kx.out.cell 8
 have cx_9 := Kx.out.cell 9
 have cx_10 := Kx.out.cell 10
 have cx_11 := Kx.out.cell 11
 have cx_12 := Kx.out.cell 12
 have cx_13 := Kx.out.cell 13
 have cx_14 := Kx.out.cell 14
 have cx_15 := Kx.out.cell 15
 have cx_16 := Kx.out.cell 16
 have cx_17 := Kx.out.cell 17
 have cx_18 := Kx.out.cell 18
 have cx_19 := Kx.out.cell 19
 have cx_20 := Kx.out.cell 20
 simp at cx_0 cx_1 cx_2 cx_3 cx_4 cx_5 cx_6 cx_7 cx_8 cx_9 cx_10 cx_11 cx_12 cx_13 cx_14 cx_15 cx_16 cx_17 cx_18 cx_19 cx_20
 have cy_0 := Ky.out.cell 0
 have cy_1 := Ky.out.cell 1
 have cy_2 := Ky.out.cell 2
 have cy_3 := Ky.out.cell 3
 have cy_4 := Ky.out.cell 4
 have cy_5 := Ky.out.cell 5
 have cy_6 := Ky.out.cell 6
 have cy_7 := Ky.out.cell 7
 have cy_8 := Ky.out.cell 8
 have cy_9 := Ky.out.cell 9
 have cy_10 := Ky.out.cell 10
 have cy_11 := Ky.out.cell 11
 have cy_12 := Ky.out.cell 12
 have cy_13 := Ky.out.cell 13
 have cy_14 := Ky.out.cell 14
 have cy_15 := Ky.out.cell 15
 have cy_16 := Ky.out.cell 16
 have cy_17 := Ky.out.cell 17
 have cy_18 := Ky.out.cell 18
 have cy_19 := Ky.out.cell 19
 have cy_20 := Ky.out.cell 20
 simp at cy_0 cy_1 cy_2 cy_3 cy_4 cy_5 cy_6 cy_7 cy_8 cy_9 cy_10 cy_11 cy_12 cy_13 cy_14 cy_15 cy_16 cy_17 cy_18 cy_19 cy_20
 go_wp2_with fail
 clear cx_0 cx_1 cx_2 cx_3 cx_4 cx_5 cx_6 cx_7 cx_8 cx_9 cx_10 cx_11 cx_12 cx_13 cx_14 cx_15 cx_16 cx_17 cx_18 cx_19 cx_20 cy_0 cy_1 cy_2 cy_3 cy_4 cy_5 cy_6 cy_7 cy_8 cy_9 cy_10 cy_11 cy_12 cy_13 cy_14 cy_15 cy_16 cy_17 cy_18 cy_19 cy_20
 refine (sameMods_yes h.m1 q.m1 r.m1 q.cm1 r.cm1 _ HQ.out.m1 HR.out.m1 (by have := HL.out.m1; omega)).mono ?_
 rintro e w2 ⟨rfl, hb⟩
 replace Kx := Lib.hid (Kx.out.go hb)
 replace Ky := Lib.hid (Ky.out.go hb)
 replace HQ := Lib.hid (HdAt.go HQ.out hb)
 replace HR := Lib.hid (HdAt.go HR.out hb)
 replace HB := Lib.hid (HB.out.trans (hb.mono HB.out.size))
 clear hb
 have cx_0 := Kx.out.cell 0
 have cx_1 := Kx.out.cell 1
 have cx_2 := Kx.out.cell 2
 have cx_3 := Kx.out.cell 3
 have cx_4 := Kx.out.cell 4
 have cx_5 := Kx.out.cell 5
 have cx_6 := Kx.out.cell 6
 have cx_7 := Kx.out.cell 7
 have cx_8 := Kx.out.cell 8
 have cx_9 := Kx.out.cell 9
 have cx_10 := Kx.out.cell 10
 have cx_11 := Kx.out.cell 11
 have cx_12 := Kx.out.cell 12
 have cx_13 := Kx.out.cell 13
 have cx_14 := Kx.out.cell 14
 have cx_15 := Kx.out.cell 15
 have cx_16 := Kx.out.cell 16
 have cx_17 := Kx.out.cell 17
 have cx_18 := Kx.out.cell 18
 have cx_19 := Kx.out.cell 19
 have cx_20 := Kx.out.cell 20
 simp at cx_0 cx_1 cx_2 cx_3 cx_4 cx_5 cx_6 cx_7 cx_8 cx_9 cx_10 cx_11 cx_12 cx_13 cx_14 cx_15 cx_16 cx_17 cx_18 cx_19 cx_20
 have cy_0 := Ky.out.cell 0
 have cy_1 := Ky.out.cell 1
 have cy_2 := Ky.out.cell 2
 have cy_3 := Ky.out.cell 3
 have cy_4 := Ky.out.cell 4
 have cy_5 := Ky.out.cell 5
 have cy_6 := Ky.out.cell 6
 have cy_7 := Ky.out.cell 7
 have cy_8 := Ky.out.cell 8
 have cy_9 := Ky.out.cell 9
 have cy_10 := Ky.out.cell 10
 have cy_11 := Ky.out.cell 11
 have cy_12 := Ky.out.cell 12
 have cy_13 := Ky.out.cell 13
 have cy_14 := Ky.out.cell 14
 have cy_15 := Ky.out.cell 15
 have cy_16 := Ky.out.cell 16
 have cy_17 := Ky.out.cell 17
 have cy_18 := Ky.out.cell 18
 have cy_19 := Ky.out.cell 19
 have cy_20 := Ky.out.cell 20
 simp at cy_0 cy_1 cy_2 cy_3 cy_4 cy_5 cy_6 cy_7 cy_8 cy_9 cy_10 cy_11 cy_12 cy_13 cy_14 cy_15 cy_16 cy_17 cy_18 cy_19 cy_20
 go_wp2_with fail
 clear cx_0 cx_1 cx_2 cx_3 cx_4 cx_5 cx_6 cx_7 cx_8 cx_9 cx_10 cx_11 cx_12 cx_13 cx_14 cx_15 cx_16 cx_17 cx_18 cx_19 cx_20 cy_0 cy_1 cy_2 cy_3 cy_4 cy_5 cy_6 cy_7 cy_8 cy_9 cy_10 cy_11 cy_12 cy_13 cy_14 cy_15 cy_16 cy_17 cy_18 cy_19 cy_20
 refine (sameWeights_yes h.w0 q.w0 r.w0 q.cw0 r.cw0 _ HQ.out.w0 HR.out.w0 (by have := HL.out.w0; omega)).mono ?_
 rintro e w3 ⟨rfl, hb⟩
 replace Kx := Lib.hid (Kx.out.go hb)
 replace Ky := Lib.hid (Ky.out.go hb)
 replace HQ := Lib.hid (HdAt.go HQ.out hb)
 replace HR := Lib.hid (HdAt.go HR.out hb)
 replace HB := Lib.hid (HB.out.trans (hb.mono HB.out.size))
 clear hb
 have cx_0 := Kx.out.cell 0
 have cx_1 := Kx.out.cell 1
 have cx_2 := Kx.out.cell 2
 have cx_3 := Kx.out.cell 3
 have cx_4 := Kx.out.cell 4
 have cx_5 := Kx.out.cell 5
 have cx_6 := Kx.out.cell 6
 have cx_7 := Kx.out.cell 7
 have cx_8 := Kx.out.cell 8
 have cx_9 := Kx.out.cell 9
 have cx_10 := Kx.out.cell 10
 have cx_11 := Kx.out.cell 11
 have cx_12 := Kx.out.cell 12
 have cx_13 := Kx.out.cell 13
 have cx_14 := Kx.out.cell 14
 have cx_15 := Kx.out.cell 15
 have cx_16 := Kx.out.cell 16
 have cx_17 := Kx.out.cell 17
 have cx_18 := Kx.out.cell 18
 have cx_19 := Kx.out.cell 19
 have cx_20 := Kx.out.cell 20
 simp at cx_0 cx_1 cx_2 cx_3 cx_4 cx_5 cx_6 cx_7 cx_8 cx_9 cx_10 cx_11 cx_12 cx_13 cx_14 cx_15 cx_16 cx_17 cx_18 cx_19 cx_20
 have cy_0 := Ky.out.cell 0
 have cy_1 := Ky.out.cell 1
 have cy_2 := Ky.out.cell 2
 have cy_3 := Ky.out.cell 3
 have cy_4 := Ky.out.cell 4
 have cy_5 := Ky.out.cell 5
 have cy_6 := Ky.out.cell 6
 have cy_7 := Ky.out.cell 7
 have cy_8 := Ky.out.cell 8
 have cy_9 := Ky.out.cell 9
 have cy_10 := Ky.out.cell 10
 have cy_11 := Ky.out.cell 11
 have cy_12 := Ky.out.cell 12
 have cy_13 := Ky.out.cell 13
 have cy_14 := Ky.out.cell 14
 have cy_15 := Ky.out.cell 15
 have cy_16 := Ky.out.cell 16
 have cy_17 := Ky.out.cell 17
 have cy_18 := Ky.out.cell 18
 have cy_19 := Ky.out.cell 19
 have cy_20 := Ky.out.cell 20
 simp at cy_0 cy_1 cy_2 cy_3 cy_4 cy_5 cy_6 cy_7 cy_8 cy_9 cy_10 cy_11 cy_12 cy_13 cy_14 cy_15 cy_16 cy_17 cy_18 cy_19 cy_20
 go_wp2_with fail
 clear cx_0 cx_1 cx_2 cx_3 cx_4 cx_5 cx_6 cx_7 cx_8 cx_9 cx_10 cx_11 cx_12 cx_13 cx_14 cx_15 cx_16 cx_17 cx_18 cx_19 cx_20 cy_0 cy_1 cy_2 cy_3 cy_4 cy_5 cy_6 cy_7 cy_8 cy_9 cy_10 cy_11 cy_12 cy_13 cy_14 cy_15 cy_16 cy_17 cy_18 cy_19 cy_20
 refine (sameWeights_yes h.w1 q.w1 r.w1 q.cw1 r.cw1 _ HQ.out.w1 HR.out.w1 (by have := HL.out.w1; omega)).mono ?_
 rintro e w4 ⟨rfl, hb⟩
 replace Kx := Lib.hid (Kx.out.go hb)
 replace Ky := Lib.hid (Ky.out.go hb)
 replace HQ := Lib.hid (HdAt.go HQ.out hb)
 replace HR := Lib.hid (HdAt.go HR.out hb)
 replace HB := Lib.hid (HB.out.trans (hb.mono HB.out.size))
 clear hb
 have cx_0 := Kx.out.cell 0
 have cx_1 := Kx.out.cell 1
 have cx_2 := Kx.out.cell 2
 have cx_3 := Kx.out.cell 3
 have cx_4 := Kx.out.cell 4
 have cx_5 := Kx.out.cell 5
 have cx_6 := Kx.out.cell 6
 have cx_7 := Kx.out.cell 7
 have cx_8 := Kx.out.cell 8
 have cx_9 := Kx.out.cell 9
 have cx_10 := Kx.out.cell 10
 have cx_11 := Kx.out.cell 11
 have cx_12 := Kx.out.cell 12
 have cx_13 := Kx.out.cell 13
 have cx_14 := Kx.out.cell 14
 have cx_15 := Kx.out.cell 15
 have cx_16 := Kx.out.cell 16
 have cx_17 := Kx.out.cell 17
 have cx_18 := Kx.out.cell 18
 have cx_19 := Kx.out.cell 19
 have cx_20 := Kx.out.cell 20
 simp at cx_0 cx_1 cx_2 cx_3 cx_4 cx_5 cx_6 cx_7 cx_8 cx_9 cx_10 cx_11 cx_12 cx_13 cx_14 cx_15 cx_16 cx_17 cx_18 cx_19 cx_20
 have cy_0 := Ky.out.cell 0
 have cy_1 := Ky.out.cell 1
 have cy_2 := Ky.out.cell 2
 have cy_3 := Ky.out.cell 3
 have cy_4 := Ky.out.cell 4
 have cy_5 := Ky.out.cell 5
 have cy_6 := Ky.out.cell 6
 have cy_7 := Ky.out.cell 7
 have cy_8 := Ky.out.cell 8
 have cy_9 := Ky.out.cell 9
 have cy_10 := Ky.out.cell 10
 have cy_11 := Ky.out.cell 11
 have cy_12 := Ky.out.cell 12
 have cy_13 := Ky.out.cell 13
 have cy_14 := Ky.out.cell 14
 have cy_15 := Ky.out.cell 15
 have cy_16 := Ky.out.cell 16
 have cy_17 := Ky.out.cell 17
 have cy_18 := Ky.out.cell 18
 have cy_19 := Ky.out.cell 19
 have cy_20 := Ky.out.cell 20
 simp at cy_0 cy_1 cy_2 cy_3 cy_4 cy_5 cy_6 cy_7 cy_8 cy_9 cy_10 cy_11 cy_12 cy_13 cy_14 cy_15 cy_16 cy_17 cy_18 cy_19 cy_20
 go_wp2_with fail
 clear cx_0 cx_1 cx_2 cx_3 cx_4 cx_5 cx_6 cx_7 cx_8 cx_9 cx_10 cx_11 cx_12 cx_13 cx_14 cx_15 cx_16 cx_17 cx_18 cx_19 cx_20 cy_0 cy_1 cy_2 cy_3 cy_4 cy_5 cy_6 cy_7 cy_8 cy_9 cy_10 cy_11 cy_12 cy_13 cy_14 cy_15 cy_16 cy_17 cy_18 cy_19 cy_20
 refine (sameOps_yes h.ops q.ops r.ops q.cops r.cops _ HQ.out.ops HR.out.ops (by have := HL.out.ops; omega)).mono ?_
 rintro e w5 ⟨rfl, hb⟩
 replace Kx := Lib.hid (Kx.out.go hb)
 replace Ky := Lib.hid (Ky.out.go hb)
 replace HQ := Lib.hid (HdAt.go HQ.out hb)
 replace HR := Lib.hid (HdAt.go HR.out hb)
 replace HB := Lib.hid (HB.out.trans (hb.mono HB.out.size))
 clear hb
 have cx_0 := Kx.out.cell 0
 have cx_1 := Kx.out.cell 1
 have cx_2 := Kx.out.cell 2
 have cx_3 := Kx.out.cell 3
 have cx_4 := Kx.out.cell 4
 have cx_5 := Kx.out.cell 5
 have cx_6 := Kx.out.cell 6
 have cx_7 := Kx.out.cell 7
 have cx_8 := Kx.out.cell 8
 have cx_9 := Kx.out.cell 9
 have cx_10 := Kx.out.cell 10
 have cx_11 := Kx.out.cell 11
 have cx_12 := Kx.out.cell 12
 have cx_13 := Kx.out.cell 13
 have cx_14 := Kx.out.cell 14
 have cx_15 := Kx.out.cell 15
 have cx_16 := Kx.out.cell 16
 have cx_17 := Kx.out.cell 17
 have cx_18 := Kx.out.cell 18
 have cx_19 := Kx.out.cell 19
 have cx_20 := Kx.out.cell 20
 simp at cx_0 cx_1 cx_2 cx_3 cx_4 cx_5 cx_6 cx_7 cx_8 cx_9 cx_10 cx_11 cx_12 cx_13 cx_14 cx_15 cx_16 cx_17 cx_18 cx_19 cx_20
 have cy_0 := Ky.out.cell 0
 have cy_1 := Ky.out.cell 1
 have cy_2 := Ky.out.cell 2
 have cy_3 := Ky.out.cell 3
 have cy_4 := Ky.out.cell 4
 have cy_5 := Ky.out.cell 5
 have cy_6 := Ky.out.cell 6
 have cy_7 := Ky.out.cell 7
 have cy_8 := Ky.out.cell 8
 have cy_9 := Ky.out.cell 9
 have cy_10 := Ky.out.cell 10
 have cy_11 := Ky.out.cell 11
 have cy_12 := Ky.out.cell 12
 have cy_13 := Ky.out.cell 13
 have cy_14 := Ky.out.cell 14
 have cy_15 := Ky.out.cell 15
 have cy_16 := Ky.out.cell 16
 have cy_17 := Ky.out.cell 17
 have cy_18 := Ky.out.cell 18
 have cy_19 := Ky.out.cell 19
 have cy_20 := Ky.out.cell 20
 simp at cy_0 cy_1 cy_2 cy_3 cy_4 cy_5 cy_6 cy_7 cy_8 cy_9 cy_10 cy_11 cy_12 cy_13 cy_14 cy_15 cy_16 cy_17 cy_18 cy_19 cy_20
 go_wp2_with fail
 clear cx_0 cx_1 cx_2 cx_3 cx_4 cx_5 cx_6 cx_7 cx_8 cx_9 cx_10 cx_11 cx_12 cx_13 cx_14 cx_15 cx_16 cx_17 cx_18 cx_19 cx_20 cy_0 cy_1 cy_2 cy_3 cy_4 cy_5 cy_6 cy_7 cy_8 cy_9 cy_10 cy_11 cy_12 cy_13 cy_14 cy_15 cy_16 cy_17 cy_18 cy_19 cy_20
 go_ret
 exact ⟨rfl, HB.out⟩
end Go.Proofs.YtjokibagciehlaaGreat

namespace Go.Proofs.YtjokibagciehlaaGreat
open Go.RowKit
set_option linter.unusedVariables false

/-- how many of the chained operations are done -/
def stg (cs : List Nat) (L : Array Bool) : Nat := (cs.filter fun c => L.getD c false).length
def Closed (cs : List Nat) (L : Array Bool) : Prop := ∀ j ∈ cs, ∀ i ∈ cs, i < j → L.getD j false = true → L.getD i false = true
theorem stg_done {cs : List Nat} {L : Array Bool} (h : Closed cs L) {c : Nat} (hcl : c < L.size) (hc : c ∈ cs) (h0 : L.getD c false = false) (hp : ∀ i ∈ cs, i < c → L.getD i false = true) : stg cs (L.setIfInBounds c true) = (cs.filter fun i => decide (i ≤ c)).length := by
 unfold stg
 congr 1
 apply List.filter_congr
 intro i hi
 show (L.setIfInBounds c true).getD i false = decide (i ≤ c)
 rw [getD_done hcl]
 by_cases he : i = c
 ·rw [if_pos he, he]; simp
 ·rw [if_neg he]
  by_cases h1 : i < c
  ·rw [hp i hi h1, decide_eq_true (by omega)]
  ·rw [decide_eq_false (by omega)]
   cases hq : L.getD i false
   ·rfl
   ·have := h i hi c hc (by omega) hq; rw [h0] at this; cases this
theorem stg_other {cs : List Nat} {L : Array Bool} {c : Nat} (hcl : c < L.size) (hc : c ∉ cs) : stg cs (L.setIfInBounds c true) = stg cs L := by
 unfold stg
 congr 1
 apply List.filter_congr
 intro i hi
 show (L.setIfInBounds c true).getD i false = L.getD i false
 rw [getD_done hcl, if_neg (fun (q : i = c) => hc (q ▸ hi))]
theorem Closed.other {cs : List Nat} {L : Array Bool} (h : Closed cs L) {c : Nat} (hcl : c < L.size) (hc : c ∉ cs) : Closed cs (L.setIfInBounds c true) := by
 intro j hj i hi hij hL
 rw [getD_done hcl, if_neg (fun (q : j = c) => hc (q ▸ hj))] at hL
 rw [getD_done hcl, if_neg (fun (q : i = c) => hc (q ▸ hi))]
 exact h j hj i hi hij hL
theorem Closed.done {cs : List Nat} {L : Array Bool} (h : Closed cs L) {c : Nat} (hcl : c < L.size) (hp : ∀ i ∈ cs, i < c → L.getD i false = true) : Closed cs (L.setIfInBounds c true) := by
 intro j hj i hi hij hL
 rw [getD_done hcl]
 by_cases hic : i = c
 ·rw [if_pos hic]
 ·rw [if_neg hic]
  rw [getD_done hcl] at hL
  by_cases hjc : j = c
  ·exact hp i hi (by omega)
  ·rw [if_neg hjc] at hL
   exact h j hj i hi hij hL

/-- slots: sl j where operation j's value goes (vl j); fx the slots that the region leaves alone; sp an allocation, ss its slot -/
def CInv (n sz : Nat) (cs : List Nat) (sp ss : Nat) (sl : Nat → Option Nat) (vl : Nat → Value) (fx : List (Nat × Value)) (W : Nat → Bool → Value → World → Prop) (L : Array Bool) (a : Act) (w : World) : Prop :=
 a.defers = [] ∧ a.tmps.size = sz ∧ (∀ p ∈ fx, a.eval (.tmp p.1) = p.2) ∧ (∀ j, j < n → ∀ d, sl j = some d → L.getD j false = true → a.eval (.tmp d) = vl j) ∧ Closed cs L ∧ W (stg cs L) (L.getD sp false) (a.eval (.tmp ss)) w
/-- the slots lie apart -/
def SlotsOk (n sz ss : Nat) (sl : Nat → Option Nat) (fk : List Nat) : Prop :=
 ss < sz ∧ (∀ p ∈ fk, p ≠ ss) ∧ ∀ i, i < n → ∀ d, sl i = some d → d < sz ∧ d ≠ ss ∧ (∀ p ∈ fk, p ≠ d) ∧ ∀ j, j < n → j ≠ i → sl j ≠ some d
section
variable {n sz : Nat} {cs : List Nat} {sp ss : Nat} {sl : Nat → Option Nat} {vl : Nat → Value} {fx : List (Nat × Value)} {W : Nat → Bool → Value → World → Prop} {L : Array Bool} {a : Act} {w w' : World}
theorem CInv.put_ (ok : SlotsOk n sz ss sl (fx.map Prod.fst)) (h : CInv n sz cs sp ss sl vl fx W L a w) (hL : L.size = n) {i d : Nat} (hi : i < n) (hd : sl i = some d) {v : Value} (hv : v = vl i) (hsp : i ≠ sp)
  (hc : Closed cs (L.setIfInBounds i true)) (hw : W (stg cs (L.setIfInBounds i true)) (L.getD sp false) (a.eval (.tmp ss)) w') : CInv n sz cs sp ss sl vl fx W (L.setIfInBounds i true) (a.put (some d) v) w' := by
 obtain ⟨h0, h1, h2, h3, h4, h5⟩ := h
 obtain ⟨o1, o2, o3⟩ := ok
 obtain ⟨q1, q2, q3, q4⟩ := o3 i hi d hd
 refine ⟨h0, by rw [put_size]; exact h1, fun p hp => ?_, fun j hj d' hd' hl => ?_, hc, ?_⟩
 ·rw [ev_put (by omega), if_neg (q3 p.1 (List.mem_map_of_mem hp))]; exact h2 p hp
 ·rw [ev_put (by omega)]
  by_cases hji : j = i
  ·subst hji
   obtain rfl : d = d' := Option.some.inj (hd.symm.trans hd')
   rw [if_pos rfl]; exact hv
  ·rw [if_neg (by intro q; rw [q] at hd'; exact q4 j hj hji hd')]
   rw [getD_done (by omega), if_neg hji] at hl
   exact h3 j hj d' hd' hl
 ·rw [ev_put (by omega), if_neg (fun q => q2 q.symm), getD_done (by omega), if_neg (fun q => hsp q.symm)]
  exact hw
theorem CInv.val (ok : SlotsOk n sz ss sl (fx.map Prod.fst)) (h : CInv n sz cs sp ss sl vl fx W L a w) (hL : L.size = n) {i d : Nat} (hi : i < n) (hd : sl i = some d) {v : Value} (hv : v = vl i) (hsp : i ≠ sp) (hcs : i ∉ cs) :
  CInv n sz cs sp ss sl vl fx W (L.setIfInBounds i true) (a.put (some d) v) w :=
 h.put_ ok hL hi hd hv hsp (h.2.2.2.2.1.other (by omega) hcs) (by rw [stg_other (by omega) hcs]; exact h.2.2.2.2.2)
theorem CInv.call (ok : SlotsOk n sz ss sl (fx.map Prod.fst)) (h : CInv n sz cs sp ss sl vl fx W L a w) (hL : L.size = n) {i d : Nat} (hi : i < n) (hd : sl i = some d) {v : Value} (hv : v = vl i) (hsp : i ≠ sp) (hcs : i ∈ cs) (h0 : L.getD i false = false) (hp : ∀ j ∈ cs, j < i → L.getD j false = true)
  {k : Nat} (hk : (cs.filter fun j => decide (j ≤ i)).length = k) (hw : W k (L.getD sp false) (a.eval (.tmp ss)) w') : CInv n sz cs sp ss sl vl fx W (L.setIfInBounds i true) (a.put (some d) v) w' :=
 h.put_ ok hL hi hd hv hsp (h.2.2.2.2.1.done (by omega) hp) (by rw [stg_done h.2.2.2.2.1 (by omega) hcs h0 hp, hk]; exact hw)
theorem CInv.store (h : CInv n sz cs sp ss sl vl fx W L a w) (hL : L.size = n) {i : Nat} (hi : i < n) (hd : sl i = none) (hsp : i ≠ sp) (hcs : i ∈ cs) (h0 : L.getD i false = false) (hp : ∀ j ∈ cs, j < i → L.getD j false = true)
  {k : Nat} (hk : (cs.filter fun j => decide (j ≤ i)).length = k) (hw : W k (L.getD sp false) (a.eval (.tmp ss)) w') : CInv n sz cs sp ss sl vl fx W (L.setIfInBounds i true) a w' := by
 obtain ⟨q0, q1, q2, q3, q4, q5⟩ := h
 refine ⟨q0, q1, q2, fun j hj d' hd' hl => ?_, q4.done (by omega) hp, ?_⟩
 ·rw [getD_done (by omega), if_neg (fun q => by subst q; rw [hd] at hd'; cases hd')] at hl
  exact q3 j hj d' hd' hl
 ·rw [stg_done q4 (by omega) hcs h0 hp, hk, getD_done (by omega), if_neg (fun q => hsp q.symm)]
  exact hw
end
theorem op_call {P : Program} {ops : Array Oper} {Q : Exit → Act → World → Prop} {i : Nat} {o : Oper} {K : Act → World → Prop} {a : Act} {w : World} {f : FuncId} {args : Array Value} {v : Value} (ho : ops[i]? = some o) (hg : o.guard = none)
  (hr : (execOp a.eval o).run P w = .ok (.enter f args) w) (hc : Calls P f args w fun e w' => e = .returned v ∧ K (a.put o.dst v) w') : wpOp P ops Q i K a w := by
 refine wpOp_step ho (fun K' h => ?_)
 have : Region.wanted o (yielded ops a.tmps) = true := by simp [Region.wanted, hg]
 rw [if_pos this]
 unfold Oper.wp
 rw [hr]
 refine hc.mono ?_
 rintro e w' ⟨rfl, hk⟩
 exact h _ _ hk
end Go.Proofs.YtjokibagciehlaaGreat

namespace Go.Proofs.YtjokibagciehlaaGreat
set_option linter.unusedVariables false
set_option linter.unusedSimpArgs false

theorem and_tt {a b : Bool} : (a && b) = true ↔ a = true ∧ b = true := by cases a <;> cases b <;> simp
theorem not_and_tt {a b : Bool} : (!(a && b)) = true ↔ (a = true → b = false) := by cases a <;> cases b <;> simp
structure MdsOk (l : List Md) (is : Bool) : Prop where
 len : l.length ≤ 16
 is : is = true ∨ l = []
 all : ∀ m ∈ l, (0 ≤ m.k ∧ m.k ≤ 2) ∧ 0 ≤ m.v ∧ m.v ≤ 255
theorem mayMds_iff {l : List Md} {is : Bool} (h : mayMds l is = true) : MdsOk l is := by
 unfold mayMds at h
 obtain ⟨h1, h3⟩ := and_tt.1 h
 obtain ⟨h1, h2⟩ := and_tt.1 h1
 refine ⟨of_decide_eq_true h1, ?_, fun m hm => ?_⟩
 ·rcases Bool.or_eq_true _ _ ▸ h2 with h2 | h2
  ·exact .inl h2
  ·exact .inr (List.length_eq_zero_iff.1 (of_decide_eq_true h2))
 ·have := (List.all_eq_true.1 h3) m hm
  obtain ⟨a, b⟩ := and_tt.1 this
  exact ⟨inR_iff.1 a, inR_iff.1 b⟩
structure MosOk (l : List Mo) : Prop where
 len : l.length ≤ 16
 all : ∀ m ∈ l, (1 ≤ m.k ∧ m.k ≤ 6) ∧ (0 ≤ m.a ∧ m.a ≤ 255) ∧ (0 ≤ m.b ∧ m.b ≤ 255) ∧ (hasA m.k = true ∨ m.a = 0) ∧ (hasB m.k = true ∨ m.b = 0)
theorem mayMos_iff {l : List Mo} (h : mayMos l = true) : MosOk l := by
 unfold mayMos at h
 obtain ⟨h1, h3⟩ := and_tt.1 h
 refine ⟨of_decide_eq_true h1, fun m hm => ?_⟩
 have := (List.all_eq_true.1 h3) m hm
 unfold moOk at this
 obtain ⟨h4, h5⟩ := and_tt.1 this
 obtain ⟨h4, h6⟩ := and_tt.1 h4
 obtain ⟨h4, h7⟩ := and_tt.1 h4
 obtain ⟨h4, h8⟩ := and_tt.1 h4
 refine ⟨inR_iff.1 h4, inR_iff.1 h8, inR_iff.1 h7, ?_, ?_⟩
 ·rcases Bool.or_eq_true _ _ ▸ h6 with q | q
  ·exact .inl q
  ·exact .inr (by simpa using q)
 ·rcases Bool.or_eq_true _ _ ▸ h5 with q | q
  ·exact .inl q
  ·exact .inr (by simpa using q)
structure WtsOk (l : List Wt) (many : Int) : Prop where
 len : (l.length : Int) = many
 all : ∀ x ∈ l, ((-128 ≤ x.s0 ∧ x.s0 ≤ 127) ∧ -128 ≤ x.o0 ∧ x.o0 ≤ 127) ∧ ((-128 ≤ x.s1 ∧ x.s1 ≤ 127) ∧ -128 ≤ x.o1 ∧ x.o1 ≤ 127) ∧ ((-128 ≤ x.s2 ∧ x.s2 ≤ 127) ∧ -128 ≤ x.o2 ∧ x.o2 ≤ 127)
theorem mayWts_iff {l : List Wt} {many : Int} (h : mayWts l many = true) : WtsOk l many := by
 unfold mayWts at h
 obtain ⟨h1, h3⟩ := and_tt.1 h
 refine ⟨of_decide_eq_true h1, fun m hm => ?_⟩
 have := (List.all_eq_true.1 h3) m hm
 unfold wtOk at this
 obtain ⟨h4, h5⟩ := and_tt.1 this
 obtain ⟨h4, h6⟩ := and_tt.1 h4
 obtain ⟨h7, h8⟩ := and_tt.1 h4
 obtain ⟨h9, h10⟩ := and_tt.1 h5
 obtain ⟨h11, h12⟩ := and_tt.1 h6
 exact ⟨⟨inR_iff.1 h7, inR_iff.1 h8⟩, ⟨inR_iff.1 h11, inR_iff.1 h12⟩, ⟨inR_iff.1 h9, inR_iff.1 h10⟩⟩
theorem actB_iff {x : Int} {is : Bool} (h : actB x is = true) : (is = true ∧ 1 ≤ x ∧ x ≤ 8) ∨ (is = false ∧ x = 0) := by
 unfold actB at h
 cases is
 ·right; simpa using h
 ·left; exact ⟨rfl, inR_iff.1 (by simpa using h)⟩
/-- what a header that may be has -/
structure HdOk (h : Hd) (s : Sp) (p : Pp) (ref : Int) (key : Bool) : Prop where
 sp : SpOk s
 pp : PpOk p
 rf : 0 ≤ ref ∧ ref ≤ 3
 first : 0 ≤ h.first ∧ h.first ≤ s.wide * s.high
 count : 1 ≤ h.count ∧ h.count ≤ s.wide * s.high - h.first
 type : 0 ≤ h.type ∧ h.type ≤ 2
 keyT : key = true → h.type = 2
 fn : 0 ≤ h.fn ∧ h.fn ≤ 2 ^ s.fb.toNat - 1
 keyF : key = true → h.fn = 0
 id : 0 ≤ h.id ∧ h.id ≤ 255
 keyI : key = false → h.id = 0
 poc : 0 ≤ h.poc ∧ h.poc ≤ 2 ^ s.pb.toNat - 1
 pocP : s.pt ≠ 0 → h.poc = 0
 spat : h.spatial = true → h.type = 1
 a0 : (h.type ≠ 2 ∧ 1 ≤ h.a0 ∧ h.a0 ≤ 8) ∨ (h.type = 2 ∧ h.a0 = 0)
 a1 : (h.type = 1 ∧ 1 ≤ h.a1 ∧ h.a1 ≤ 8) ∨ (h.type ≠ 1 ∧ h.a1 = 0)
 m0 : MdsOk h.m0 (h.type != 2)
 m1 : MdsOk h.m1 (h.type == 1)
 wy : wgt h.type p = true → (0 ≤ h.log ∧ h.log ≤ 7) ∧ (0 ≤ h.logC ∧ h.logC ≤ 7) ∧ WtsOk h.w0 h.a0 ∧ WtsOk h.w1 h.a1
 wn : wgt h.type p = false → h.log = 0 ∧ h.logC = 0 ∧ h.w0 = [] ∧ h.w1 = []
 lk : h.longKey = true → key = true ∧ 0 < ref
 ops : MosOk h.ops
 opsN : h.ops ≠ [] → key = false ∧ 0 < ref
 offD : h.off = true → p.deb = true
 oa : -6 ≤ h.a ∧ h.a ≤ 6
 ob : -6 ≤ h.b ∧ h.b ≤ 6
 ab : (h.off = true ∨ p.deb = false) → h.a = 0 ∧ h.b = 0
 qp : 0 ≤ h.qp ∧ h.qp ≤ 51
theorem bne_tt {x y : Int} : (x != y) = true ↔ x ≠ y := by simp
theorem bne_ff {x y : Int} : (x != y) = false ↔ x = y := by simp
theorem mayHd_iff {h : Hd} {s : Sp} {p : Pp} {ref : Int} {key : Bool} (hm : mayHd h s p ref key = true) : HdOk h s p ref key := by
 unfold mayHd at hm
 obtain ⟨hm, q1⟩ := and_tt.1 hm
 obtain ⟨hm, q2⟩ := and_tt.1 hm
 obtain ⟨hm, q3⟩ := and_tt.1 hm
 obtain ⟨hm, q4⟩ := and_tt.1 hm
 obtain ⟨hm, q5⟩ := and_tt.1 hm
 obtain ⟨hm, q6⟩ := and_tt.1 hm
 obtain ⟨hm, q7⟩ := and_tt.1 hm
 obtain ⟨q8, q9⟩ := and_tt.1 hm
 unfold r4 at q6
 obtain ⟨q6, a1⟩ := and_tt.1 q6
 obtain ⟨q6, a2⟩ := and_tt.1 q6
 obtain ⟨a4, a3⟩ := and_tt.1 q6
 unfold r6 at q5
 obtain ⟨q5, b1⟩ := and_tt.1 q5
 obtain ⟨q5, b2⟩ := and_tt.1 q5
 obtain ⟨b4, b3⟩ := and_tt.1 q5
 unfold r8 at q4
 obtain ⟨q4, c1⟩ := and_tt.1 q4
 obtain ⟨c3, c2⟩ := and_tt.1 q4
 unfold r10 at q3
 obtain ⟨q3, d1⟩ := and_tt.1 q3
 obtain ⟨q3, d2⟩ := and_tt.1 q3
 obtain ⟨d4, d3⟩ := and_tt.1 q3
 unfold r12 at q2
 obtain ⟨q2, e1⟩ := and_tt.1 q2
 obtain ⟨q2, e2⟩ := and_tt.1 q2
 obtain ⟨e4, e3⟩ := and_tt.1 q2
 unfold mayLs at d4
 obtain ⟨d4, f1⟩ := and_tt.1 d4
 obtain ⟨d4, f2⟩ := and_tt.1 d4
 obtain ⟨d4, f3⟩ := and_tt.1 d4
 obtain ⟨f5, f4⟩ := and_tt.1 d4
 have hlk : h.longKey = true → key = true ∧ 0 < ref := fun e => by
  have := not_and_tt.1 d3 e
  obtain ⟨x, y⟩ := Bool.or_eq_false_iff.1 this
  exact ⟨by simpa using x, by have := of_decide_eq_false y; omega⟩
 have hop : h.ops ≠ [] → key = false ∧ 0 < ref := fun e => by
  have h0 : 0 < h.ops.length := List.length_pos_iff.2 e
  have := not_and_tt.1 d1 (decide_eq_true h0)
  obtain ⟨x, y⟩ := Bool.or_eq_false_iff.1 this
  exact ⟨x, by have := of_decide_eq_false y; omega⟩
 exact {
  sp := (maySp_iff s).1 q8
  pp := (mayPp_iff p).1 q9
  rf := inR_iff.1 q7
  first := inR_iff.1 a4
  count := inR_iff.1 a3
  type := inR_iff.1 a2
  keyT := fun e => bne_ff.1 (not_and_tt.1 a1 e)
  fn := inR_iff.1 b4
  keyF := fun e => bne_ff.1 (not_and_tt.1 b3 e)
  id := inR_iff.1 b2
  keyI := fun e => bne_ff.1 (not_and_tt.1 b1 (by rw [e]; rfl))
  poc := inR_iff.1 c3
  pocP := fun e => bne_ff.1 (not_and_tt.1 c2 (bne_tt.2 e))
  spat := fun e => bne_ff.1 (not_and_tt.1 c1 e)
  a0 := by
   rcases actB_iff f5 with ⟨x, y⟩ | ⟨x, y⟩
   ·exact .inl ⟨bne_tt.1 x, y⟩
   ·exact .inr ⟨bne_ff.1 x, y⟩
  a1 := by
   rcases actB_iff f4 with ⟨x, y⟩ | ⟨x, y⟩
   ·exact .inl ⟨by simpa using x, y⟩
   ·exact .inr ⟨by simpa using x, y⟩
  m0 := mayMds_iff f3
  m1 := mayMds_iff f2
  wy := fun e => by
   rw [if_pos e] at f1
   obtain ⟨f1, g1⟩ := and_tt.1 f1
   obtain ⟨f1, g2⟩ := and_tt.1 f1
   obtain ⟨g4, g3⟩ := and_tt.1 f1
   exact ⟨inR_iff.1 g4, inR_iff.1 g3, mayWts_iff g2, mayWts_iff g1⟩
  wn := fun e => by
   rw [if_neg (by rw [e]; simp)] at f1
   obtain ⟨f1, g1⟩ := and_tt.1 f1
   obtain ⟨g3, g2⟩ := and_tt.1 f1
   have := of_decide_eq_true g1
   exact ⟨by simpa using g3, by simpa using g2, List.length_eq_zero_iff.1 (by omega), List.length_eq_zero_iff.1 (by omega)⟩
  lk := hlk
  ops := mayMos_iff d2
  opsN := hop
  offD := fun e => by simpa using not_and_tt.1 e4 e
  oa := inR_iff.1 e3
  ob := inR_iff.1 e2
  ab := fun e => by
   have hc : (h.off || !p.deb) = true := by rcases e with e | e <;> rw [e] <;> simp
   have := not_and_tt.1 e1 hc
   obtain ⟨x, y⟩ := Bool.or_eq_false_iff.1 this
   exact ⟨bne_ff.1 x, bne_ff.1 y⟩
  qp := inR_iff.1 q1 }
theorem HdOk.area {h : Hd} {s : Sp} {p : Pp} {ref : Int} {key : Bool} (H : HdOk h s p ref key) : 1 ≤ s.wide * s.high ∧ s.wide * s.high ≤ 64 := by
 obtain ⟨⟨q1, q2⟩, ⟨q3, q4⟩, _⟩ := H.sp
 have hw : s.wide = 1 ∨ s.wide = 2 ∨ s.wide = 3 ∨ s.wide = 4 ∨ s.wide = 5 ∨ s.wide = 6 ∨ s.wide = 7 ∨ s.wide = 8 := by omega
 rcases hw with e | e | e | e | e | e | e | e <;> rw [e] <;> omega
theorem HdOk.lens {h : Hd} {s : Sp} {p : Pp} {ref : Int} {key : Bool} (H : HdOk h s p ref key) : h.m0.length ≤ 16 ∧ h.m1.length ≤ 16 ∧ h.w0.length ≤ 16 ∧ h.w1.length ≤ 16 ∧ h.ops.length ≤ 16 := by
 have h0 := H.a0
 have h1 := H.a1
 refine ⟨H.m0.len, H.m1.len, ?_, ?_, H.ops.len⟩
 ·rcases hw : wgt h.type p with _ | _
  ·rw [(H.wn hw).2.2.1]; simp
  ·have := (H.wy hw).2.2.1.len; omega
 ·rcases hw : wgt h.type p with _ | _
  ·rw [(H.wn hw).2.2.2]; simp
  ·have := (H.wy hw).2.2.2.len; omega

/-- the bits -/
def mdL (m : Md) : List Bool := ueL m.k.toNat ++ ueL m.v.toNat
def mdsL (l : List Md) : List Bool := ueL l.length ++ l.flatMap mdL
def moL (m : Mo) : List Bool := ueL m.k.toNat ++ (if hasA m.k = true then ueL m.a.toNat else []) ++ (if hasB m.k = true then ueL m.b.toNat else [])
def mosL (l : List Mo) : List Bool := ueL l.length ++ l.flatMap moL
def wtB (x : Wt) : List Bool := seL x.s0 ++ seL x.o0 ++ seL x.s1 ++ seL x.o1 ++ seL x.s2 ++ seL x.o2
def wtsL (l : List Wt) : List Bool := l.flatMap wtB
def hdL1 (h : Hd) (s : Sp) (key : Bool) : List Bool := ueL h.first.toNat ++ (ueL (h.count - 1).toNat ++ (ueL h.type.toNat ++ (dig h.fn.toNat s.fb.toNat ++ ((if key = true then ueL h.id.toNat else []) ++ (if s.pt = 0 then dig h.poc.toNat s.pb.toNat else [])))))
def hdL2 (h : Hd) (p : Pp) : List Bool := (if h.type = 1 then [h.spatial] else []) ++ ((if h.type ≠ 2 then ueL (h.a0 - 1).toNat else []) ++ ((if h.type = 1 then ueL (h.a1 - 1).toNat else []) ++ ((if h.type ≠ 2 then mdsL h.m0 else []) ++ ((if h.type = 1 then mdsL h.m1 else []) ++ (if wgt h.type p = true then ueL h.log.toNat ++ (ueL h.logC.toNat ++ (wtsL h.w0 ++ wtsL h.w1)) else [])))))
def hdL3 (h : Hd) (p : Pp) (ref : Int) (key : Bool) : List Bool := (if 0 < ref then (if key = true then [h.longKey] else mosL h.ops) else []) ++ (ueL h.qp.toNat ++ (if p.deb = true then [h.off] ++ (if h.off = true then [] else seL h.a ++ seL h.b) else []))
def hdL (h : Hd) (s : Sp) (p : Pp) (ref : Int) (key : Bool) : List Bool := hdL1 h s key ++ (hdL2 h p ++ hdL3 h p ref key)

section
variable (f : Nat → Bool) (N : Nat)
theorem ueM_w {x : Int} {b : List Bool} (h0 : 0 ≤ x) (h1 : x ≤ 2147483646) : ueM f N x (.wr b) = .wr (b ++ ueL x.toNat) := by
 show Wk.wr (ueW x b) = _
 unfold ueW
 rw [if_pos ⟨h0, h1⟩]
theorem seM_w {x : Int} {b : List Bool} (h0 : -1073741823 ≤ x) (h1 : x ≤ 1073741823) : seM f N x (.wr b) = .wr (b ++ seL x) := by
 show Wk.wr (seW x b) = _
 unfold seW
 rw [if_pos ⟨h0, h1⟩]
theorem fxM_w {n x : Int} {b : List Bool} (h0 : 0 ≤ n ∧ n ≤ 32) (h1 : 0 ≤ x ∧ x < 2 ^ n.toNat) : fxM f N n x (.wr b) = .wr (b ++ dig x.toNat n.toNat) := by
 show Wk.wr (fxW n x b) = _
 unfold fxW
 rw [if_pos ⟨h0, h1⟩]
theorem dig_1 (x : Bool) : dig (bit01 x).toNat (1 : Int).toNat = [x] := by cases x <;> decide
theorem flM_w {x : Bool} {b : List Bool} : flM f N x (.wr b) = .wr (b ++ [x]) := by
 unfold flM
 rw [fxM_w f N (by omega) (by unfold bit01; split <;> decide), dig_1]
theorem flV_w {x : Bool} {b : List Bool} : flV f N x (.wr b) = x := by
 show (bit01 x == 1) = x
 cases x <;> rfl
theorem lsM_w {x : Int} {b : List Bool} (h0 : 1 ≤ x) (h1 : x ≤ 2147483646) : lsM f N x (.wr b) = .wr (b ++ ueL (x - 1).toNat) := ueM_w f N (by omega) (by omega)
theorem lsV_w {x : Int} {b : List Bool} : lsV f N x (.wr b) = x := by show x - 1 + 1 = x; omega
theorem itM_w {α : Type} (m : α → Wk → Wk) (L : α → List Bool) : ∀ (l : List α) (b : List Bool), (∀ x ∈ l, ∀ b, m x (.wr b) = .wr (b ++ L x)) → itM m l (.wr b) = .wr (b ++ l.flatMap L)
 | [], b, _ => by simp [itM]
 | y :: l, b, h => by
  show itM m l (m y (.wr b)) = _
  rw [h y (List.mem_cons_self ..), itM_w m L l _ (fun x hx => h x (List.mem_cons_of_mem _ hx))]
  simp [List.flatMap_cons]
theorem mdM_w {m : Md} {b : List Bool} (h : (0 ≤ m.k ∧ m.k ≤ 2) ∧ 0 ≤ m.v ∧ m.v ≤ 255) : mdM f N m (.wr b) = .wr (b ++ mdL m) := by
 unfold mdM mdL
 rw [ueM_w f N h.1.1 (by omega), ueM_w f N h.2.1 (by omega), List.append_assoc]
theorem moM_w {m : Mo} {b : List Bool} (h : (1 ≤ m.k ∧ m.k ≤ 6) ∧ (0 ≤ m.a ∧ m.a ≤ 255) ∧ (0 ≤ m.b ∧ m.b ≤ 255)) : moM f N m (.wr b) = .wr (b ++ moL m) := by
 have h1 : moM1 f N m (.wr b) = .wr (b ++ ueL m.k.toNat) := by
  unfold moM1
  rw [ueM_w f N (by omega) (by omega)]
  rfl
 have hk : ueV f N m.k (.wr b) = m.k := rfl
 have h2 : moM2 f N m (.wr b) = .wr (b ++ ueL m.k.toNat ++ (if hasA m.k = true then ueL m.a.toNat else [])) := by
  unfold moM2
  rw [hk, h1]
  split
  ·rw [ueM_w f N (by omega) (by omega)]
  ·rw [List.append_nil]
 unfold moM moL
 rw [hk, h2]
 split
 ·rw [ueM_w f N (by omega) (by omega)]
  simp only [List.append_assoc]
 ·simp only [List.append_assoc, List.append_nil]
theorem wtM_w {x : Wt} {b : List Bool} (h : ((-128 ≤ x.s0 ∧ x.s0 ≤ 127) ∧ -128 ≤ x.o0 ∧ x.o0 ≤ 127) ∧ ((-128 ≤ x.s1 ∧ x.s1 ≤ 127) ∧ -128 ≤ x.o1 ∧ x.o1 ≤ 127) ∧ ((-128 ≤ x.s2 ∧ x.s2 ≤ 127) ∧ -128 ≤ x.o2 ∧ x.o2 ≤ 127)) : wtM f N x (.wr b) = .wr (b ++ wtB x) := by
 unfold wtM wtM2 wtM1 wtB
 rw [seM_w f N (by omega) (by omega), seM_w f N (by omega) (by omega), seM_w f N (by omega) (by omega), seM_w f N (by omega) (by omega), seM_w f N (by omega) (by omega), seM_w f N (by omega) (by omega)]
 simp only [List.append_assoc]
theorem rwM_md {l : List Md} {b : List Bool} {is : Bool} (h : MdsOk l is) : rwM f N (mdM f N) Md.zero l (.wr b) = .wr (b ++ mdsL l) := by
 have hl := h.len
 have hu : ueW (l.length : Int) b = b ++ ueL l.length := by unfold ueW; rw [if_pos ⟨by omega, by omega⟩]; rfl
 rw [rwM_wr, itM_w (mdM f N) mdL l _ (fun x hx b => mdM_w f N (h.all x hx)), hu]
 unfold mdsL
 rw [List.append_assoc]
theorem rwM_mo {l : List Mo} {b : List Bool} (h : MosOk l) : rwM f N (moM f N) Mo.zero l (.wr b) = .wr (b ++ mosL l) := by
 have hl := h.len
 have hu : ueW (l.length : Int) b = b ++ ueL l.length := by unfold ueW; rw [if_pos ⟨by omega, by omega⟩]; rfl
 rw [rwM_wr, itM_w (moM f N) moL l _ (fun x hx b => moM_w f N ⟨(h.all x hx).1, (h.all x hx).2.1, (h.all x hx).2.2.1⟩), hu]
 unfold mosL
 rw [List.append_assoc]
theorem wsM_w {l : List Wt} {m : Int} {b : List Bool} (h : WtsOk l m) : wsM f N l m (.wr b) = .wr (b ++ wtsL l) := by
 show itM (wtM f N) l (.wr b) = _
 rw [itM_w (wtM f N) wtB l _ (fun x hx b => wtM_w f N (h.all x hx))]
 rfl
theorem wsV_w {l : List Wt} {m : Int} {b : List Bool} : wsV f N l m (.wr b) = l := itV_wr _ _ (wtM_wr f N) (wtV_wr f N) l b
theorem rwV_md {l : List Md} {b : List Bool} : rwV f N (mdM f N) (mdV f N) Md.zero l (.wr b) = l := rwV_wr f N _ _ _ (mdM_wr f N) (mdV_wr f N) l b
theorem rwV_mo {l : List Mo} {b : List Bool} : rwV f N (moM f N) (moV f N) Mo.zero l (.wr b) = l := rwV_wr f N _ _ _ (moM_wr f N) (moV_wr f N) l b
variable {h : Hd} {s : Sp} {p : Pp} {ref : Int} {key : Bool} (H : HdOk h s p ref key) (b : List Bool)
include H
theorem al1_w : al1 f N s key ⟨.wr b, h⟩ = ⟨.wr (b ++ hdL1 h s key), h⟩ := by
 have har := H.area
 obtain ⟨_, _, ⟨hf1, hf2⟩, ⟨hp1, hp2⟩, _⟩ := H.sp
 have hA : alA f N ⟨.wr b, h⟩ = ⟨.wr (b ++ ueL h.first.toNat), h⟩ := by
  have h1 := H.first
  unfold alA
  simp only
  rw [ueM_w f N h1.1 (by omega)]
  rfl
 have hB : ∀ b, alB f N ⟨.wr b, h⟩ = ⟨.wr (b ++ ueL (h.count - 1).toNat), h⟩ := fun b => by
  have h1 := H.count
  have h2 := H.first
  unfold alB
  simp only
  rw [lsM_w f N h1.1 (by omega), lsV_w]
 have hC : ∀ b, alC f N ⟨.wr b, h⟩ = ⟨.wr (b ++ ueL h.type.toNat), h⟩ := fun b => by
  have h1 := H.type
  unfold alC
  simp only
  rw [ueM_w f N h1.1 (by omega)]
  rfl
 have hD : ∀ b, alD ⟨.wr b, h⟩ = ⟨.wr b, h⟩ := fun b => rfl
 have hE : ∀ b, alE f N s ⟨.wr b, h⟩ = ⟨.wr (b ++ dig h.fn.toNat s.fb.toNat), h⟩ := fun b => by
  have h1 := H.fn
  unfold alE
  simp only
  rw [fxM_w f N (by omega) ⟨h1.1, by omega⟩]
  rfl
 have hF : ∀ b, alF f N key ⟨.wr b, h⟩ = ⟨.wr (b ++ (if key = true then ueL h.id.toNat else [])), h⟩ := fun b => by
  have h1 := H.id
  unfold alF
  simp only
  split
  ·rw [ueM_w f N h1.1 (by omega)]
   rfl
  ·rw [List.append_nil]
 have hG : ∀ b, alG f N s ⟨.wr b, h⟩ = ⟨.wr (b ++ (if s.pt = 0 then dig h.poc.toNat s.pb.toNat else [])), h⟩ := fun b => by
  have h1 := H.poc
  unfold alG
  simp only
  split
  ·rw [fxM_w f N (by omega) ⟨h1.1, by omega⟩]
   rfl
  ·rw [List.append_nil]
 unfold al1 hdL1
 rw [hA, hB, hC, hD, hE, hF, hG]
 simp only [List.append_assoc]
theorem liS_w : liS f N p ⟨.wr b, h⟩ = ⟨.wr (b ++ hdL2 h p), h⟩ := by
 have hA : liA f N ⟨.wr b, h⟩ = ⟨.wr (b ++ (if h.type = 1 then [h.spatial] else [])), h⟩ := by
  unfold liA
  simp only
  split
  ·rw [flM_w, flV_w]
  ·rw [List.append_nil]
 have hB : ∀ b, liB f N ⟨.wr b, h⟩ = ⟨.wr (b ++ (if h.type ≠ 2 then ueL (h.a0 - 1).toNat else [])), h⟩ := fun b => by
  unfold liB
  simp only
  split
  ·rename_i e
   have h1 := H.a0
   rw [lsM_w f N (by omega) (by omega), lsV_w]
  ·rw [List.append_nil]
 have hC : ∀ b, liC f N ⟨.wr b, h⟩ = ⟨.wr (b ++ (if h.type = 1 then ueL (h.a1 - 1).toNat else [])), h⟩ := fun b => by
  unfold liC
  simp only
  split
  ·rename_i e
   have h1 := H.a1
   rw [lsM_w f N (by omega) (by omega), lsV_w]
  ·rw [List.append_nil]
 have hD : ∀ b, liD ⟨.wr b, h⟩ = ⟨.wr b, h⟩ := fun b => rfl
 have hE : ∀ b, liE f N ⟨.wr b, h⟩ = ⟨.wr (b ++ (if h.type ≠ 2 then mdsL h.m0 else [])), h⟩ := fun b => by
  unfold liE
  simp only
  split
  ·rw [rwM_md f N H.m0, rwV_md]
  ·rw [List.append_nil]
 have hF : ∀ b, liF f N ⟨.wr b, h⟩ = ⟨.wr (b ++ (if h.type = 1 then mdsL h.m1 else [])), h⟩ := fun b => by
  unfold liF
  simp only
  split
  ·rw [rwM_md f N H.m1, rwV_md]
  ·rw [List.append_nil]
 have hW : ∀ b, liW f N p ⟨.wr b, h⟩ = ⟨.wr (b ++ (if wgt h.type p = true then ueL h.log.toNat ++ (ueL h.logC.toNat ++ (wtsL h.w0 ++ wtsL h.w1)) else [])), h⟩ := fun b => by
  unfold liW
  have e : (Wk.wr b).stop = false := rfl
  simp only [e, Bool.not_false, Bool.and_true]
  split
  ·rename_i hw
   obtain ⟨g1, g2, g3, g4⟩ := H.wy hw
   have hG : liG f N ⟨.wr b, h⟩ = ⟨.wr (b ++ ueL h.log.toNat), h⟩ := by
    unfold liG
    simp only
    rw [ueM_w f N g1.1 (by omega)]
    rfl
   have hH : ∀ b, liH f N ⟨.wr b, h⟩ = ⟨.wr (b ++ ueL h.logC.toNat), h⟩ := fun b => by
    unfold liH
    simp only
    rw [ueM_w f N g2.1 (by omega)]
    rfl
   have hI : ∀ b, liI f N ⟨.wr b, h⟩ = ⟨.wr (b ++ wtsL h.w0), h⟩ := fun b => by
    unfold liI
    simp only
    rw [wsM_w f N g3, wsV_w]
   have hJ : ∀ b, liJ f N ⟨.wr b, h⟩ = ⟨.wr (b ++ wtsL h.w1), h⟩ := fun b => by
    unfold liJ
    simp only
    rw [wsM_w f N g4, wsV_w]
   rw [hG, hH, hI, hJ]
   simp only [List.append_assoc]
  ·rw [List.append_nil]
 unfold liS hdL2
 rw [hA, hB, hC, hD, hE, hF, hW]
 simp only [List.append_assoc]
theorem alS_w : alS f N s p ref key ⟨.wr b, h⟩ = ⟨.wr (b ++ hdL h s p ref key), h⟩ := by
 have hH : ∀ b, alH f N ref key ⟨.wr b, h⟩ = ⟨.wr (b ++ (if 0 < ref then (if key = true then [h.longKey] else mosL h.ops) else [])), h⟩ := fun b => by
  unfold alH
  split
  ·split
   ·unfold alK
    simp only
    rw [flM_w, flV_w]
   ·unfold alO
    simp only
    rw [rwM_mo f N H.ops, rwV_mo]
  ·rw [List.append_nil]
 have hQ : ∀ b, alQ f N ⟨.wr b, h⟩ = ⟨.wr (b ++ ueL h.qp.toNat), h⟩ := fun b => by
  have h1 := H.qp
  unfold alQ
  simp only
  rw [ueM_w f N h1.1 (by omega)]
  rfl
 have hI : ∀ b, alI f N p ⟨.wr b, h⟩ = ⟨.wr (b ++ (if p.deb = true then [h.off] ++ (if h.off = true then [] else seL h.a ++ seL h.b) else [])), h⟩ := fun b => by
  unfold alI
  split
  ·have hX : alX f N ⟨.wr b, h⟩ = ⟨.wr (b ++ [h.off]), h⟩ := by
    unfold alX
    simp only
    rw [flM_w, flV_w]
   rw [hX]
   unfold alV
   simp only
   split
   ·simp only [List.append_nil]
   ·have h1 := H.oa
    have h2 := H.ob
    have hY : ∀ b, alY f N ⟨.wr b, h⟩ = ⟨.wr (b ++ seL h.a), h⟩ := fun b => by
     unfold alY
     simp only
     rw [seM_w f N (by omega) (by omega)]
     rfl
    have hZ : ∀ b, alZ f N ⟨.wr b, h⟩ = ⟨.wr (b ++ seL h.b), h⟩ := fun b => by
     unfold alZ
     simp only
     rw [seM_w f N (by omega) (by omega)]
     rfl
    rw [hY, hZ]
    simp only [List.append_assoc]
  ·rw [List.append_nil]
 unfold alS hdL hdL3
 rw [al1_w f N H, liS_w f N H, hH, hQ, hI]
 simp only [List.append_assoc]
end
end Go.Proofs.YtjokibagciehlaaGreat

namespace Go.Proofs.YtjokibagciehlaaGreat
open Go.RowKit
set_option linter.unusedVariables false
set_option linter.unusedSimpArgs false

theorem HdAt.below {w w' : World} {B B' : Nat} {h : Hd} {q : Ha} (H : HdAt w B h q) (hb : Below B' w w') (hB : B ≤ B') : HdAt w' B h q := ⟨H.m0.below hb hB, H.m1.below hb hB, H.w0.below hb hB, H.w1.below hb hB, H.ops.below hb hB⟩
set_option maxRecDepth 100000 in
theorem put_nil (h : Hd) (q : Ha) (sq : Sp) (A : Option Addr) (c : Nat) (p : Pp) (ref : Int) (key : Bool) (w : World) :
  Calls Tryz.prog 8 #[.pointer none, .agg (hdV h q), .agg (spV sq A c), .agg (ppV p), .int .i64 ref, .bool key] w fun e w' => e = .returned (.int .i64 1) ∧ Below w.heap.size w w' := by
 have HB := Lib.hid (((((Below.refl w.heap.size w).alloc (Nat.le_refl _) (.cells (hdV h q) 26)).alloc (by simp) (.cells (spV sq A c) 29))).alloc (by simp; omega) (.cells (ppV p) 31))
 simp only [hdV, spV, ppV] at HB ⊢
 go_enter Tryz.func8, Tryz.ntmps8
 go_wp2_with fail
 go_ret
 exact ⟨rfl, HB.out⟩
/-- the three boxes of a call -/
structure Bx (w w3 : World) (h : Hd) (q : Ha) (sq : Sp) (A : Option Addr) (c : Nat) (p : Pp) : Prop where
 k1 : Bk w3 w.heap.size 26 (hdV h q)
 k2 : Bk w3 (w.heap.size + 1) 29 (spV sq A c)
 k3 : Bk w3 (w.heap.size + 1 + 1) 31 (ppV p)
 below : Below w.heap.size w w3
theorem Bx.new (w : World) (h : Hd) (q : Ha) (sq : Sp) (A : Option Addr) (c : Nat) (p : Pp) : Bx w (((w.alloc (.cells (hdV h q) 26)).alloc (.cells (spV sq A c) 29)).alloc (.cells (ppV p) 31)) h q sq A c p := by
 have b1 := (Below.refl w.heap.size w).alloc (Nat.le_refl _) (.cells (hdV h q) 26)
 have b2 := b1.alloc b1.size (.cells (spV sq A c) 29)
 have b3 := b2.alloc b2.size (.cells (ppV p) 31)
 have k2 := (Bk.new (w.alloc (.cells (hdV h q) 26)) 29 (spV sq A c)).alloc (.cells (ppV p) 31)
 have k3 := Bk.new ((w.alloc (.cells (hdV h q) 26)).alloc (.cells (spV sq A c) 29)) 31 (ppV p)
 rw [World.size_alloc] at k2
 rw [World.size_alloc, World.size_alloc] at k3
 exact ⟨((Bk.new w 26 (hdV h q)).alloc _).alloc _, k2, k3, b3⟩
theorem Bx.go {w w3 w4 : World} {h : Hd} {q : Ha} {sq : Sp} {A : Option Addr} {c : Nat} {p : Pp} (H : Bx w w3 h q sq A c p) (hb : Below w3.heap.size w3 w4) : Bx w w4 h q sq A c p := ⟨H.k1.go hb, H.k2.go hb, H.k3.go hb, H.below.trans (hb.mono H.below.size)⟩
section
variable {w : World} {g : Nat} (h : Hd) (q : Ha) (sq : Sp) (A : Option Addr) (c : Nat) (p : Pp) (ref : Int) (key : Bool) (H : HdAt w w.heap.size h q) (L : HdLen h) (hsp : SpAt w w.heap.size sq A) (hn : sq.cy.length ≤ 1152921504606846976)
include H L hsp hn
set_option maxRecDepth 100000 in
set_option maxHeartbeats 3200000 in
theorem put_no (ad : Addr) (hm : mayHd h sq p ref key = false) :
  Calls Tryz.prog 8 #[.pointer (some ad), .agg (hdV h q), .agg (spV sq A c), .agg (ppV p), .int .i64 ref, .bool key] w fun e w' => e = .returned (.int .i64 401) ∧ Below w.heap.size w w' := by
 have HX := Lib.hid (Bx.new w h q sq A c p)
 have HM := Lib.hid (fun (w3 : World) (hb : Below w.heap.size w w3) => hm ▸ mayhd_any h q sq A c p ref key w3 (H.go hb) L (Rd.go hsp hb) hn)
 clear H L hsp hn hm
 obtain ⟨w3, hw3⟩ : ∃ w3, w3 = (((w.alloc (.cells (hdV h q) 26)).alloc (.cells (spV sq A c) 29)).alloc (.cells (ppV p) 31)) := ⟨_, rfl⟩
 rw [← hw3] at HX
 simp only [hdV, spV, ppV] at hw3 ⊢
 go_enter Tryz.func8, Tryz.ntmps8
 go_upto_region 3 with fail
 rw [← hw3]
 clear hw3
 refine wp_region_lit ?_
 refine wpList_load_row rfl _ _ rfl w.heap.size rfl _ _ (0, 0) _ HX.out.k1 Tryz.underlying26 rfl (by kernel_rfl) ?_
 refine wpList_load_row rfl _ _ rfl (w.heap.size + 1) rfl _ _ (0, 0) _ HX.out.k2 Tryz.underlying29 rfl (by kernel_rfl) ?_
 refine wpList_load_row rfl _ _ rfl (w.heap.size + 1 + 1) rfl _ _ (0, 0) _ HX.out.k3 Tryz.underlying31 rfl (by kernel_rfl) ?_
 go_wp2_with fail
 refine (HM.out w3 HX.out.below).mono ?_
 rintro e w4 ⟨rfl, hb⟩
 replace HX := Lib.hid (HX.out.go hb)
 clear hb HM
 go_wp2_with fail
 go_ret
 exact ⟨rfl, HX.out.below⟩
set_option maxRecDepth 100000 in
set_option maxHeartbeats 6400000 in
theorem put_yes (base : Nat) (v : Value) (b : List Bool) (hw : Wr w base g v b) (hbs : base ≤ w.heap.size) (hb : b.length ≤ 100000) (hm : mayHd h sq p ref key = true)
  (away : ∀ A, A = q.m0 ∨ A = q.m1 ∨ A = q.w0 ∨ A = q.w1 ∨ A = q.ops → ∀ ad, A = some ad → ¬ WS g v ad.block ∧ ad.block < w.heap.size) :
  Calls Tryz.prog 8 #[.pointer (some ⟨g, 0, none⟩), .agg (hdV h q), .agg (spV sq A c), .agg (ppV p), .int .i64 ref, .bool key] w fun e w' => e = .returned (.int .i64 0) ∧ PutPost w base g v (b ++ hdL h sq p ref key) w' := by
 have HO := mayHd_iff hm
 have HX := Lib.hid (Bx.new w h q sq A c p)
 have HM := Lib.hid (fun (w3 : World) (hb : Below w.heap.size w w3) => hm ▸ mayhd_any h q sq A c p ref key w3 (H.go hb) L (Rd.go hsp hb) hn)
 have hcnt : -4611686018427387904 ≤ h.count ∧ h.count ≤ 4611686018427387904 := by
  have h1 := HO.count; have h2 := HO.first; have h3 := HO.area; omega
 have hcn : Cn ⟨.wr b, h⟩ := by
  have h1 := HO.a0; have h2 := HO.a1
  exact ⟨by show 0 ≤ h.a0 ∧ h.a0 ≤ 2147483647; omega, by show 0 ≤ h.a1 ∧ h.a1 ≤ 2147483647; omega⟩
 have hwlt : ∀ i, WS g v i → i < w.heap.size := fun i hi => WkIo.ws (s := ByteArray.empty) (k := .wr b) (show WkIo w base g ByteArray.empty v (.wr b) from ⟨hw, hbs⟩) hi
 -- the call of all, once its walk lies there
 have HC : Hid (∀ w3, Below w.heap.size w w3 → Bk w3 w.heap.size 26 (hdV h q) → Calls Tryz.prog 32 #[.pointer (some ⟨w3.heap.size, 0, none⟩), .pointer (some ⟨w.heap.size, 0, none⟩), .agg #[.int .i64 sq.wide, .int .i64 sq.high, .int .i64 sq.fb, .int .i64 sq.pt, .int .i64 sq.pb, .int .i64 sq.nr, .slice A sq.cy.length c, .int .i64 sq.refs, .int .i64 sq.delay], .agg #[.bool p.cabac, .bool p.weighted, .int .i64 p.bipred, .int .i64 p.qp, .int .i64 p.cqp, .bool p.con, .bool p.deb, .int .i64 p.a0, .int .i64 p.a1], .int .i64 ref, .bool key] (w3.alloc (.cells #[.pointer (some ⟨g, 0, none⟩), .pointer none, .bool false, .bool false] 80)) fun e w' => e = .returned (.tuple #[]) ∧ PutPost w base g v (b ++ hdL h sq p ref key) w') := Lib.hid (by
  intro w3 hb3 k1
  have hlt := k1.lt
  have hb4 : Below w.heap.size w (w3.alloc (.cells #[.pointer (some ⟨g, 0, none⟩), .pointer none, .bool false, .bool false] 80)) := hb3.alloc hb3.size _
  have hwr : Wr (w3.alloc (.cells #[.pointer (some ⟨g, 0, none⟩), .pointer none, .bool false, .bool false] 80)) base g v b := hw.go hb4
  have hat : WkAt (w3.alloc (.cells #[.pointer (some ⟨g, 0, none⟩), .pointer none, .bool false, .bool false] 80)) base g w3.heap.size ByteArray.empty v (.wr b) := ⟨Bk.new w3 80 _, ⟨hwr, Nat.le_trans hbs hb4.size⟩, fun e => by have := hwlt _ e; have := hb3.size; omega⟩
  have hHw : HwAt true (w3.alloc (.cells #[.pointer (some ⟨g, 0, none⟩), .pointer none, .bool false, .bool false] 80)) (w3.alloc (.cells #[.pointer (some ⟨g, 0, none⟩), .pointer none, .bool false, .bool false] 80)) base g w3.heap.size w.heap.size ByteArray.empty v [] ⟨.wr b, h⟩ q 0 100000 := by
   have hg : g < w.heap.size := hwlt g (.inl rfl)
   refine ⟨⟨v, WkTo.refl _ hat, k1.alloc _, fun x hx => by cases hx⟩, rfl, ?_, hb, ⟨?_, ?_, ?_⟩, ⟨fun e => by have := hwlt _ e; omega, by omega⟩, fun e => by cases e⟩
   ·show RwsW _ _ _ _ _ _ _
    have hd := H.go hb4
    refine ⟨hd.m0, hd.m1, hd.w0, hd.w1, hd.ops, fun A hA ad e => ?_, HO.lens⟩
    obtain ⟨z1, z2⟩ := away A hA ad e
    have := hb3.size
    exact ⟨z1, by omega, by omega, by have := hb4.size; omega⟩
   ·have := hb4.size; omega
   ·simp
   ·have := hb4.size; simp; omega
  refine (all_any sq A c p ref key hHw (by decide) (by omega) hcnt hcn).mono ?_
  rintro e w' ⟨he, q', hq⟩
  refine ⟨he, ?_⟩
  have hq := hq.eqv (alS_w (sbit ByteArray.empty) (8 * ByteArray.empty.size) HO b)
  obtain ⟨v1, q1, q2, q3⟩ := hq.fld
  refine ⟨v1, q1.at_.io.1, ?_, q1.new.pre hb4.size⟩
  have hsz := hb3.size
  exact ((Touch.of_new hb4).old q1.touch (fun i hi e => by
   rcases e with e | e | e
   ·exact e
   ·omega
   ·omega) : Touch (WS g v) w w'))
 clear H L hsp hn hm HO hcnt hcn hw hbs hb away hwlt
 obtain ⟨w3, hw3⟩ : ∃ w3, w3 = (((w.alloc (.cells (hdV h q) 26)).alloc (.cells (spV sq A c) 29)).alloc (.cells (ppV p) 31)) := ⟨_, rfl⟩
 rw [← hw3] at HX
 obtain ⟨bb, hbb⟩ : ∃ bb, b ++ hdL h sq p ref key = bb := ⟨_, rfl⟩
 rw [hbb] at HC ⊢
 clear hbb
 simp only [hdV, spV, ppV] at hw3 ⊢
 go_enter Tryz.func8, Tryz.ntmps8
 go_upto_region 3 with fail
 rw [← hw3]
 clear hw3
 refine wp_region_lit ?_
 refine wpList_load_row rfl _ _ rfl w.heap.size rfl _ _ (0, 0) _ HX.out.k1 Tryz.underlying26 rfl (by kernel_rfl) ?_
 refine wpList_load_row rfl _ _ rfl (w.heap.size + 1) rfl _ _ (0, 0) _ HX.out.k2 Tryz.underlying29 rfl (by kernel_rfl) ?_
 refine wpList_load_row rfl _ _ rfl (w.heap.size + 1 + 1) rfl _ _ (0, 0) _ HX.out.k3 Tryz.underlying31 rfl (by kernel_rfl) ?_
 go_wp2_with fail
 refine (HM.out w3 HX.out.below).mono ?_
 rintro e w4 ⟨rfl, hb⟩
 replace HX := Lib.hid (HX.out.go hb)
 clear hb HM
 have s0 := HX.out.k2.cell 0
 have g0 := HX.out.k3.cell 0
 have s1 := HX.out.k2.cell 1
 have g1 := HX.out.k3.cell 1
 have s2 := HX.out.k2.cell 2
 have g2 := HX.out.k3.cell 2
 have s3 := HX.out.k2.cell 3
 have g3 := HX.out.k3.cell 3
 have s4 := HX.out.k2.cell 4
 have g4 := HX.out.k3.cell 4
 have s5 := HX.out.k2.cell 5
 have g5 := HX.out.k3.cell 5
 have s6 := HX.out.k2.cell 6
 have g6 := HX.out.k3.cell 6
 have s7 := HX.out.k2.cell 7
 have g7 := HX.out.k3.cell 7
 have s8 := HX.out.k2.cell 8
 have g8 := HX.out.k3.cell 8
 simp [spV] at s0 s1 s2 s3 s4 s5 s6 s7 s8
 simp [ppV] at g0 g1 g2 g3 g4 g5 g6 g7 g8
 have hl1 := HX.out.k2.lt
 have hl2 := HX.out.k3.lt
 go_wp2_with fail
 clear s0 s1 s2 s3 s4 s5 s6 s7 s8 g0 g1 g2 g3 g4 g5 g6 g7 g8
 refine (HC.out w4 HX.out.below HX.out.k1).mono ?_
 rintro e w5 ⟨rfl, hq⟩
 have HP := Lib.hid hq
 clear hq HC HX
 go_wp2_with fail
 go_ret
 exact ⟨rfl, HP.out⟩
end
end Go.Proofs.YtjokibagciehlaaGreat

namespace Go.Proofs.YtjokibagciehlaaGreat
open Go.RowKit
set_option linter.unusedVariables false
set_option linter.unusedSimpArgs false

def Hd.zero : Hd := ⟨0, 0, 0, 0, 0, 0, false, 0, 0, [], [], 0, 0, [], [], false, [], 0, false, 0, 0⟩
def Ha.zero : Ha := ⟨none, 0, none, 0, none, 0, none, 0, none, 0⟩
theorem wpList_load_rowG {P : Program} {ops : Array Oper} {rest : List Oper} {o : Oper} {a : Act} {w : World} {Q : Exit → Act → World → Prop} (hw : Region.wanted o (yielded ops a.tmps) = true) (ty : TypeId) (x : Operand) (ho : o.op = .load ty x)
  (g : Nat) (hx : a.eval x = .pointer (some ⟨g, 0, none⟩)) (t : TypeId) (cs : Array Value) (fr : Nat × Nat) (d : TypeDesc) (hg : w.heap[g]? = some (.cells cs t fr))
  (hu : P.underlying ty = some d) (hd : (match d with | .struct _ | .array _ _ => true | _ => false) = true) (hi : (P.info? ty).map (·.size) = some cs.size)
  (h : wpList P ops Q rest (a.put o.dst (.agg cs)) w) : wpList P ops Q (o :: rest) a w :=
 BigFrame.wpList_want hw fun _ hK => wp_load_row ty x ho g hx t cs fr d hg hu hd hi (hK _ _ h)
theorem wpList_built0 {P : Program} {ops : Array Oper} {rest : List Oper} {o : Oper} {a : Act} {w : World} {Q : Exit → Act → World → Prop} (hg : o.guard = none) (t : TypeId) (ho : o.op = .build t #[]) (v : Array Value) (hv : P.built t [] = some v)
  (h : wpList P ops Q rest (a.put o.dst (.agg v)) w) : wpList P ops Q (o :: rest) a w := by
 refine wpList_build hg t #[] ho (by simp [hv]) ?_
 simpa [hv] using h
theorem hd_one (h : Hd) (q : Ha) : (hdV h q).all (·.oneCell') = true := by simp [hdV, Value.oneCell']
theorem built_head : Tryz.prog.built 26 [] = some (hdV Hd.zero Ha.zero) := by kernel_rfl
theorem get_results (a : Act) (w : World) (B : Nat) (t : TypeId) (cs : Array Value) (E : Int) (h10 : a.tmps.getD 10 undef = .pointer (some ⟨B, 0, none⟩)) (h11 : a.tmps.getD 11 undef = .int .i64 E) (hg : Bk w B t cs) (hs : cs.size = 21) :
  (results Tryz.f23 a.tmps).run Tryz.prog w = .ok (.tuple #[.agg cs, .int .i64 E]) w := by
 have h10' : a.tmps[10]?.getD undef = .pointer (some ⟨B, 0, none⟩) := by simpa using h10
 have h11' : a.tmps[11]?.getD undef = .int .i64 E := by simpa using h11
 have hl := run_loadVar_row (P := Tryz.prog) w B t 26 cs (0, 0) _ hg Tryz.underlying26 rfl (by rw [hs]; kernel_rfl)
 simp [results, Tryz.results23, h10', h11', asAddr, hl, Sem.run_bind]
/-- what Get answers: a header, an error, where the reader is -/
def getHd (f : Nat → Bool) (N : Nat) (sq : Sp) (p : Pp) (ref : Int) (key : Bool) (a : Nat) : Hd × Int × Nat :=
 if (maySp sq && mayPp p && inR 0 3 ref) = true then
  match (alS f N sq p ref key ⟨.rd a false false, Hd.zero⟩).k with
  | .rd a' bad many => if bad = true then (.zero, 400, a) else if many = true ∨ mayHd (alS f N sq p ref key ⟨.rd a false false, Hd.zero⟩).h sq p ref key = false then (.zero, 401, a) else ((alS f N sq p ref key ⟨.rd a false false, Hd.zero⟩).h, 0, a')
  | .wr _ => (.zero, 400, a)
 else (.zero, 401, a)
def GetPost (w : World) (g : Nat) (st : ByteArray) (r : Hd × Int × Nat) (e : Ending) (w' : World) : Prop := ∃ q, e = .returned (.tuple #[.agg (hdV r.1 q), .int .i64 r.2.1]) ∧ RPost w g st r.2.2 w' ∧ RwsR w w' r.1.ls q 5
theorem RwsR.zero (w w' : World) (n : Nat) : RwsR w w' Hd.zero.ls Ha.zero n := ⟨.inl ⟨rfl, rfl⟩, .inl ⟨rfl, rfl⟩, .inl ⟨rfl, rfl⟩, .inl ⟨rfl, rfl⟩, .inl ⟨rfl, rfl⟩, fun _ => ⟨rfl, rfl, rfl⟩, fun _ => ⟨rfl, rfl, rfl⟩, fun _ => ⟨rfl, rfl, rfl⟩, fun _ => ⟨rfl, rfl, rfl⟩, fun _ => ⟨rfl, rfl, rfl⟩, by simp [Hd.ls, Hd.zero]⟩
theorem bk_setRow {w : World} {g : Nat} {t : TypeId} {old cs : Array Value} (h : Bk w g t old) : Bk (w.setRow g cs) g t cs := setRow_heap w g old cs t (0, 0) h
theorem bk_setRow_far {w : World} {g k : Nat} {t : TypeId} {cs cs' : Array Value} (h : Bk w k t cs) (hk : k ≠ g) : Bk (w.setRow g cs') k t cs := (setRow_other w g k cs' hk).trans h
theorem touch_setRow {S : Nat → Prop} {w w' : World} (h : Touch S w w') (g : Nat) (cs : Array Value) (hg : g < w.heap.size → S g) : Touch S w (w'.setRow g cs) :=
 ⟨h.os, h.tape, h.output, by have := h.size; simp [World.setRow]; exact this, fun k hk hs => (setRow_other w' g k cs (fun e => hs (e ▸ hg (e ▸ hk)))).trans (h.block k hk hs)⟩
/-- the call's own boxes: parameters and the answer -/
structure Gx (w w3 : World) (g : Nat) (st : ByteArray) (a : Nat) (sq : Sp) (A : Option Addr) (c : Nat) (p : Pp) : Prop where
 k1 : Bk w3 w.heap.size 29 (spV sq A c)
 k2 : Bk w3 (w.heap.size + 1) 31 (ppV p)
 k3 : Bk w3 (w.heap.size + 1 + 1) 26 (hdV Hd.zero Ha.zero)
 sp : SpAt w3 g sq A
 below : Below w.heap.size w w3
 r : Rr w3 g st a
theorem Gx.new (w : World) (g : Nat) (st : ByteArray) (a : Nat) (sq : Sp) (A : Option Addr) (c : Nat) (p : Pp) (hsp : SpAt w g sq A) (hr : Rr w g st a) : Gx w (((w.alloc (.cells (spV sq A c) 29)).alloc (.cells (ppV p) 31)).alloc (.cells (hdV Hd.zero Ha.zero) 26)) g st a sq A c p := by
 have b1 := (Below.refl w.heap.size w).alloc (Nat.le_refl _) (.cells (spV sq A c) 29)
 have b2 := b1.alloc b1.size (.cells (ppV p) 31)
 have b3 := b2.alloc b2.size (.cells (hdV Hd.zero Ha.zero) 26)
 have k2 := (Bk.new (w.alloc (.cells (spV sq A c) 29)) 31 (ppV p)).alloc (.cells (hdV Hd.zero Ha.zero) 26)
 have k3 := Bk.new ((w.alloc (.cells (spV sq A c) 29)).alloc (.cells (ppV p) 31)) 26 (hdV Hd.zero Ha.zero)
 rw [World.size_alloc] at k2
 rw [World.size_alloc, World.size_alloc] at k3
 exact ⟨((Bk.new w 29 (spV sq A c)).alloc _).alloc _, k2, k3, Rd.below hsp b3 (Nat.le_of_lt (Bk.lt hr)), b3, Bk.go hr b3⟩
theorem Gx.go {w w3 w4 : World} {g : Nat} {st : ByteArray} {a : Nat} {sq : Sp} {A : Option Addr} {c : Nat} {p : Pp} (H : Gx w w3 g st a sq A c p) (hb : Below w3.heap.size w3 w4) : Gx w w4 g st a sq A c p :=
 ⟨H.k1.go hb, H.k2.go hb, H.k3.go hb, Rd.below H.sp hb (Nat.le_of_lt (Bk.lt H.r)), H.below.trans (hb.mono H.below.size), Bk.go H.r hb⟩
section
variable {w : World} {g a : Nat} {st : ByteArray} (sq : Sp) (A : Option Addr) (c : Nat) (p : Pp) (ref : Int) (key : Bool) (hr : Rr w g st a) (hs : st.size ≤ 140737488351232) (ha : a ≤ 8 * st.size) (hsp : SpAt w g sq A) (hn : sq.cy.length ≤ 1152921504606846976)
include hr hs ha hsp hn
omit hs ha in
set_option maxRecDepth 100000 in
set_option maxHeartbeats 6400000 in
theorem get_bad (h0 : ¬ (maySp sq = true ∧ mayPp p = true ∧ inR 0 3 ref = true)) :
  Calls Tryz.prog 23 #[.pointer (some ⟨g, 0, none⟩), .agg (spV sq A c), .agg (ppV p), .int .i64 ref, .bool key] w fun e w' => GetPost w g st (getHd (sbit st) (8 * st.size) sq p ref key a) e w' := by
 have hG : getHd (sbit st) (8 * st.size) sq p ref key a = (.zero, 401, a) := by
  unfold getHd
  refine if_neg (fun q => h0 ?_)
  obtain ⟨q, q3⟩ := and_tt.1 q
  obtain ⟨q1, q2⟩ := and_tt.1 q
  exact ⟨q1, q2, q3⟩
 rw [hG]
 have HX := Lib.hid (Gx.new w g st a sq A c p hsp hr)
 have D1 : Hid (∀ w, SpAt w w.heap.size sq A → Calls Tryz.prog 40 #[.agg (spV sq A c)] w fun e w' => e = .returned (.bool (maySp sq)) ∧ Below w.heap.size w w') := Lib.hid (fun w hs => maysp_any sq A c w hs hn)
 have D2 : Hid (∀ w, Calls Tryz.prog 41 #[.agg (ppV p)] w fun e w' => e = .returned (.bool (mayPp p)) ∧ Below w.heap.size w w') := Lib.hid (fun w => maypp_any p w)
 have D3 : Hid (∀ w, Calls Tryz.prog 42 #[.int .i64 ref, .int .i64 0, .int .i64 3] w fun e w' => e = .returned (.bool (inR 0 3 ref)) ∧ w = w') := Lib.hid (fun w => hin_any ref 0 3 w)
 have hgl : g < w.heap.size := Bk.lt hr
 have HR := Lib.hid h0
 obtain ⟨z1, hz1⟩ : ∃ b, maySp sq = b := ⟨_, rfl⟩
 obtain ⟨z2, hz2⟩ : ∃ b, mayPp p = b := ⟨_, rfl⟩
 obtain ⟨z3, hz3⟩ : ∃ b, inR 0 3 ref = b := ⟨_, rfl⟩
 rw [hz1, hz2, hz3] at HR
 rw [hz1] at D1
 rw [hz2] at D2
 rw [hz3] at D3
 clear h0 hz1 hz2 hz3 hsp hr hG hn
 obtain ⟨w3, hw3⟩ : ∃ w3, w3 = (((w.alloc (.cells (spV sq A c) 29)).alloc (.cells (ppV p) 31)).alloc (.cells (hdV Hd.zero Ha.zero) 26)) := ⟨_, rfl⟩
 rw [← hw3] at HX
 simp only [spV, ppV, hdV, Hd.zero, Ha.zero, List.length_nil] at hw3
 simp only [spV, ppV] at D1 D2 ⊢
 cases z1
 ·skip
  have s0 := HX.out.k1.cell 0
  have s1 := HX.out.k1.cell 1
  have s2 := HX.out.k1.cell 2
  have s3 := HX.out.k1.cell 3
  have s4 := HX.out.k1.cell 4
  have s5 := HX.out.k1.cell 5
  have s6 := HX.out.k1.cell 6
  have s7 := HX.out.k1.cell 7
  have s8 := HX.out.k1.cell 8
  have g0 := HX.out.k2.cell 0
  have g1 := HX.out.k2.cell 1
  have g2 := HX.out.k2.cell 2
  have g3 := HX.out.k2.cell 3
  have g4 := HX.out.k2.cell 4
  have g5 := HX.out.k2.cell 5
  have g6 := HX.out.k2.cell 6
  have g7 := HX.out.k2.cell 7
  have g8 := HX.out.k2.cell 8
  simp [spV] at s0 s1 s2 s3 s4 s5 s6 s7 s8
  simp [ppV] at g0 g1 g2 g3 g4 g5 g6 g7 g8
  have hl1 := HX.out.k1.lt
  have hl2 := HX.out.k2.lt
  go_enter Tryz.func23, Tryz.ntmps23
  go_upto_region 3 with fail
  rw [show (((w.alloc (.cells #[.int .i64 sq.wide, .int .i64 sq.high, .int .i64 sq.fb, .int .i64 sq.pt, .int .i64 sq.pb, .int .i64 sq.nr, .slice A sq.cy.length c, .int .i64 sq.refs, .int .i64 sq.delay] 29)).alloc (.cells #[.bool p.cabac, .bool p.weighted, .int .i64 p.bipred, .int .i64 p.qp, .int .i64 p.cqp, .bool p.con, .bool p.deb, .int .i64 p.a0, .int .i64 p.a1] 31)).alloc (.cells _ 26)) = w3 from hw3.symm]
  clear hw3
  go_wp2_with fail
  refine (D1.out _ (Rd.more HX.out.sp (Nat.le_of_lt (Bk.lt HX.out.r)))).mono ?_
  rintro e wa ⟨rfl, hb⟩
  replace HX := Lib.hid (HX.out.go hb)
  clear hb hl1 hl2
  clear s0 s1 s2 s3 s4 s5 s6 s7 s8 g0 g1 g2 g3 g4 g5 g6 g7 g8
  go_upto_region 4 with fail
  refine wp_region_lit ?_
  refine wpList_built0 rfl _ rfl _ built_head ?_
  refine wpList_store_row rfl _ _ _ rfl (w.heap.size + 1 + 1) (hdV Hd.zero Ha.zero) rfl rfl _ _ HX.out.k3 (by kernel_rfl) rfl (hd_one _ _) ?_
  go_wp2_with fail
  refine bodyPost_ret (get_results _ _ (w.heap.size + 1 + 1) 26 (hdV Hd.zero Ha.zero) 401 rfl rfl (bk_setRow HX.out.k3) rfl) rfl ?_
  refine ⟨Ha.zero, rfl, ⟨bk_setRow_far HX.out.r (by omega), touch_setRow (Touch.of_new HX.out.below) _ _ (by omega)⟩, RwsR.zero _ _ _⟩
 cases z2
 ·skip
  have s0 := HX.out.k1.cell 0
  have s1 := HX.out.k1.cell 1
  have s2 := HX.out.k1.cell 2
  have s3 := HX.out.k1.cell 3
  have s4 := HX.out.k1.cell 4
  have s5 := HX.out.k1.cell 5
  have s6 := HX.out.k1.cell 6
  have s7 := HX.out.k1.cell 7
  have s8 := HX.out.k1.cell 8
  have g0 := HX.out.k2.cell 0
  have g1 := HX.out.k2.cell 1
  have g2 := HX.out.k2.cell 2
  have g3 := HX.out.k2.cell 3
  have g4 := HX.out.k2.cell 4
  have g5 := HX.out.k2.cell 5
  have g6 := HX.out.k2.cell 6
  have g7 := HX.out.k2.cell 7
  have g8 := HX.out.k2.cell 8
  simp [spV] at s0 s1 s2 s3 s4 s5 s6 s7 s8
  simp [ppV] at g0 g1 g2 g3 g4 g5 g6 g7 g8
  have hl1 := HX.out.k1.lt
  have hl2 := HX.out.k2.lt
  go_enter Tryz.func23, Tryz.ntmps23
  go_upto_region 3 with fail
  rw [show (((w.alloc (.cells #[.int .i64 sq.wide, .int .i64 sq.high, .int .i64 sq.fb, .int .i64 sq.pt, .int .i64 sq.pb, .int .i64 sq.nr, .slice A sq.cy.length c, .int .i64 sq.refs, .int .i64 sq.delay] 29)).alloc (.cells #[.bool p.cabac, .bool p.weighted, .int .i64 p.bipred, .int .i64 p.qp, .int .i64 p.cqp, .bool p.con, .bool p.deb, .int .i64 p.a0, .int .i64 p.a1] 31)).alloc (.cells _ 26)) = w3 from hw3.symm]
  clear hw3
  go_wp2_with fail
  refine (D1.out _ (Rd.more HX.out.sp (Nat.le_of_lt (Bk.lt HX.out.r)))).mono ?_
  rintro e wa ⟨rfl, hb⟩
  replace HX := Lib.hid (HX.out.go hb)
  clear hb hl1 hl2
  clear s0 s1 s2 s3 s4 s5 s6 s7 s8 g0 g1 g2 g3 g4 g5 g6 g7 g8
  have g0 := HX.out.k2.cell 0
  have g1 := HX.out.k2.cell 1
  have g2 := HX.out.k2.cell 2
  have g3 := HX.out.k2.cell 3
  have g4 := HX.out.k2.cell 4
  have g5 := HX.out.k2.cell 5
  have g6 := HX.out.k2.cell 6
  have g7 := HX.out.k2.cell 7
  have g8 := HX.out.k2.cell 8
  simp [ppV] at g0 g1 g2 g3 g4 g5 g6 g7 g8
  have hl2 := HX.out.k2.lt
  go_wp2_with fail
  refine (D2.out _).mono ?_
  rintro e wb ⟨rfl, hb⟩
  replace HX := Lib.hid (HX.out.go hb)
  clear hb hl2
  clear g0 g1 g2 g3 g4 g5 g6 g7 g8
  go_upto_region 4 with fail
  refine wp_region_lit ?_
  refine wpList_built0 rfl _ rfl _ built_head ?_
  refine wpList_store_row rfl _ _ _ rfl (w.heap.size + 1 + 1) (hdV Hd.zero Ha.zero) rfl rfl _ _ HX.out.k3 (by kernel_rfl) rfl (hd_one _ _) ?_
  go_wp2_with fail
  refine bodyPost_ret (get_results _ _ (w.heap.size + 1 + 1) 26 (hdV Hd.zero Ha.zero) 401 rfl rfl (bk_setRow HX.out.k3) rfl) rfl ?_
  refine ⟨Ha.zero, rfl, ⟨bk_setRow_far HX.out.r (by omega), touch_setRow (Touch.of_new HX.out.below) _ _ (by omega)⟩, RwsR.zero _ _ _⟩
 cases z3
 ·skip
  have s0 := HX.out.k1.cell 0
  have s1 := HX.out.k1.cell 1
  have s2 := HX.out.k1.cell 2
  have s3 := HX.out.k1.cell 3
  have s4 := HX.out.k1.cell 4
  have s5 := HX.out.k1.cell 5
  have s6 := HX.out.k1.cell 6
  have s7 := HX.out.k1.cell 7
  have s8 := HX.out.k1.cell 8
  have g0 := HX.out.k2.cell 0
  have g1 := HX.out.k2.cell 1
  have g2 := HX.out.k2.cell 2
  have g3 := HX.out.k2.cell 3
  have g4 := HX.out.k2.cell 4
  have g5 := HX.out.k2.cell 5
  have g6 := HX.out.k2.cell 6
  have g7 := HX.out.k2.cell 7
  have g8 := HX.out.k2.cell 8
  simp [spV] at s0 s1 s2 s3 s4 s5 s6 s7 s8
  simp [ppV] at g0 g1 g2 g3 g4 g5 g6 g7 g8
  have hl1 := HX.out.k1.lt
  have hl2 := HX.out.k2.lt
  go_enter Tryz.func23, Tryz.ntmps23
  go_upto_region 3 with fail
  rw [show (((w.alloc (.cells #[.int .i64 sq.wide, .int .i64 sq.high, .int .i64 sq.fb, .int .i64 sq.pt, .int .i64 sq.pb, .int .i64 sq.nr, .slice A sq.cy.length c, .int .i64 sq.refs, .int .i64 sq.delay] 29)).alloc (.cells #[.bool p.cabac, .bool p.weighted, .int .i64 p.bipred, .int .i64 p.qp, .int .i64 p.cqp, .bool p.con, .bool p.deb, .int .i64 p.a0, .int .i64 p.a1] 31)).alloc (.cells _ 26)) = w3 from hw3.symm]
  clear hw3
  go_wp2_with fail
  refine (D1.out _ (Rd.more HX.out.sp (Nat.le_of_lt (Bk.lt HX.out.r)))).mono ?_
  rintro e wa ⟨rfl, hb⟩
  replace HX := Lib.hid (HX.out.go hb)
  clear hb hl1 hl2
  clear s0 s1 s2 s3 s4 s5 s6 s7 s8 g0 g1 g2 g3 g4 g5 g6 g7 g8
  have g0 := HX.out.k2.cell 0
  have g1 := HX.out.k2.cell 1
  have g2 := HX.out.k2.cell 2
  have g3 := HX.out.k2.cell 3
  have g4 := HX.out.k2.cell 4
  have g5 := HX.out.k2.cell 5
  have g6 := HX.out.k2.cell 6
  have g7 := HX.out.k2.cell 7
  have g8 := HX.out.k2.cell 8
  simp [ppV] at g0 g1 g2 g3 g4 g5 g6 g7 g8
  have hl2 := HX.out.k2.lt
  go_wp2_with fail
  refine (D2.out _).mono ?_
  rintro e wb ⟨rfl, hb⟩
  replace HX := Lib.hid (HX.out.go hb)
  clear hb hl2
  clear g0 g1 g2 g3 g4 g5 g6 g7 g8
  go_wp2_with fail
  refine (D3.out _).mono ?_
  rintro e wc ⟨rfl, rfl⟩
  go_upto_region 4 with fail
  refine wp_region_lit ?_
  refine wpList_built0 rfl _ rfl _ built_head ?_
  refine wpList_store_row rfl _ _ _ rfl (w.heap.size + 1 + 1) (hdV Hd.zero Ha.zero) rfl rfl _ _ HX.out.k3 (by kernel_rfl) rfl (hd_one _ _) ?_
  go_wp2_with fail
  refine bodyPost_ret (get_results _ _ (w.heap.size + 1 + 1) 26 (hdV Hd.zero Ha.zero) 401 rfl rfl (bk_setRow HX.out.k3) rfl) rfl ?_
  refine ⟨Ha.zero, rfl, ⟨bk_setRow_far HX.out.r (by omega), touch_setRow (Touch.of_new HX.out.below) _ _ (by omega)⟩, RwsR.zero _ _ _⟩
 exact absurd ⟨rfl, rfl, rfl⟩ HR.out
end
theorem RowNew.rw {α : Type} {w0 w : World} {T : TypeId} {A : Option Addr} {C : Nat} {f : α → Nat → Value} {l : List α} (h : RowNew w0 w T A C f l) (hC : 0 < C) : RwAt w w.heap.size A C f l := fun hn => by
 rcases h with ⟨h, _⟩ | ⟨Br, cs, e, h1, h2, h3⟩
 ·rw [h] at hn; simp at hn
 ·refine ⟨⟨Br, 0, none⟩, e, h2.lt, fun k hk => ?_⟩
  rw [add_new]
  exact ⟨(h2.cell (k * C)).trans (h3.2 k hk 0 hC), fun j h0 hj => (h2.cell (k * C + j)).trans (h3.2 k hk j hj)⟩
theorem RwsR.hd {w0 w : World} {h : Hd} {q : Ha} {n : Nat} (H : RwsR w0 w h.ls q n) : HdAt w w.heap.size h q := ⟨H.m0.rw (by omega), H.m1.rw (by omega), H.w0.rw (by omega), H.w1.rw (by omega), H.ops.rw (by omega)⟩
theorem RwsR.lens {w0 w : World} {h : Hd} {q : Ha} {n : Nat} (H : RwsR w0 w h.ls q n) : HdLen h := by
 obtain ⟨h1, h2, h3, h4, h5⟩ := H.len
 exact ⟨Nat.le_trans h1 (by decide), Nat.le_trans h2 (by decide), Nat.le_trans h3 (by decide), Nat.le_trans h4 (by decide), Nat.le_trans h5 (by decide)⟩
theorem RowNew.base {α : Type} {w0 w1 w : World} {T : TypeId} {A : Option Addr} {C : Nat} {f : α → Nat → Value} {l : List α} (h : RowNew w1 w T A C f l) (hb : w0.heap.size ≤ w1.heap.size) : RowNew w0 w T A C f l := by
 rcases h with h | ⟨Br, cs, e, h1, h2, h3⟩
 ·exact .inl h
 ·exact .inr ⟨Br, cs, e, Nat.le_trans hb h1, h2, h3⟩
theorem RwsR.base {w0 w1 w : World} {l : Lst} {q : Ha} {n : Nat} (h : RwsR w1 w l q n) (hb : w0.heap.size ≤ w1.heap.size) : RwsR w0 w l q n :=
 ⟨h.m0.base hb, h.m1.base hb, h.w0.base hb, h.w1.base hb, h.ops.base hb, h.f0, h.f1, h.f2, h.f3, h.f4, h.len⟩
/-- the walk's three boxes -/
def w9 (w : World) (g : Nat) (st : ByteArray) (a : Nat) : World := ((w.alloc (.cells #[.string st, .int .i64 a] 103)).alloc (.cells #[.pointer none, .pointer (some ⟨g, 0, none⟩), .bool false, .bool false] 80)).alloc (.cells (hdV Hd.zero Ha.zero) 26)
/-- what lies there behind the walk -/
structure Gy (w wz w10 : World) (g gk gh : Nat) (st : ByteArray) (a a' : Nat) (bad many : Bool) (sq : Sp) (A : Option Addr) (c : Nat) (p : Pp) (h : Hd) (q : Ha) (gb : Nat) : Prop where
 k1 : Bk w10 w.heap.size 29 (spV sq A c)
 k2 : Bk w10 (w.heap.size + 1) 31 (ppV p)
 k3 : Bk w10 (w.heap.size + 1 + 1) 26 (hdV Hd.zero Ha.zero)
 kb : Bk w10 gb 103 #[.string st, .int .i64 a]
 kk : Bk w10 gk 80 #[.pointer none, .pointer (some ⟨g, 0, none⟩), .bool bad, .bool many]
 kh : Bk w10 gh 26 (hdV h q)
 sp : SpAt w10 g sq A
 r : RPost w g st a' w10
 ro : RwsR wz w10 h.ls q 5
 ne : g < w.heap.size ∧ w.heap.size + 1 + 1 < gb ∧ w.heap.size + 1 + 1 < gk ∧ w.heap.size + 1 + 1 < gh ∧ w.heap.size + 1 + 1 < wz.heap.size
theorem Gy.back {w wz w10 : World} {g gk gh : Nat} {st : ByteArray} {a a' : Nat} {bad many : Bool} {sq : Sp} {A : Option Addr} {c : Nat} {p : Pp} {h : Hd} {q : Ha} {gb : Nat} (H : Gy w wz w10 g gk gh st a a' bad many sq A c p h q gb) (E : Int) (e : Ending) (he : e = .returned (.tuple #[.agg (hdV Hd.zero Ha.zero), .int .i64 E])) :
  GetPost w g st (.zero, E, a) e (((w10.setCell ⟨g, 0, none⟩ (.string st)).setCell ⟨g, 1, none⟩ (.int .i64 a)).setRow (w.heap.size + 1 + 1) (hdV Hd.zero Ha.zero)) := by
 have hne := H.ne
 refine ⟨Ha.zero, he, ⟨bk_setRow_far ((H.r.1.set_ 0 (.string st)).set_ 1 (.int .i64 a)) (by omega), touch_setRow ((H.r.2.setCell (p := ⟨g, 0, none⟩) (fun _ => rfl) _).setCell (p := ⟨g, 1, none⟩) (fun _ => rfl) _) _ _ (by omega)⟩, RwsR.zero _ _ _⟩
theorem Gy.zero {w wz w10 : World} {g gk gh : Nat} {st : ByteArray} {a a' : Nat} {bad many : Bool} {sq : Sp} {A : Option Addr} {c : Nat} {p : Pp} {h : Hd} {q : Ha} {gb : Nat} (H : Gy w wz w10 g gk gh st a a' bad many sq A c p h q gb) : Bk ((w10.setCell ⟨g, 0, none⟩ (.string st)).setCell ⟨g, 1, none⟩ (.int .i64 a)) (w.heap.size + 1 + 1) 26 (hdV Hd.zero Ha.zero) := by
 have hne := H.ne
 exact (H.k3.far (p := ⟨g, 0, none⟩) (by show w.heap.size + 1 + 1 ≠ g; omega) _).far (p := ⟨g, 1, none⟩) (by show w.heap.size + 1 + 1 ≠ g; omega) _
theorem Gy.done {w wz w10 : World} {g gk gh : Nat} {st : ByteArray} {a a' : Nat} {bad many : Bool} {sq : Sp} {A : Option Addr} {c : Nat} {p : Pp} {h : Hd} {q : Ha} {gb : Nat} (H : Gy w wz w10 g gk gh st a a' bad many sq A c p h q gb) (e : Ending) (he : e = .returned (.tuple #[.agg (hdV h q), .int .i64 0])) :
  GetPost w g st (h, 0, a') e (w10.setRow (w.heap.size + 1 + 1) (hdV h q)) := by
 have hne := H.ne
 refine ⟨q, he, ⟨bk_setRow_far H.r.1 (by omega), touch_setRow H.r.2 _ _ (by omega)⟩, RwsR.base (RwsR.keep H.ro fun B T cs hB hb => bk_setRow_far hb (by omega)) (by omega)⟩
theorem Gy.go {w wz w10 w11 : World} {g gk gh : Nat} {st : ByteArray} {a a' : Nat} {bad many : Bool} {sq : Sp} {A : Option Addr} {c : Nat} {p : Pp} {h : Hd} {q : Ha} {gb : Nat} (H : Gy w wz w10 g gk gh st a a' bad many sq A c p h q gb) (hb : Below w10.heap.size w10 w11) : Gy w wz w11 g gk gh st a a' bad many sq A c p h q gb :=
 ⟨H.k1.go hb, H.k2.go hb, H.k3.go hb, H.kb.go hb, H.kk.go hb, H.kh.go hb, Rd.below H.sp hb (Nat.le_of_lt (Bk.lt H.r.1)), ⟨Bk.go H.r.1 hb, H.r.2.trans (Touch.of_new hb)⟩, RwsR.keep H.ro (fun B T cs _ h => h.go hb), H.ne⟩
set_option maxHeartbeats 1600000 in
theorem get_all {w wb : World} {g a a' : Nat} {st : ByteArray} {bad many : Bool} {sq : Sp} {A : Option Addr} {c : Nat} {p : Pp} {ref : Int} {key : Bool} (HX : Gx w wb g st a sq A c p) (hgl : g < w.heap.size) (hs : st.size ≤ 140737488351232) (ha : a ≤ 8 * st.size) (hk : (alS (sbit st) (8 * st.size) sq p ref key ⟨.rd a false false, Hd.zero⟩).k = .rd a' bad many) :
  Calls Tryz.prog 32 #[.pointer (some ⟨wb.heap.size + 1, 0, none⟩), .pointer (some ⟨wb.heap.size + 1 + 1, 0, none⟩), .agg (spV sq A c), .agg (ppV p), .int .i64 ref, .bool key] (w9 wb g st a) fun e w10 => e = .returned (.tuple #[]) ∧ ∃ q, Gy w (w9 wb g st a) w10 g (wb.heap.size + 1) (wb.heap.size + 1 + 1) st a a' bad many sq A c p (alS (sbit st) (8 * st.size) sq p ref key ⟨.rd a false false, Hd.zero⟩).h q wb.heap.size := by
 have hb1 : Below wb.heap.size wb (wb.alloc (.cells #[.string st, .int .i64 a] 103)) := (Below.refl _ _).alloc (Nat.le_refl _) _
 have hb2 := hb1.alloc hb1.size (.cells #[.pointer none, .pointer (some ⟨g, 0, none⟩), .bool false, .bool false] 80)
 have hb3 : Below wb.heap.size wb (w9 wb g st a) := hb2.alloc hb2.size (.cells (hdV Hd.zero Ha.zero) 26)
 have kb : Bk (w9 wb g st a) wb.heap.size 103 #[.string st, .int .i64 a] := ((Bk.new wb _ _).alloc _).alloc _
 have kk : Bk (w9 wb g st a) (wb.heap.size + 1) 80 #[.pointer none, .pointer (some ⟨g, 0, none⟩), .bool false, .bool false] := by
  have h := (Bk.new (wb.alloc (.cells #[.string st, .int .i64 a] 103)) 80 #[.pointer none, .pointer (some ⟨g, 0, none⟩), .bool false, .bool false]).alloc (.cells (hdV Hd.zero Ha.zero) 26)
  rwa [World.size_alloc] at h
 have kh : Bk (w9 wb g st a) (wb.heap.size + 1 + 1) 26 (hdV Hd.zero Ha.zero) := by
  have h := Bk.new ((wb.alloc (.cells #[.string st, .int .i64 a] 103)).alloc (.cells #[.pointer none, .pointer (some ⟨g, 0, none⟩), .bool false, .bool false] 80)) 26 (hdV Hd.zero Ha.zero)
  rwa [World.size_alloc, World.size_alloc] at h
 have h9 : (w9 wb g st a).heap.size = wb.heap.size + 1 + 1 + 1 := by simp [w9]
 have HY := HX.go hb3
 have hk3 := HX.k3.lt
 have hws : ∀ i, WS g (.bool false) i → i = g := fun i hi => by
  rcases hi with e | e
  ·exact e
  ·cases e
 have hat : WkAt (w9 wb g st a) 0 g (wb.heap.size + 1) st (.bool false) (.rd a false false) := ⟨kk, ⟨HY.r, rfl, ha⟩, fun e => by have := hws _ e; omega⟩
 have H0 : HwAt false (w9 wb g st a) (w9 wb g st a) 0 g (wb.heap.size + 1) (wb.heap.size + 1 + 1) st (.bool false) [(wb.heap.size, 103, #[.string st, .int .i64 a]), (w.heap.size + 1 + 1, 26, hdV Hd.zero Ha.zero), (w.heap.size, 29, spV sq A c), (w.heap.size + 1, 31, ppV p)] ⟨.rd a false false, Hd.zero⟩ Ha.zero 0 0 := by
  refine ⟨⟨.bool false, WkTo.refl _ hat, kh, ?_⟩, rfl, ?_, Nat.le_refl _, ⟨by omega, by omega, by omega⟩, ⟨fun e => by have := hws _ e; omega, by omega⟩, fun _ => rfl⟩
  ·intro x hx
   simp only [List.mem_cons, List.not_mem_nil, or_false] at hx
   rcases hx with rfl | rfl | rfl | rfl
   ·exact ⟨kb, fun e => by have := hws _ e; simp only at this; omega, by simp only; omega, by simp only; omega⟩
   ·exact ⟨HY.k3, fun e => by have := hws _ e; simp only at this; omega, by simp only; omega, by simp only; omega⟩
   ·exact ⟨HY.k1, fun e => by have := hws _ e; simp only at this; omega, by simp only; omega, by simp only; omega⟩
   ·exact ⟨HY.k2, fun e => by have := hws _ e; simp only at this; omega, by simp only; omega, by simp only; omega⟩
  ·exact RwsR.zero _ _ _
 refine (all_any sq A c p ref key H0 hs (by omega) ⟨by show (-4611686018427387904 : Int) ≤ 0; decide, by show (0 : Int) ≤ 4611686018427387904; decide⟩ ⟨⟨by show (0 : Int) ≤ 0; decide, by show (0 : Int) ≤ 2147483647; decide⟩, ⟨by show (0 : Int) ≤ 0; decide, by show (0 : Int) ≤ 2147483647; decide⟩⟩).mono ?_
 rintro e w10 ⟨he, q, hq⟩
 refine ⟨he, q, ?_⟩
 obtain ⟨v1, q1, q2, q3⟩ := hq.fld
 have hb := q1.at_.bk
 have hio := q1.at_.io
 rw [hk] at hb hio
 refine ⟨(q3 (w.heap.size, 29, spV sq A c) (by simp)).1, (q3 (w.heap.size + 1, 31, ppV p) (by simp)).1, (q3 (w.heap.size + 1 + 1, 26, hdV Hd.zero Ha.zero) (by simp)).1, (q3 (wb.heap.size, 103, #[.string st, .int .i64 a]) (by simp)).1, hb, q2, ?_, ⟨hio.1, ?_⟩, hq.rows, ⟨hgl, by omega, by omega, by omega, by omega⟩⟩
 ·refine Rd.keep HY.sp fun p hp => q1.touch.cell (by omega) ?_
  rintro (e | e | e)
  ·have := hws _ e; omega
  ·omega
  ·omega
 ·refine (Touch.of_new (HX.below.trans (hb3.mono HX.below.size))).old q1.touch fun i hi e => ?_
  have hsz := HX.below.size
  rcases e with e | e | e
  ·exact hws _ e
  ·omega
  ·omega
end Go.Proofs.YtjokibagciehlaaGreat

namespace Go.Proofs.YtjokibagciehlaaGreat
open Go.RowKit
set_option linter.unusedVariables false
set_option linter.unusedSimpArgs false

section
variable (f : Nat → Bool) (N : Nat)
theorem liS_isW (p : Pp) (t : Hw) : (liS f N p t).k.isW = t.k.isW := by
 have hA : ∀ t, (liA f N t).k.isW = t.k.isW := fun t => by unfold liA; split <;> first | exact isW_fx _ _ _ _ _ | rfl
 have hB : ∀ t, (liB f N t).k.isW = t.k.isW := fun t => by unfold liB; split <;> first | exact isW_ue _ _ _ _ | rfl
 have hC : ∀ t, (liC f N t).k.isW = t.k.isW := fun t => by unfold liC; split <;> first | exact isW_ue _ _ _ _ | rfl
 have hD : ∀ t, (liD t).k.isW = t.k.isW := fun t => isW_ck _ _
 have hE : ∀ t, (liE f N t).k.isW = t.k.isW := fun t => by unfold liE; split <;> first | exact rwM_isW _ _ _ _ (isW_md _ _) _ _ | rfl
 have hF : ∀ t, (liF f N t).k.isW = t.k.isW := fun t => by unfold liF; split <;> first | exact rwM_isW _ _ _ _ (isW_md _ _) _ _ | rfl
 have hW : ∀ t, (liW f N p t).k.isW = t.k.isW := fun t => by
  unfold liW
  split
  ·have h1 : ∀ t, (liG f N t).k.isW = t.k.isW := fun t => isW_ue _ _ _ _
   have h2 : ∀ t, (liH f N t).k.isW = t.k.isW := fun t => isW_ue _ _ _ _
   have h3 : ∀ t, (liI f N t).k.isW = t.k.isW := fun t => itM_isW _ (isW_wt _ _) _ _
   have h4 : ∀ t, (liJ f N t).k.isW = t.k.isW := fun t => itM_isW _ (isW_wt _ _) _ _
   rw [h4, h3, h2, h1]
  ·rfl
 unfold liS
 rw [hW, hF, hE, hD, hC, hB, hA]
theorem alS_isW (s : Sp) (p : Pp) (ref : Int) (key : Bool) (t : Hw) : (alS f N s p ref key t).k.isW = t.k.isW := by
 have hA : ∀ t, (alA f N t).k.isW = t.k.isW := fun t => isW_ue _ _ _ _
 have hB : ∀ t, (alB f N t).k.isW = t.k.isW := fun t => isW_ue _ _ _ _
 have hC : ∀ t, (alC f N t).k.isW = t.k.isW := fun t => isW_ue _ _ _ _
 have hD : ∀ t, (alD t).k.isW = t.k.isW := fun t => isW_ck _ _
 have hE : ∀ t, (alE f N s t).k.isW = t.k.isW := fun t => isW_fx _ _ _ _ _
 have hF : ∀ t, (alF f N key t).k.isW = t.k.isW := fun t => by unfold alF; split <;> first | exact isW_ue _ _ _ _ | rfl
 have hG : ∀ t, (alG f N s t).k.isW = t.k.isW := fun t => by unfold alG; split <;> first | exact isW_fx _ _ _ _ _ | rfl
 have hH : ∀ t, (alH f N ref key t).k.isW = t.k.isW := fun t => by
  unfold alH
  split
  ·split
   ·exact isW_fx _ _ _ _ _
   ·exact rwM_isW _ _ _ _ (isW_mo _ _) _ _
  ·rfl
 have hQ : ∀ t, (alQ f N t).k.isW = t.k.isW := fun t => isW_ue _ _ _ _
 have hI : ∀ t, (alI f N p t).k.isW = t.k.isW := fun t => by
  unfold alI
  split
  ·have hX : ∀ t, (alX f N t).k.isW = t.k.isW := fun t => isW_fx _ _ _ _ _
   unfold alV
   split
   ·exact hX t
   ·have hY : ∀ t, (alY f N t).k.isW = t.k.isW := fun t => isW_se _ _ _ _
    have hZ : ∀ t, (alZ f N t).k.isW = t.k.isW := fun t => isW_se _ _ _ _
    rw [hZ, hY, hX]
  ·rfl
 unfold alS al1
 rw [hI, hQ, hH, liS_isW, hG, hF, hE, hD, hC, hB, hA]
end
set_option maxRecDepth 100000 in
set_option maxHeartbeats 12800000 in
theorem get_badF {w : World} {g a a' : Nat} {st : ByteArray} {many : Bool} (sq : Sp) (A : Option Addr) (c : Nat) (p : Pp) (ref : Int) (key : Bool) (hr : Rr w g st a) (hs : st.size ≤ 140737488351232) (ha : a ≤ 8 * st.size) (hsp : SpAt w g sq A) (hn : sq.cy.length ≤ 1152921504606846976) (hms : maySp sq = true) (hmp : mayPp p = true) (hi3 : inR 0 3 ref = true)
  (hk : (alS (sbit st) (8 * st.size) sq p ref key ⟨.rd a false false, Hd.zero⟩).k = .rd a' true many) :
  Calls Tryz.prog 23 #[.pointer (some ⟨g, 0, none⟩), .agg (spV sq A c), .agg (ppV p), .int .i64 ref, .bool key] w fun e w' => GetPost w g st (.zero, 400, a) e w' := by
 have HX := Lib.hid (Gx.new w g st a sq A c p hsp hr)
 have D1 : Hid (∀ w, SpAt w w.heap.size sq A → Calls Tryz.prog 40 #[.agg (spV sq A c)] w fun e w' => e = .returned (.bool true) ∧ Below w.heap.size w w') := Lib.hid (fun w hs => hms ▸ maysp_any sq A c w hs hn)
 have D2 : Hid (∀ w, Calls Tryz.prog 41 #[.agg (ppV p)] w fun e w' => e = .returned (.bool true) ∧ Below w.heap.size w w') := Lib.hid (fun w => hmp ▸ maypp_any p w)
 have D3 : Hid (∀ w, Calls Tryz.prog 42 #[.int .i64 ref, .int .i64 0, .int .i64 3] w fun e w' => e = .returned (.bool true) ∧ w = w') := Lib.hid (fun w => hi3 ▸ hin_any ref 0 3 w)
 have hgl : g < w.heap.size := Bk.lt hr
 obtain ⟨h, hh⟩ : ∃ h, (alS (sbit st) (8 * st.size) sq p ref key ⟨.rd a false false, Hd.zero⟩).h = h := ⟨_, rfl⟩
 have HC : Hid (∀ wb, Gx w wb g st a sq A c p → Calls Tryz.prog 32 #[.pointer (some ⟨wb.heap.size + 1, 0, none⟩), .pointer (some ⟨wb.heap.size + 1 + 1, 0, none⟩), .agg #[.int .i64 sq.wide, .int .i64 sq.high, .int .i64 sq.fb, .int .i64 sq.pt, .int .i64 sq.pb, .int .i64 sq.nr, .slice A sq.cy.length c, .int .i64 sq.refs, .int .i64 sq.delay], .agg #[.bool p.cabac, .bool p.weighted, .int .i64 p.bipred, .int .i64 p.qp, .int .i64 p.cqp, .bool p.con, .bool p.deb, .int .i64 p.a0, .int .i64 p.a1], .int .i64 ref, .bool key] (w9 wb g st a) fun e w10 => e = .returned (.tuple #[]) ∧ ∃ q, Gy w (w9 wb g st a) w10 g (wb.heap.size + 1) (wb.heap.size + 1 + 1) st a a' true many sq A c p h q wb.heap.size) := Lib.hid (fun wb HX => hh ▸ get_all HX hgl hs ha hk)
 have HW9 : Hid (∀ wb, w9 wb g st a = ((wb.alloc (.cells #[.string st, .int .i64 a] 103)).alloc (.cells #[.pointer none, .pointer (some ⟨g, 0, none⟩), .bool false, .bool false] 80)).alloc (.cells (hdV Hd.zero Ha.zero) 26)) := Lib.hid (fun wb => rfl)
 clear hms hmp hi3 hsp hr hs ha hn hk hh
 obtain ⟨w3, hw3⟩ : ∃ w3, w3 = (((w.alloc (.cells (spV sq A c) 29)).alloc (.cells (ppV p) 31)).alloc (.cells (hdV Hd.zero Ha.zero) 26)) := ⟨_, rfl⟩
 rw [← hw3] at HX
 simp only [spV, ppV, hdV, Hd.zero, Ha.zero, List.length_nil] at hw3 HW9
 simp only [spV, ppV] at D1 D2 ⊢
 have s0 := HX.out.k1.cell 0
 have s1 := HX.out.k1.cell 1
 have s2 := HX.out.k1.cell 2
 have s3 := HX.out.k1.cell 3
 have s4 := HX.out.k1.cell 4
 have s5 := HX.out.k1.cell 5
 have s6 := HX.out.k1.cell 6
 have s7 := HX.out.k1.cell 7
 have s8 := HX.out.k1.cell 8
 have g0 := HX.out.k2.cell 0
 have g1 := HX.out.k2.cell 1
 have g2 := HX.out.k2.cell 2
 have g3 := HX.out.k2.cell 3
 have g4 := HX.out.k2.cell 4
 have g5 := HX.out.k2.cell 5
 have g6 := HX.out.k2.cell 6
 have g7 := HX.out.k2.cell 7
 have g8 := HX.out.k2.cell 8
 simp [spV] at s0 s1 s2 s3 s4 s5 s6 s7 s8
 simp [ppV] at g0 g1 g2 g3 g4 g5 g6 g7 g8
 have hl1 := HX.out.k1.lt
 have hl2 := HX.out.k2.lt
 go_enter Tryz.func23, Tryz.ntmps23
 go_upto_region 3 with fail
 rw [show (((w.alloc (.cells #[.int .i64 sq.wide, .int .i64 sq.high, .int .i64 sq.fb, .int .i64 sq.pt, .int .i64 sq.pb, .int .i64 sq.nr, .slice A sq.cy.length c, .int .i64 sq.refs, .int .i64 sq.delay] 29)).alloc (.cells #[.bool p.cabac, .bool p.weighted, .int .i64 p.bipred, .int .i64 p.qp, .int .i64 p.cqp, .bool p.con, .bool p.deb, .int .i64 p.a0, .int .i64 p.a1] 31)).alloc (.cells _ 26)) = w3 from hw3.symm]
 clear hw3
 go_wp2_with fail
 refine (D1.out _ (Rd.more HX.out.sp (Nat.le_of_lt (Bk.lt HX.out.r)))).mono ?_
 rintro e wa ⟨rfl, hb⟩
 replace HX := Lib.hid (HX.out.go hb)
 clear hb hl1 hl2
 clear s0 s1 s2 s3 s4 s5 s6 s7 s8 g0 g1 g2 g3 g4 g5 g6 g7 g8
 have g0 := HX.out.k2.cell 0
 have g1 := HX.out.k2.cell 1
 have g2 := HX.out.k2.cell 2
 have g3 := HX.out.k2.cell 3
 have g4 := HX.out.k2.cell 4
 have g5 := HX.out.k2.cell 5
 have g6 := HX.out.k2.cell 6
 have g7 := HX.out.k2.cell 7
 have g8 := HX.out.k2.cell 8
 simp [ppV] at g0 g1 g2 g3 g4 g5 g6 g7 g8
 have hl2 := HX.out.k2.lt
 go_wp2_with fail
 refine (D2.out _).mono ?_
 rintro e wb ⟨rfl, hb⟩
 replace HX := Lib.hid (HX.out.go hb)
 clear hb hl2
 clear g0 g1 g2 g3 g4 g5 g6 g7 g8
 go_wp2_with fail
 refine (D3.out _).mono ?_
 rintro e wc ⟨rfl, rfl⟩
 have r0 := HX.out.r.s
 have r1 := HX.out.r.a
 go_upto_region 8 with fail
 rw [← HW9.out wb]
 clear r0 r1 HW9
 have HB9 : Hid (Below wb.heap.size wb (w9 wb g st a)) := Lib.hid (((((Below.refl wb.heap.size wb).alloc (Nat.le_refl _) (.cells #[.string st, .int .i64 a] 103)).alloc (by simp) (.cells #[.pointer none, .pointer (some ⟨g, 0, none⟩), .bool false, .bool false] 80))).alloc (by simp; omega) (.cells (hdV Hd.zero Ha.zero) 26))
 have HX9 := Lib.hid (HX.out.go HB9.out)
 have s0 := HX9.out.k1.cell 0
 have s1 := HX9.out.k1.cell 1
 have s2 := HX9.out.k1.cell 2
 have s3 := HX9.out.k1.cell 3
 have s4 := HX9.out.k1.cell 4
 have s5 := HX9.out.k1.cell 5
 have s6 := HX9.out.k1.cell 6
 have s7 := HX9.out.k1.cell 7
 have s8 := HX9.out.k1.cell 8
 have g0 := HX9.out.k2.cell 0
 have g1 := HX9.out.k2.cell 1
 have g2 := HX9.out.k2.cell 2
 have g3 := HX9.out.k2.cell 3
 have g4 := HX9.out.k2.cell 4
 have g5 := HX9.out.k2.cell 5
 have g6 := HX9.out.k2.cell 6
 have g7 := HX9.out.k2.cell 7
 have g8 := HX9.out.k2.cell 8
 simp [spV] at s0 s1 s2 s3 s4 s5 s6 s7 s8
 simp [ppV] at g0 g1 g2 g3 g4 g5 g6 g7 g8
 go_wp2_with fail
 refine (HC.out wb HX.out).mono ?_
 rintro e w10 ⟨rfl, q, hq⟩
 have HY := Lib.hid hq
 clear hq HX HX9 HB9 HC
 clear s0 s1 s2 s3 s4 s5 s6 s7 s8 g0 g1 g2 g3 g4 g5 g6 g7 g8
 have m2 := HY.out.kk.cell 2
 simp at m2
 have b0 := HY.out.kb.cell 0
 have b1 := HY.out.kb.cell 1
 simp at b0 b1
 have r0 := HY.out.r.1.s
 have r1 := HY.out.r.1.a
 have f0 := Bk.frozen HY.out.r.1 0
 have f1 := Bk.frozen HY.out.r.1 1
 have hng : ¬ wb.heap.size = g := by have := HY.out.ne; omega
 have hgn : ¬ g = wb.heap.size := fun e => hng e.symm
 go_upto_region 11 with fail
 clear b0 b1 r0 r1 f0 f1
 refine wp_region_lit ?_
 refine wpList_built0 rfl _ rfl _ built_head ?_
 refine wpList_store_row rfl _ _ _ rfl (w.heap.size + 1 + 1) (hdV Hd.zero Ha.zero) rfl rfl _ _ HY.out.zero (by kernel_rfl) rfl (hd_one _ _) ?_
 go_wp2_with fail
 exact bodyPost_ret (get_results _ _ (w.heap.size + 1 + 1) 26 (hdV Hd.zero Ha.zero) 400 rfl rfl (bk_setRow HY.out.zero) rfl) rfl (HY.out.back 400 _ rfl)
set_option maxRecDepth 100000 in
set_option maxHeartbeats 12800000 in
theorem get_manyF {w : World} {g a a' : Nat} {st : ByteArray} {many : Bool} (sq : Sp) (A : Option Addr) (c : Nat) (p : Pp) (ref : Int) (key : Bool) (hr : Rr w g st a) (hs : st.size ≤ 140737488351232) (ha : a ≤ 8 * st.size) (hsp : SpAt w g sq A) (hn : sq.cy.length ≤ 1152921504606846976) (hms : maySp sq = true) (hmp : mayPp p = true) (hi3 : inR 0 3 ref = true)
  (hk : (alS (sbit st) (8 * st.size) sq p ref key ⟨.rd a false false, Hd.zero⟩).k = .rd a' false true) :
  Calls Tryz.prog 23 #[.pointer (some ⟨g, 0, none⟩), .agg (spV sq A c), .agg (ppV p), .int .i64 ref, .bool key] w fun e w' => GetPost w g st (.zero, 401, a) e w' := by
 have HX := Lib.hid (Gx.new w g st a sq A c p hsp hr)
 have D1 : Hid (∀ w, SpAt w w.heap.size sq A → Calls Tryz.prog 40 #[.agg (spV sq A c)] w fun e w' => e = .returned (.bool true) ∧ Below w.heap.size w w') := Lib.hid (fun w hs => hms ▸ maysp_any sq A c w hs hn)
 have D2 : Hid (∀ w, Calls Tryz.prog 41 #[.agg (ppV p)] w fun e w' => e = .returned (.bool true) ∧ Below w.heap.size w w') := Lib.hid (fun w => hmp ▸ maypp_any p w)
 have D3 : Hid (∀ w, Calls Tryz.prog 42 #[.int .i64 ref, .int .i64 0, .int .i64 3] w fun e w' => e = .returned (.bool true) ∧ w = w') := Lib.hid (fun w => hi3 ▸ hin_any ref 0 3 w)
 have hgl : g < w.heap.size := Bk.lt hr
 obtain ⟨h, hh⟩ : ∃ h, (alS (sbit st) (8 * st.size) sq p ref key ⟨.rd a false false, Hd.zero⟩).h = h := ⟨_, rfl⟩
 have HC : Hid (∀ wb, Gx w wb g st a sq A c p → Calls Tryz.prog 32 #[.pointer (some ⟨wb.heap.size + 1, 0, none⟩), .pointer (some ⟨wb.heap.size + 1 + 1, 0, none⟩), .agg #[.int .i64 sq.wide, .int .i64 sq.high, .int .i64 sq.fb, .int .i64 sq.pt, .int .i64 sq.pb, .int .i64 sq.nr, .slice A sq.cy.length c, .int .i64 sq.refs, .int .i64 sq.delay], .agg #[.bool p.cabac, .bool p.weighted, .int .i64 p.bipred, .int .i64 p.qp, .int .i64 p.cqp, .bool p.con, .bool p.deb, .int .i64 p.a0, .int .i64 p.a1], .int .i64 ref, .bool key] (w9 wb g st a) fun e w10 => e = .returned (.tuple #[]) ∧ ∃ q, Gy w (w9 wb g st a) w10 g (wb.heap.size + 1) (wb.heap.size + 1 + 1) st a a' false true sq A c p h q wb.heap.size) := Lib.hid (fun wb HX => hh ▸ get_all HX hgl hs ha hk)
 have HW9 : Hid (∀ wb, w9 wb g st a = ((wb.alloc (.cells #[.string st, .int .i64 a] 103)).alloc (.cells #[.pointer none, .pointer (some ⟨g, 0, none⟩), .bool false, .bool false] 80)).alloc (.cells (hdV Hd.zero Ha.zero) 26)) := Lib.hid (fun wb => rfl)
 clear hms hmp hi3 hsp hr hs ha hn hk hh
 obtain ⟨w3, hw3⟩ : ∃ w3, w3 = (((w.alloc (.cells (spV sq A c) 29)).alloc (.cells (ppV p) 31)).alloc (.cells (hdV Hd.zero Ha.zero) 26)) := ⟨_, rfl⟩
 rw [← hw3] at HX
 simp only [spV, ppV, hdV, Hd.zero, Ha.zero, List.length_nil] at hw3 HW9
 simp only [spV, ppV] at D1 D2 ⊢
 have s0 := HX.out.k1.cell 0
 have s1 := HX.out.k1.cell 1
 have s2 := HX.out.k1.cell 2
 have s3 := HX.out.k1.cell 3
 have s4 := HX.out.k1.cell 4
 have s5 := HX.out.k1.cell 5
 have s6 := HX.out.k1.cell 6
 have s7 := HX.out.k1.cell 7
 have s8 := HX.out.k1.cell 8
 have g0 := HX.out.k2.cell 0
 have g1 := HX.out.k2.cell 1
 have g2 := HX.out.k2.cell 2
 have g3 := HX.out.k2.cell 3
 have g4 := HX.out.k2.cell 4
 have g5 := HX.out.k2.cell 5
 have g6 := HX.out.k2.cell 6
 have g7 := HX.out.k2.cell 7
 have g8 := HX.out.k2.cell 8
 simp [spV] at s0 s1 s2 s3 s4 s5 s6 s7 s8
 simp [ppV] at g0 g1 g2 g3 g4 g5 g6 g7 g8
 have hl1 := HX.out.k1.lt
 have hl2 := HX.out.k2.lt
 go_enter Tryz.func23, Tryz.ntmps23
 go_upto_region 3 with fail
 rw [show (((w.alloc (.cells #[.int .i64 sq.wide, .int .i64 sq.high, .int .i64 sq.fb, .int .i64 sq.pt, .int .i64 sq.pb, .int .i64 sq.nr, .slice A sq.cy.length c, .int .i64 sq.refs, .int .i64 sq.delay] 29)).alloc (.cells #[.bool p.cabac, .bool p.weighted, .int .i64 p.bipred, .int .i64 p.qp, .int .i64 p.cqp, .bool p.con, .bool p.deb, .int .i64 p.a0, .int .i64 p.a1] 31)).alloc (.cells _ 26)) = w3 from hw3.symm]
 clear hw3
 go_wp2_with fail
 refine (D1.out _ (Rd.more HX.out.sp (Nat.le_of_lt (Bk.lt HX.out.r)))).mono ?_
 rintro e wa ⟨rfl, hb⟩
 replace HX := Lib.hid (HX.out.go hb)
 clear hb hl1 hl2
 clear s0 s1 s2 s3 s4 s5 s6 s7 s8 g0 g1 g2 g3 g4 g5 g6 g7 g8
 have g0 := HX.out.k2.cell 0
 have g1 := HX.out.k2.cell 1
 have g2 := HX.out.k2.cell 2
 have g3 := HX.out.k2.cell 3
 have g4 := HX.out.k2.cell 4
 have g5 := HX.out.k2.cell 5
 have g6 := HX.out.k2.cell 6
 have g7 := HX.out.k2.cell 7
 have g8 := HX.out.k2.cell 8
 simp [ppV] at g0 g1 g2 g3 g4 g5 g6 g7 g8
 have hl2 := HX.out.k2.lt
 go_wp2_with fail
 refine (D2.out _).mono ?_
 rintro e wb ⟨rfl, hb⟩
 replace HX := Lib.hid (HX.out.go hb)
 clear hb hl2
 clear g0 g1 g2 g3 g4 g5 g6 g7 g8
 go_wp2_with fail
 refine (D3.out _).mono ?_
 rintro e wc ⟨rfl, rfl⟩
 have r0 := HX.out.r.s
 have r1 := HX.out.r.a
 go_upto_region 8 with fail
 rw [← HW9.out wb]
 clear r0 r1 HW9
 have HB9 : Hid (Below wb.heap.size wb (w9 wb g st a)) := Lib.hid (((((Below.refl wb.heap.size wb).alloc (Nat.le_refl _) (.cells #[.string st, .int .i64 a] 103)).alloc (by simp) (.cells #[.pointer none, .pointer (some ⟨g, 0, none⟩), .bool false, .bool false] 80))).alloc (by simp; omega) (.cells (hdV Hd.zero Ha.zero) 26))
 have HX9 := Lib.hid (HX.out.go HB9.out)
 have s0 := HX9.out.k1.cell 0
 have s1 := HX9.out.k1.cell 1
 have s2 := HX9.out.k1.cell 2
 have s3 := HX9.out.k1.cell 3
 have s4 := HX9.out.k1.cell 4
 have s5 := HX9.out.k1.cell 5
 have s6 := HX9.out.k1.cell 6
 have s7 := HX9.out.k1.cell 7
 have s8 := HX9.out.k1.cell 8
 have g0 := HX9.out.k2.cell 0
 have g1 := HX9.out.k2.cell 1
 have g2 := HX9.out.k2.cell 2
 have g3 := HX9.out.k2.cell 3
 have g4 := HX9.out.k2.cell 4
 have g5 := HX9.out.k2.cell 5
 have g6 := HX9.out.k2.cell 6
 have g7 := HX9.out.k2.cell 7
 have g8 := HX9.out.k2.cell 8
 simp [spV] at s0 s1 s2 s3 s4 s5 s6 s7 s8
 simp [ppV] at g0 g1 g2 g3 g4 g5 g6 g7 g8
 go_wp2_with fail
 refine (HC.out wb HX.out).mono ?_
 rintro e w10 ⟨rfl, q, hq⟩
 have HY := Lib.hid hq
 clear hq HX HX9 HB9 HC
 clear s0 s1 s2 s3 s4 s5 s6 s7 s8 g0 g1 g2 g3 g4 g5 g6 g7 g8
 have m2 := HY.out.kk.cell 2
 have m3 := HY.out.kk.cell 3
 simp at m2 m3
 have b0 := HY.out.kb.cell 0
 have b1 := HY.out.kb.cell 1
 simp at b0 b1
 have r0 := HY.out.r.1.s
 have r1 := HY.out.r.1.a
 have f0 := Bk.frozen HY.out.r.1 0
 have f1 := Bk.frozen HY.out.r.1 1
 have hng : ¬ wb.heap.size = g := by have := HY.out.ne; omega
 have hgn : ¬ g = wb.heap.size := fun e => hng e.symm
 go_upto_region 14 with fail
 clear b0 b1 r0 r1 f0 f1
 refine wp_region_lit ?_
 refine wpList_built0 rfl _ rfl _ built_head ?_
 refine wpList_store_row rfl _ _ _ rfl (w.heap.size + 1 + 1) (hdV Hd.zero Ha.zero) rfl rfl _ _ HY.out.zero (by kernel_rfl) rfl (hd_one _ _) ?_
 go_wp2_with fail
 exact bodyPost_ret (get_results _ _ (w.heap.size + 1 + 1) 26 (hdV Hd.zero Ha.zero) 401 rfl rfl (bk_setRow HY.out.zero) rfl) rfl (HY.out.back 401 _ rfl)
set_option maxRecDepth 100000 in
set_option maxHeartbeats 12800000 in
theorem get_noF {w : World} {g a a' : Nat} {st : ByteArray} {many : Bool} (sq : Sp) (A : Option Addr) (c : Nat) (p : Pp) (ref : Int) (key : Bool) (hr : Rr w g st a) (hs : st.size ≤ 140737488351232) (ha : a ≤ 8 * st.size) (hsp : SpAt w g sq A) (hn : sq.cy.length ≤ 1152921504606846976) (hms : maySp sq = true) (hmp : mayPp p = true) (hi3 : inR 0 3 ref = true)
  (hk : (alS (sbit st) (8 * st.size) sq p ref key ⟨.rd a false false, Hd.zero⟩).k = .rd a' false false) (hm : mayHd (alS (sbit st) (8 * st.size) sq p ref key ⟨.rd a false false, Hd.zero⟩).h sq p ref key = false) :
  Calls Tryz.prog 23 #[.pointer (some ⟨g, 0, none⟩), .agg (spV sq A c), .agg (ppV p), .int .i64 ref, .bool key] w fun e w' => GetPost w g st (.zero, 401, a) e w' := by
 have HX := Lib.hid (Gx.new w g st a sq A c p hsp hr)
 have D1 : Hid (∀ w, SpAt w w.heap.size sq A → Calls Tryz.prog 40 #[.agg (spV sq A c)] w fun e w' => e = .returned (.bool true) ∧ Below w.heap.size w w') := Lib.hid (fun w hs => hms ▸ maysp_any sq A c w hs hn)
 have D2 : Hid (∀ w, Calls Tryz.prog 41 #[.agg (ppV p)] w fun e w' => e = .returned (.bool true) ∧ Below w.heap.size w w') := Lib.hid (fun w => hmp ▸ maypp_any p w)
 have D3 : Hid (∀ w, Calls Tryz.prog 42 #[.int .i64 ref, .int .i64 0, .int .i64 3] w fun e w' => e = .returned (.bool true) ∧ w = w') := Lib.hid (fun w => hi3 ▸ hin_any ref 0 3 w)
 have hgl : g < w.heap.size := Bk.lt hr
 obtain ⟨h, hh⟩ : ∃ h, (alS (sbit st) (8 * st.size) sq p ref key ⟨.rd a false false, Hd.zero⟩).h = h := ⟨_, rfl⟩
 have HC : Hid (∀ wb, Gx w wb g st a sq A c p → Calls Tryz.prog 32 #[.pointer (some ⟨wb.heap.size + 1, 0, none⟩), .pointer (some ⟨wb.heap.size + 1 + 1, 0, none⟩), .agg #[.int .i64 sq.wide, .int .i64 sq.high, .int .i64 sq.fb, .int .i64 sq.pt, .int .i64 sq.pb, .int .i64 sq.nr, .slice A sq.cy.length c, .int .i64 sq.refs, .int .i64 sq.delay], .agg #[.bool p.cabac, .bool p.weighted, .int .i64 p.bipred, .int .i64 p.qp, .int .i64 p.cqp, .bool p.con, .bool p.deb, .int .i64 p.a0, .int .i64 p.a1], .int .i64 ref, .bool key] (w9 wb g st a) fun e w10 => e = .returned (.tuple #[]) ∧ ∃ q, Gy w (w9 wb g st a) w10 g (wb.heap.size + 1) (wb.heap.size + 1 + 1) st a a' false false sq A c p h q wb.heap.size) := Lib.hid (fun wb HX => hh ▸ get_all HX hgl hs ha hk)
 have HW9 : Hid (∀ wb, w9 wb g st a = ((wb.alloc (.cells #[.string st, .int .i64 a] 103)).alloc (.cells #[.pointer none, .pointer (some ⟨g, 0, none⟩), .bool false, .bool false] 80)).alloc (.cells (hdV Hd.zero Ha.zero) 26)) := Lib.hid (fun wb => rfl)
 rw [hh] at hm
 have HM : Hid (∀ q w, HdAt w w.heap.size h q → HdLen h → SpAt w w.heap.size sq A → Calls Tryz.prog 11 #[.agg (hdV h q), .agg (spV sq A c), .agg (ppV p), .int .i64 ref, .bool key] w fun e w' => e = .returned (.bool false) ∧ Below w.heap.size w w') := Lib.hid (fun q w h1 h2 h3 => hm ▸ mayhd_any h q sq A c p ref key w h1 h2 h3 hn)
 clear hm
 clear hms hmp hi3 hsp hr hs ha hn hk hh
 obtain ⟨w3, hw3⟩ : ∃ w3, w3 = (((w.alloc (.cells (spV sq A c) 29)).alloc (.cells (ppV p) 31)).alloc (.cells (hdV Hd.zero Ha.zero) 26)) := ⟨_, rfl⟩
 rw [← hw3] at HX
 simp only [spV, ppV, hdV, Hd.zero, Ha.zero, List.length_nil] at hw3 HW9
 simp only [spV, ppV] at D1 D2 ⊢
 have s0 := HX.out.k1.cell 0
 have s1 := HX.out.k1.cell 1
 have s2 := HX.out.k1.cell 2
 have s3 := HX.out.k1.cell 3
 have s4 := HX.out.k1.cell 4
 have s5 := HX.out.k1.cell 5
 have s6 := HX.out.k1.cell 6
 have s7 := HX.out.k1.cell 7
 have s8 := HX.out.k1.cell 8
 have g0 := HX.out.k2.cell 0
 have g1 := HX.out.k2.cell 1
 have g2 := HX.out.k2.cell 2
 have g3 := HX.out.k2.cell 3
 have g4 := HX.out.k2.cell 4
 have g5 := HX.out.k2.cell 5
 have g6 := HX.out.k2.cell 6
 have g7 := HX.out.k2.cell 7
 have g8 := HX.out.k2.cell 8
 simp [spV] at s0 s1 s2 s3 s4 s5 s6 s7 s8
 simp [ppV] at g0 g1 g2 g3 g4 g5 g6 g7 g8
 have hl1 := HX.out.k1.lt
 have hl2 := HX.out.k2.lt
 go_enter Tryz.func23, Tryz.ntmps23
 go_upto_region 3 with fail
 rw [show (((w.alloc (.cells #[.int .i64 sq.wide, .int .i64 sq.high, .int .i64 sq.fb, .int .i64 sq.pt, .int .i64 sq.pb, .int .i64 sq.nr, .slice A sq.cy.length c, .int .i64 sq.refs, .int .i64 sq.delay] 29)).alloc (.cells #[.bool p.cabac, .bool p.weighted, .int .i64 p.bipred, .int .i64 p.qp, .int .i64 p.cqp, .bool p.con, .bool p.deb, .int .i64 p.a0, .int .i64 p.a1] 31)).alloc (.cells _ 26)) = w3 from hw3.symm]
 clear hw3
 go_wp2_with fail
 refine (D1.out _ (Rd.more HX.out.sp (Nat.le_of_lt (Bk.lt HX.out.r)))).mono ?_
 rintro e wa ⟨rfl, hb⟩
 replace HX := Lib.hid (HX.out.go hb)
 clear hb hl1 hl2
 clear s0 s1 s2 s3 s4 s5 s6 s7 s8 g0 g1 g2 g3 g4 g5 g6 g7 g8
 have g0 := HX.out.k2.cell 0
 have g1 := HX.out.k2.cell 1
 have g2 := HX.out.k2.cell 2
 have g3 := HX.out.k2.cell 3
 have g4 := HX.out.k2.cell 4
 have g5 := HX.out.k2.cell 5
 have g6 := HX.out.k2.cell 6
 have g7 := HX.out.k2.cell 7
 have g8 := HX.out.k2.cell 8
 simp [ppV] at g0 g1 g2 g3 g4 g5 g6 g7 g8
 have hl2 := HX.out.k2.lt
 go_wp2_with fail
 refine (D2.out _).mono ?_
 rintro e wb ⟨rfl, hb⟩
 replace HX := Lib.hid (HX.out.go hb)
 clear hb hl2
 clear g0 g1 g2 g3 g4 g5 g6 g7 g8
 go_wp2_with fail
 refine (D3.out _).mono ?_
 rintro e wc ⟨rfl, rfl⟩
 have r0 := HX.out.r.s
 have r1 := HX.out.r.a
 go_upto_region 8 with fail
 rw [← HW9.out wb]
 clear r0 r1 HW9
 have HB9 : Hid (Below wb.heap.size wb (w9 wb g st a)) := Lib.hid (((((Below.refl wb.heap.size wb).alloc (Nat.le_refl _) (.cells #[.string st, .int .i64 a] 103)).alloc (by simp) (.cells #[.pointer none, .pointer (some ⟨g, 0, none⟩), .bool false, .bool false] 80))).alloc (by simp; omega) (.cells (hdV Hd.zero Ha.zero) 26))
 have HX9 := Lib.hid (HX.out.go HB9.out)
 have s0 := HX9.out.k1.cell 0
 have s1 := HX9.out.k1.cell 1
 have s2 := HX9.out.k1.cell 2
 have s3 := HX9.out.k1.cell 3
 have s4 := HX9.out.k1.cell 4
 have s5 := HX9.out.k1.cell 5
 have s6 := HX9.out.k1.cell 6
 have s7 := HX9.out.k1.cell 7
 have s8 := HX9.out.k1.cell 8
 have g0 := HX9.out.k2.cell 0
 have g1 := HX9.out.k2.cell 1
 have g2 := HX9.out.k2.cell 2
 have g3 := HX9.out.k2.cell 3
 have g4 := HX9.out.k2.cell 4
 have g5 := HX9.out.k2.cell 5
 have g6 := HX9.out.k2.cell 6
 have g7 := HX9.out.k2.cell 7
 have g8 := HX9.out.k2.cell 8
 simp [spV] at s0 s1 s2 s3 s4 s5 s6 s7 s8
 simp [ppV] at g0 g1 g2 g3 g4 g5 g6 g7 g8
 go_wp2_with fail
 refine (HC.out wb HX.out).mono ?_
 rintro e w10 ⟨rfl, q, hq⟩
 have HY := Lib.hid hq
 clear hq HX HX9 HB9 HC
 clear s0 s1 s2 s3 s4 s5 s6 s7 s8 g0 g1 g2 g3 g4 g5 g6 g7 g8
 have m2 := HY.out.kk.cell 2
 have m3 := HY.out.kk.cell 3
 simp at m2 m3
 go_upto_region 12 with fail
 clear m2
 go_wp2_with (first | (refine wpList_load_rowG (by rfl) _ _ rfl (wb.heap.size + 1 + 1) rfl _ _ (0, 0) _ HY.out.kh Tryz.underlying26 rfl (by kernel_rfl) ?_) | (refine wpList_load_rowG (by rfl) _ _ rfl w.heap.size rfl _ _ (0, 0) _ HY.out.k1 Tryz.underlying29 rfl (by kernel_rfl) ?_) | (refine wpList_load_rowG (by rfl) _ _ rfl (w.heap.size + 1) rfl _ _ (0, 0) _ HY.out.k2 Tryz.underlying31 rfl (by kernel_rfl) ?_))
 refine (HM.out q w10 HY.out.ro.hd HY.out.ro.lens (Rd.more HY.out.sp (Nat.le_of_lt (Bk.lt HY.out.r.1)))).mono ?_
 rintro e w11 ⟨rfl, hb⟩
 replace HY := Lib.hid (HY.out.go hb)
 clear hb m3 HM
 have b0 := HY.out.kb.cell 0
 have b1 := HY.out.kb.cell 1
 simp at b0 b1
 have r0 := HY.out.r.1.s
 have r1 := HY.out.r.1.a
 have f0 := Bk.frozen HY.out.r.1 0
 have f1 := Bk.frozen HY.out.r.1 1
 have hng : ¬ wb.heap.size = g := by have := HY.out.ne; omega
 have hgn : ¬ g = wb.heap.size := fun e => hng e.symm
 go_upto_region 14 with fail
 clear b0 b1 r0 r1 f0 f1
 refine wp_region_lit ?_
 refine wpList_built0 rfl _ rfl _ built_head ?_
 refine wpList_store_row rfl _ _ _ rfl (w.heap.size + 1 + 1) (hdV Hd.zero Ha.zero) rfl rfl _ _ HY.out.zero (by kernel_rfl) rfl (hd_one _ _) ?_
 go_wp2_with fail
 exact bodyPost_ret (get_results _ _ (w.heap.size + 1 + 1) 26 (hdV Hd.zero Ha.zero) 401 rfl rfl (bk_setRow HY.out.zero) rfl) rfl (HY.out.back 401 _ rfl)
set_option maxRecDepth 100000 in
set_option maxHeartbeats 12800000 in
theorem get_yesF {w : World} {g a a' : Nat} {st : ByteArray} {many : Bool} (sq : Sp) (A : Option Addr) (c : Nat) (p : Pp) (ref : Int) (key : Bool) (hr : Rr w g st a) (hs : st.size ≤ 140737488351232) (ha : a ≤ 8 * st.size) (hsp : SpAt w g sq A) (hn : sq.cy.length ≤ 1152921504606846976) (hms : maySp sq = true) (hmp : mayPp p = true) (hi3 : inR 0 3 ref = true)
  (hk : (alS (sbit st) (8 * st.size) sq p ref key ⟨.rd a false false, Hd.zero⟩).k = .rd a' false false) (hm : mayHd (alS (sbit st) (8 * st.size) sq p ref key ⟨.rd a false false, Hd.zero⟩).h sq p ref key = true) :
  Calls Tryz.prog 23 #[.pointer (some ⟨g, 0, none⟩), .agg (spV sq A c), .agg (ppV p), .int .i64 ref, .bool key] w fun e w' => GetPost w g st ((alS (sbit st) (8 * st.size) sq p ref key ⟨.rd a false false, Hd.zero⟩).h, 0, a') e w' := by
 have HX := Lib.hid (Gx.new w g st a sq A c p hsp hr)
 have D1 : Hid (∀ w, SpAt w w.heap.size sq A → Calls Tryz.prog 40 #[.agg (spV sq A c)] w fun e w' => e = .returned (.bool true) ∧ Below w.heap.size w w') := Lib.hid (fun w hs => hms ▸ maysp_any sq A c w hs hn)
 have D2 : Hid (∀ w, Calls Tryz.prog 41 #[.agg (ppV p)] w fun e w' => e = .returned (.bool true) ∧ Below w.heap.size w w') := Lib.hid (fun w => hmp ▸ maypp_any p w)
 have D3 : Hid (∀ w, Calls Tryz.prog 42 #[.int .i64 ref, .int .i64 0, .int .i64 3] w fun e w' => e = .returned (.bool true) ∧ w = w') := Lib.hid (fun w => hi3 ▸ hin_any ref 0 3 w)
 have hgl : g < w.heap.size := Bk.lt hr
 obtain ⟨h, hh⟩ : ∃ h, (alS (sbit st) (8 * st.size) sq p ref key ⟨.rd a false false, Hd.zero⟩).h = h := ⟨_, rfl⟩
 have HC : Hid (∀ wb, Gx w wb g st a sq A c p → Calls Tryz.prog 32 #[.pointer (some ⟨wb.heap.size + 1, 0, none⟩), .pointer (some ⟨wb.heap.size + 1 + 1, 0, none⟩), .agg #[.int .i64 sq.wide, .int .i64 sq.high, .int .i64 sq.fb, .int .i64 sq.pt, .int .i64 sq.pb, .int .i64 sq.nr, .slice A sq.cy.length c, .int .i64 sq.refs, .int .i64 sq.delay], .agg #[.bool p.cabac, .bool p.weighted, .int .i64 p.bipred, .int .i64 p.qp, .int .i64 p.cqp, .bool p.con, .bool p.deb, .int .i64 p.a0, .int .i64 p.a1], .int .i64 ref, .bool key] (w9 wb g st a) fun e w10 => e = .returned (.tuple #[]) ∧ ∃ q, Gy w (w9 wb g st a) w10 g (wb.heap.size + 1) (wb.heap.size + 1 + 1) st a a' false false sq A c p h q wb.heap.size) := Lib.hid (fun wb HX => hh ▸ get_all HX hgl hs ha hk)
 have HW9 : Hid (∀ wb, w9 wb g st a = ((wb.alloc (.cells #[.string st, .int .i64 a] 103)).alloc (.cells #[.pointer none, .pointer (some ⟨g, 0, none⟩), .bool false, .bool false] 80)).alloc (.cells (hdV Hd.zero Ha.zero) 26)) := Lib.hid (fun wb => rfl)
 rw [hh] at hm
 have HM : Hid (∀ q w, HdAt w w.heap.size h q → HdLen h → SpAt w w.heap.size sq A → Calls Tryz.prog 11 #[.agg (hdV h q), .agg (spV sq A c), .agg (ppV p), .int .i64 ref, .bool key] w fun e w' => e = .returned (.bool true) ∧ Below w.heap.size w w') := Lib.hid (fun q w h1 h2 h3 => hm ▸ mayhd_any h q sq A c p ref key w h1 h2 h3 hn)
 clear hm
 rw [hh]
 clear hms hmp hi3 hsp hr hs ha hn hk hh
 obtain ⟨w3, hw3⟩ : ∃ w3, w3 = (((w.alloc (.cells (spV sq A c) 29)).alloc (.cells (ppV p) 31)).alloc (.cells (hdV Hd.zero Ha.zero) 26)) := ⟨_, rfl⟩
 rw [← hw3] at HX
 simp only [spV, ppV, hdV, Hd.zero, Ha.zero, List.length_nil] at hw3 HW9
 simp only [spV, ppV] at D1 D2 ⊢
 have s0 := HX.out.k1.cell 0
 have s1 := HX.out.k1.cell 1
 have s2 := HX.out.k1.cell 2
 have s3 := HX.out.k1.cell 3
 have s4 := HX.out.k1.cell 4
 have s5 := HX.out.k1.cell 5
 have s6 := HX.out.k1.cell 6
 have s7 := HX.out.k1.cell 7
 have s8 := HX.out.k1.cell 8
 have g0 := HX.out.k2.cell 0
 have g1 := HX.out.k2.cell 1
 have g2 := HX.out.k2.cell 2
 have g3 := HX.out.k2.cell 3
 have g4 := HX.out.k2.cell 4
 have g5 := HX.out.k2.cell 5
 have g6 := HX.out.k2.cell 6
 have g7 := HX.out.k2.cell 7
 have g8 := HX.out.k2.cell 8
 simp [spV] at s0 s1 s2 s3 s4 s5 s6 s7 s8
 simp [ppV] at g0 g1 g2 g3 g4 g5 g6 g7 g8
 have hl1 := HX.out.k1.lt
 have hl2 := HX.out.k2.lt
 go_enter Tryz.func23, Tryz.ntmps23
 go_upto_region 3 with fail
 rw [show (((w.alloc (.cells #[.int .i64 sq.wide, .int .i64 sq.high, .int .i64 sq.fb, .int .i64 sq.pt, .int .i64 sq.pb, .int .i64 sq.nr, .slice A sq.cy.length c, .int .i64 sq.refs, .int .i64 sq.delay] 29)).alloc (.cells #[.bool p.cabac, .bool p.weighted, .int .i64 p.bipred, .int .i64 p.qp, .int .i64 p.cqp, .bool p.con, .bool p.deb, .int .i64 p.a0, .int .i64 p.a1] 31)).alloc (.cells _ 26)) = w3 from hw3.symm]
 clear hw3
 go_wp2_with fail
 refine (D1.out _ (Rd.more HX.out.sp (Nat.le_of_lt (Bk.lt HX.out.r)))).mono ?_
 rintro e wa ⟨rfl, hb⟩
 replace HX := Lib.hid (HX.out.go hb)
 clear hb hl1 hl2
 clear s0 s1 s2 s3 s4 s5 s6 s7 s8 g0 g1 g2 g3 g4 g5 g6 g7 g8
 have g0 := HX.out.k2.cell 0
 have g1 := HX.out.k2.cell 1
 have g2 := HX.out.k2.cell 2
 have g3 := HX.out.k2.cell 3
 have g4 := HX.out.k2.cell 4
 have g5 := HX.out.k2.cell 5
 have g6 := HX.out.k2.cell 6
 have g7 := HX.out.k2.cell 7
 have g8 := HX.out.k2.cell 8
 simp [ppV] at g0 g1 g2 g3 g4 g5 g6 g7 g8
 have hl2 := HX.out.k2.lt
 go_wp2_with fail
 refine (D2.out _).mono ?_
 rintro e wb ⟨rfl, hb⟩
 replace HX := Lib.hid (HX.out.go hb)
 clear hb hl2
 clear g0 g1 g2 g3 g4 g5 g6 g7 g8
 go_wp2_with fail
 refine (D3.out _).mono ?_
 rintro e wc ⟨rfl, rfl⟩
 have r0 := HX.out.r.s
 have r1 := HX.out.r.a
 go_upto_region 8 with fail
 rw [← HW9.out wb]
 clear r0 r1 HW9
 have HB9 : Hid (Below wb.heap.size wb (w9 wb g st a)) := Lib.hid (((((Below.refl wb.heap.size wb).alloc (Nat.le_refl _) (.cells #[.string st, .int .i64 a] 103)).alloc (by simp) (.cells #[.pointer none, .pointer (some ⟨g, 0, none⟩), .bool false, .bool false] 80))).alloc (by simp; omega) (.cells (hdV Hd.zero Ha.zero) 26))
 have HX9 := Lib.hid (HX.out.go HB9.out)
 have s0 := HX9.out.k1.cell 0
 have s1 := HX9.out.k1.cell 1
 have s2 := HX9.out.k1.cell 2
 have s3 := HX9.out.k1.cell 3
 have s4 := HX9.out.k1.cell 4
 have s5 := HX9.out.k1.cell 5
 have s6 := HX9.out.k1.cell 6
 have s7 := HX9.out.k1.cell 7
 have s8 := HX9.out.k1.cell 8
 have g0 := HX9.out.k2.cell 0
 have g1 := HX9.out.k2.cell 1
 have g2 := HX9.out.k2.cell 2
 have g3 := HX9.out.k2.cell 3
 have g4 := HX9.out.k2.cell 4
 have g5 := HX9.out.k2.cell 5
 have g6 := HX9.out.k2.cell 6
 have g7 := HX9.out.k2.cell 7
 have g8 := HX9.out.k2.cell 8
 simp [spV] at s0 s1 s2 s3 s4 s5 s6 s7 s8
 simp [ppV] at g0 g1 g2 g3 g4 g5 g6 g7 g8
 go_wp2_with fail
 refine (HC.out wb HX.out).mono ?_
 rintro e w10 ⟨rfl, q, hq⟩
 have HY := Lib.hid hq
 clear hq HX HX9 HB9 HC
 clear s0 s1 s2 s3 s4 s5 s6 s7 s8 g0 g1 g2 g3 g4 g5 g6 g7 g8
 have m2 := HY.out.kk.cell 2
 have m3 := HY.out.kk.cell 3
 simp at m2 m3
 go_upto_region 12 with fail
 clear m2
 go_wp2_with (first | (refine wpList_load_rowG (by rfl) _ _ rfl (wb.heap.size + 1 + 1) rfl _ _ (0, 0) _ HY.out.kh Tryz.underlying26 rfl (by kernel_rfl) ?_) | (refine wpList_load_rowG (by rfl) _ _ rfl w.heap.size rfl _ _ (0, 0) _ HY.out.k1 Tryz.underlying29 rfl (by kernel_rfl) ?_) | (refine wpList_load_rowG (by rfl) _ _ rfl (w.heap.size + 1) rfl _ _ (0, 0) _ HY.out.k2 Tryz.underlying31 rfl (by kernel_rfl) ?_))
 refine (HM.out q w10 HY.out.ro.hd HY.out.ro.lens (Rd.more HY.out.sp (Nat.le_of_lt (Bk.lt HY.out.r.1)))).mono ?_
 rintro e w11 ⟨rfl, hb⟩
 replace HY := Lib.hid (HY.out.go hb)
 clear hb m3 HM
 go_upto_region 15 with fail
 refine wp_region_lit ?_
 refine wpList_load_row rfl _ _ rfl (wb.heap.size + 1 + 1) rfl _ _ (0, 0) _ HY.out.kh Tryz.underlying26 rfl (by kernel_rfl) ?_
 refine wpList_store_row rfl _ _ _ rfl (w.heap.size + 1 + 1) (hdV h q) rfl rfl _ _ HY.out.k3 (by kernel_rfl) rfl (hd_one _ _) ?_
 go_wp2_with fail
 exact bodyPost_ret (get_results _ _ (w.heap.size + 1 + 1) 26 (hdV h q) 0 rfl rfl (bk_setRow HY.out.k3) rfl) rfl (HY.out.done _ rfl)
theorem hget_any {w : World} {g a : Nat} {st : ByteArray} (sq : Sp) (A : Option Addr) (c : Nat) (p : Pp) (ref : Int) (key : Bool) (hr : Rr w g st a) (hs : st.size ≤ 140737488351232) (ha : a ≤ 8 * st.size) (hsp : SpAt w g sq A) (hn : sq.cy.length ≤ 1152921504606846976) :
  Calls Tryz.prog 23 #[.pointer (some ⟨g, 0, none⟩), .agg (spV sq A c), .agg (ppV p), .int .i64 ref, .bool key] w fun e w' => GetPost w g st (getHd (sbit st) (8 * st.size) sq p ref key a) e w' := by
 by_cases h0 : maySp sq = true ∧ mayPp p = true ∧ inR 0 3 ref = true
 ·obtain ⟨h1, h2, h3⟩ := h0
  have hc : (maySp sq && mayPp p && inR 0 3 ref) = true := by rw [h1, h2, h3]; rfl
  have hiw : (alS (sbit st) (8 * st.size) sq p ref key ⟨.rd a false false, Hd.zero⟩).k.isW = false := alS_isW _ _ _ _ _ _ _
  cases hk : (alS (sbit st) (8 * st.size) sq p ref key ⟨.rd a false false, Hd.zero⟩).k with
  | wr b => rw [hk] at hiw; cases hiw
  | rd a' bad many =>
   unfold getHd
   rw [if_pos hc, hk]
   simp only
   cases bad
   ·cases many
    ·cases hm : mayHd (alS (sbit st) (8 * st.size) sq p ref key ⟨.rd a false false, Hd.zero⟩).h sq p ref key
     ·simpa using get_noF (many := false) sq A c p ref key hr hs ha hsp hn h1 h2 h3 hk hm
     ·simpa using get_yesF (many := false) sq A c p ref key hr hs ha hsp hn h1 h2 h3 hk hm
    ·simpa using get_manyF (many := true) sq A c p ref key hr hs ha hsp hn h1 h2 h3 hk
   ·simpa using get_badF sq A c p ref key hr hs ha hsp hn h1 h2 h3 hk
 ·exact get_bad sq A c p ref key hr hsp hn h0
end Go.Proofs.YtjokibagciehlaaGreat

namespace Go.Proofs.YtjokibagciehlaaGreat
set_option linter.unusedVariables false
set_option linter.unusedSimpArgs false

section
variable {f : Nat → Bool} {N a : Nat}
theorem ueM_r {x : Int} (y : Int) (h : Lies f N a (ueL x.toNat)) (h0 : 0 ≤ x) (h1 : x ≤ 2147483646) : ueM f N y (.rd a false false) = .rd (a + (ueL x.toNat).length) false false ∧ ueV f N y (.rd a false false) = x := by
 have hr := h.ue (by omega)
 refine ⟨?_, ?_⟩
 ·show gotM a false false _ = _
  rw [gotM_go rfl, hr]
  rfl
 ·show gotV false false y _ = _
  rw [gotV_go rfl, hr]
  show ((x.toNat : Nat) : Int) = x
  omega
theorem seM_r {x : Int} (y : Int) (h : Lies f N a (seL x)) (h0 : -1073741823 ≤ x) (h1 : x ≤ 1073741823) : seM f N y (.rd a false false) = .rd (a + (seL x).length) false false ∧ seV f N y (.rd a false false) = x := by
 have hr := h.se h0 h1
 refine ⟨?_, ?_⟩
 ·show gotM a false false _ = _
  rw [gotM_go rfl, hr]
  rfl
 ·show gotV false false y _ = _
  rw [gotV_go rfl, hr]
theorem fxM_r {n x : Int} (y : Int) (h : Lies f N a (dig x.toNat n.toNat)) (hn : 0 ≤ n ∧ n ≤ 32) (hx : 0 ≤ x ∧ x < 2 ^ n.toNat) : fxM f N n y (.rd a false false) = .rd (a + (dig x.toNat n.toNat).length) false false ∧ fxV f N n y (.rd a false false) = x := by
 have e : (((2 : Nat) ^ n.toNat : Nat) : Int) = 2 ^ n.toNat := by simp
 have hr := h.bits (by omega) (by omega)
 rw [show ((n.toNat : Nat) : Int) = n by omega] at hr
 refine ⟨?_, ?_⟩
 ·show gotM a false false _ = _
  rw [gotM_go rfl, hr]
  rfl
 ·show gotV false false y _ = _
  rw [gotV_go rfl, hr]
  show ((x.toNat : Nat) : Int) = x
  omega
theorem flM_r {x : Bool} (y : Bool) (h : Lies f N a [x]) : flM f N y (.rd a false false) = .rd (a + 1) false false ∧ flV f N y (.rd a false false) = x := by
 have h' : Lies f N a (dig (bit01 x).toNat (1 : Int).toNat) := by rw [dig_1]; exact h
 obtain ⟨h1, h2⟩ := fxM_r (n := 1) (x := bit01 x) (bit01 y) h' ⟨by omega, by omega⟩ (by unfold bit01; split <;> decide)
 refine ⟨?_, ?_⟩
 ·unfold flM
  rw [h1, dig_1]
  rfl
 ·unfold flV
  rw [h2]
  cases x <;> rfl
theorem lsM_r {x : Int} (y : Int) (h : Lies f N a (ueL (x - 1).toNat)) (h0 : 1 ≤ x) (h1 : x ≤ 2147483646) : lsM f N y (.rd a false false) = .rd (a + (ueL (x - 1).toNat).length) false false ∧ lsV f N y (.rd a false false) = x := by
 obtain ⟨h2, h3⟩ := ueM_r (x := x - 1) (y - 1) h (by omega) (by omega)
 exact ⟨h2, by unfold lsV; rw [h3]; omega⟩
theorem it_back {α : Type} (m : α → Wk → Wk) (u : α → Wk → α) (L : α → List Bool) (z : α) : ∀ (l : List α) (a : Nat), Lies f N a (l.flatMap L) → (∀ x ∈ l, ∀ a, Lies f N a (L x) → m z (.rd a false false) = .rd (a + (L x).length) false false ∧ u z (.rd a false false) = x) →
  itM m (List.replicate l.length z) (.rd a false false) = .rd (a + (l.flatMap L).length) false false ∧ itV m u (List.replicate l.length z) (.rd a false false) = l
 | [], a, h, _ => ⟨rfl, rfl⟩
 | y :: l, a, h, hx => by
  rw [List.flatMap_cons] at h
  obtain ⟨h1, h2⟩ := hx y (List.mem_cons_self ..) a h.left
  obtain ⟨h3, h4⟩ := it_back m u L z l (a + (L y).length) h.right (fun x hm => hx x (List.mem_cons_of_mem _ hm))
  have e : List.replicate (y :: l).length z = z :: List.replicate l.length z := rfl
  rw [e]
  refine ⟨?_, ?_⟩
  ·show itM m _ (m z (.rd a false false)) = _
   rw [h1, h3, List.flatMap_cons, List.length_append, Nat.add_assoc]
  ·show u z (.rd a false false) :: itV m u _ (m z (.rd a false false)) = _
   rw [h2, h1, h4]
theorem mdM_r {x : Md} (y : Md) (h : Lies f N a (mdL x)) (hx : (0 ≤ x.k ∧ x.k ≤ 2) ∧ 0 ≤ x.v ∧ x.v ≤ 255) : mdM f N y (.rd a false false) = .rd (a + (mdL x).length) false false ∧ mdV f N y (.rd a false false) = x := by
 unfold mdL at h ⊢
 obtain ⟨h1, h2⟩ := ueM_r y.k h.left hx.1.1 (by omega)
 obtain ⟨h3, h4⟩ := ueM_r y.v h.right hx.2.1 (by omega)
 unfold mdM mdV
 rw [h1, h2, h3, h4, List.length_append, Nat.add_assoc]
 exact ⟨rfl, rfl⟩
theorem moM_r {x : Mo} (h : Lies f N a (moL x)) (hx : (1 ≤ x.k ∧ x.k ≤ 6) ∧ (0 ≤ x.a ∧ x.a ≤ 255) ∧ (0 ≤ x.b ∧ x.b ≤ 255) ∧ (hasA x.k = true ∨ x.a = 0) ∧ (hasB x.k = true ∨ x.b = 0)) : moM f N Mo.zero (.rd a false false) = .rd (a + (moL x).length) false false ∧ moV f N Mo.zero (.rd a false false) = x := by
 unfold moL at h ⊢
 obtain ⟨k1, ka, kb, ca, cb⟩ := hx
 obtain ⟨h1, h2⟩ := ueM_r Mo.zero.k h.left.left (by omega) (by omega)
 have hin : inR 1 6 x.k = true := inR_yes k1
 have m1 : moM1 f N Mo.zero (.rd a false false) = .rd (a + (ueL x.k.toNat).length) false false := by
  unfold moM1
  rw [h1, h2, hin]
  rfl
 have m2 : moM2 f N Mo.zero (.rd a false false) = .rd (a + (ueL x.k.toNat ++ (if hasA x.k = true then ueL x.a.toNat else [])).length) false false ∧ (if hasA x.k = true then ueV f N Mo.zero.a (moM1 f N Mo.zero (.rd a false false)) else Mo.zero.a) = x.a := by
  unfold moM2
  rw [h2, m1]
  by_cases hA : hasA x.k = true
  ·rw [if_pos hA, if_pos hA, if_pos hA]
   rw [if_pos hA] at h
   obtain ⟨h3, h4⟩ := ueM_r Mo.zero.a h.left.right ka.1 (by omega)
   rw [h3, List.length_append, Nat.add_assoc]
   exact ⟨rfl, h4⟩
  ·rw [if_neg hA, if_neg hA, if_neg hA, List.append_nil]
   exact ⟨rfl, (ca.resolve_left hA).symm⟩
 have m3 : moM f N Mo.zero (.rd a false false) = .rd (a + (ueL x.k.toNat ++ (if hasA x.k = true then ueL x.a.toNat else []) ++ (if hasB x.k = true then ueL x.b.toNat else [])).length) false false ∧ (if hasB x.k = true then ueV f N Mo.zero.b (moM2 f N Mo.zero (.rd a false false)) else Mo.zero.b) = x.b := by
  unfold moM
  rw [h2, m2.1]
  by_cases hB : hasB x.k = true
  ·rw [if_pos hB, if_pos hB, if_pos hB]
   rw [if_pos hB] at h
   obtain ⟨h3, h4⟩ := ueM_r Mo.zero.b h.right kb.1 (by omega)
   rw [h3]
   refine ⟨?_, h4⟩
   simp only [List.length_append, Nat.add_assoc]
  ·rw [if_neg hB, if_neg hB, if_neg hB, List.append_nil]
   exact ⟨rfl, (cb.resolve_left hB).symm⟩
 refine ⟨m3.1, ?_⟩
 unfold moV
 rw [h2, m2.2, m3.2]
theorem wtM_r {x : Wt} (y : Wt) (h : Lies f N a (wtB x)) (hx : ((-128 ≤ x.s0 ∧ x.s0 ≤ 127) ∧ -128 ≤ x.o0 ∧ x.o0 ≤ 127) ∧ ((-128 ≤ x.s1 ∧ x.s1 ≤ 127) ∧ -128 ≤ x.o1 ∧ x.o1 ≤ 127) ∧ ((-128 ≤ x.s2 ∧ x.s2 ≤ 127) ∧ -128 ≤ x.o2 ∧ x.o2 ≤ 127)) : wtM f N y (.rd a false false) = .rd (a + (wtB x).length) false false ∧ wtV f N y (.rd a false false) = x := by
 unfold wtB at h ⊢
 obtain ⟨a1, b1⟩ := seM_r y.s0 h.left.left.left.left.left (by omega) (by omega)
 obtain ⟨a2, b2⟩ := seM_r y.o0 h.left.left.left.left.right (by omega) (by omega)
 obtain ⟨a3, b3⟩ := seM_r y.s1 h.left.left.left.right (by omega) (by omega)
 obtain ⟨a4, b4⟩ := seM_r y.o1 h.left.left.right (by omega) (by omega)
 obtain ⟨a5, b5⟩ := seM_r y.s2 h.left.right (by omega) (by omega)
 obtain ⟨a6, b6⟩ := seM_r y.o2 h.right (by omega) (by omega)
 simp only [List.length_append, ← Nat.add_assoc] at a2 b2 a3 b3 a4 b4 a5 b5 a6 b6
 have e1 : wtM1 f N y (.rd a false false) = .rd (a + (seL x.s0).length + (seL x.o0).length) false false := by unfold wtM1; rw [a1, a2]
 have e2 : wtM2 f N y (.rd a false false) = .rd (a + (seL x.s0).length + (seL x.o0).length + (seL x.s1).length + (seL x.o1).length) false false := by unfold wtM2; rw [e1, a3, a4]
 refine ⟨?_, ?_⟩
 ·unfold wtM
  rw [e2, a5, a6]
  simp only [List.length_append, ← Nat.add_assoc]
 ·unfold wtV
  rw [e1, e2, a1, b1, b2, a3, b3, b4, a5, b5, b6]
theorem rw_back {α : Type} (m : α → Wk → Wk) (u : α → Wk → α) (L : α → List Bool) (z : α) (l : List α) (hl : l.length ≤ 16) (h : Lies f N a (ueL l.length ++ l.flatMap L)) (hx : ∀ x ∈ l, ∀ a, Lies f N a (L x) → m z (.rd a false false) = .rd (a + (L x).length) false false ∧ u z (.rd a false false) = x) :
  rwM f N m z [] (.rd a false false) = .rd (a + (ueL l.length ++ l.flatMap L).length) false false ∧ rwV f N m u z [] (.rd a false false) = l := by
 have h' : Lies f N a (ueL ((l.length : Nat) : Int).toNat) := h.left
 obtain ⟨h1, h2⟩ := ueM_r (x := (l.length : Int)) 0 h' (by omega) (by omega)
 rw [show ((l.length : Nat) : Int).toNat = l.length from rfl] at h1
 obtain ⟨h3, h4⟩ := it_back m u L z l (a + (ueL l.length).length) h.right hx
 have hc : ckM (decide ((l.length : Int) ≤ 16)) (.rd (a + (ueL l.length).length) false false) = .rd (a + (ueL l.length).length) false false := by
  rw [decide_eq_true (by omega)]; rfl
 have hs : (Wk.rd (a + (ueL l.length).length) false false).stop = false := rfl
 have hrep : (if 0 < (l.length : Int) then List.replicate ((l.length : Nat) : Int).toNat z else []) = List.replicate l.length z := by
  by_cases h0 : 0 < (l.length : Int)
  ·rw [if_pos h0]; rfl
  ·rw [if_neg h0, show l.length = 0 by omega]; rfl
 refine ⟨?_, ?_⟩
 ·unfold rwM
  rw [show ((([] : List α).length : Nat) : Int) = 0 from rfl, h1]
  simp only
  rw [h2, hc, hs, hrep, if_neg (by simp), h3, List.length_append, Nat.add_assoc]
 ·unfold rwV
  rw [show ((([] : List α).length : Nat) : Int) = 0 from rfl, h1]
  simp only
  rw [h2, hc, hs, hrep, if_neg (by simp), h4]
theorem ws_back (l : List Wt) (m : Int) (ok : WtsOk l m) (h : Lies f N a (wtsL l)) : wsM f N [] m (.rd a false false) = .rd (a + (wtsL l).length) false false ∧ wsV f N [] m (.rd a false false) = l := by
 have hm := ok.len
 obtain ⟨h3, h4⟩ := it_back (wtM f N) (wtV f N) wtB Wt.zero l a h (fun x hx a ha => wtM_r Wt.zero ha (ok.all x hx))
 have hrep : wtL [] m (.rd a false false) = List.replicate l.length Wt.zero := by
  unfold wtL
  by_cases h0 : 0 < m
  ·rw [if_pos (by simp [Wk.isW, h0]), show m.toNat = l.length by omega]
  ·rw [if_neg (by simp [Wk.isW, h0]), show l.length = 0 by omega]; rfl
 unfold wsM wsV
 rw [hrep]
 exact ⟨h3, h4⟩
variable {h : Hd} {s : Sp} {p : Pp} {ref : Int} {key : Bool}
theorem al1_r (H : HdOk h s p ref key) (hL : Lies f N a (hdL1 h s key)) : al1 f N s key ⟨.rd a false false, Hd.zero⟩ = ⟨.rd (a + (hdL1 h s key).length) false false, { Hd.zero with first := h.first, count := h.count, type := h.type, fn := h.fn, id := h.id, poc := h.poc }⟩ := by
 have har := H.area
 obtain ⟨_, _, ⟨hf1, hf2⟩, ⟨hp1, hp2⟩, _⟩ := H.sp
 have q1 := H.first
 have q2 := H.count
 have q3 := H.type
 have q4 := H.fn
 have q5 := H.id
 have q6 := H.poc
 unfold hdL1 at hL ⊢
 have l1 := hL.right
 have l2 := l1.right
 have l3 := l2.right
 have l4 := l3.right
 have l5 := l4.right
 obtain ⟨a1, b1⟩ := ueM_r Hd.zero.first hL.left q1.1 (by omega)
 have hA : alA f N ⟨.rd a false false, Hd.zero⟩ = ⟨.rd (a + (ueL h.first.toNat).length) false false, { Hd.zero with first := h.first }⟩ := by
  unfold alA
  simp only
  rw [a1, b1]
 obtain ⟨a2, b2⟩ := lsM_r Hd.zero.count l1.left q2.1 (by omega)
 have hB : alB f N ⟨.rd (a + (ueL h.first.toNat).length) false false, { Hd.zero with first := h.first }⟩ = ⟨.rd (a + (ueL h.first.toNat).length + (ueL (h.count - 1).toNat).length) false false, { Hd.zero with first := h.first, count := h.count }⟩ := by
  unfold alB
  show (⟨lsM f N Hd.zero.count _, { Hd.zero with first := h.first, count := lsV f N Hd.zero.count _ }⟩ : Hw) = _
  rw [a2, b2]
 obtain ⟨a3, b3⟩ := ueM_r Hd.zero.type l2.left q3.1 (by omega)
 have hC : alC f N ⟨.rd (a + (ueL h.first.toNat).length + (ueL (h.count - 1).toNat).length) false false, { Hd.zero with first := h.first, count := h.count }⟩ = ⟨.rd (a + (ueL h.first.toNat).length + (ueL (h.count - 1).toNat).length + (ueL h.type.toNat).length) false false, { Hd.zero with first := h.first, count := h.count, type := h.type }⟩ := by
  unfold alC
  show (⟨ueM f N Hd.zero.type _, { Hd.zero with first := h.first, count := h.count, type := ueV f N Hd.zero.type _ }⟩ : Hw) = _
  rw [a3, b3]
 have hin : inR 0 2 h.type = true := inR_yes q3
 have hD : ∀ a, alD ⟨.rd a false false, { Hd.zero with first := h.first, count := h.count, type := h.type }⟩ = ⟨.rd a false false, { Hd.zero with first := h.first, count := h.count, type := h.type }⟩ := fun a => by
  unfold alD
  show (⟨ckM (inR 0 2 h.type) _, _⟩ : Hw) = _
  rw [hin]
  rfl
 obtain ⟨a5, b5⟩ := fxM_r (n := s.fb) Hd.zero.fn l3.left (by omega) ⟨q4.1, by omega⟩
 have hE : alE f N s ⟨.rd (a + (ueL h.first.toNat).length + (ueL (h.count - 1).toNat).length + (ueL h.type.toNat).length) false false, { Hd.zero with first := h.first, count := h.count, type := h.type }⟩ = ⟨.rd (a + (ueL h.first.toNat).length + (ueL (h.count - 1).toNat).length + (ueL h.type.toNat).length + (dig h.fn.toNat s.fb.toNat).length) false false, { Hd.zero with first := h.first, count := h.count, type := h.type, fn := h.fn }⟩ := by
  unfold alE
  show (⟨fxM f N s.fb Hd.zero.fn _, { Hd.zero with first := h.first, count := h.count, type := h.type, fn := fxV f N s.fb Hd.zero.fn _ }⟩ : Hw) = _
  rw [a5, b5]
 have hF : alF f N key ⟨.rd (a + (ueL h.first.toNat).length + (ueL (h.count - 1).toNat).length + (ueL h.type.toNat).length + (dig h.fn.toNat s.fb.toNat).length) false false, { Hd.zero with first := h.first, count := h.count, type := h.type, fn := h.fn }⟩ = ⟨.rd (a + (ueL h.first.toNat).length + (ueL (h.count - 1).toNat).length + (ueL h.type.toNat).length + (dig h.fn.toNat s.fb.toNat).length + (if key = true then ueL h.id.toNat else []).length) false false, { Hd.zero with first := h.first, count := h.count, type := h.type, fn := h.fn, id := h.id }⟩ := by
  unfold alF
  by_cases hk : key = true
  ·rw [if_pos hk, if_pos hk]
   have l4' := l4.left
   rw [if_pos hk] at l4'
   obtain ⟨a6, b6⟩ := ueM_r Hd.zero.id l4' q5.1 (by omega)
   show (⟨ueM f N Hd.zero.id _, { Hd.zero with first := h.first, count := h.count, type := h.type, fn := h.fn, id := ueV f N Hd.zero.id _ }⟩ : Hw) = _
   rw [a6, b6]
  ·rw [if_neg hk, if_neg hk, H.keyI (by simpa using hk)]
   rfl
 have hG : alG f N s ⟨.rd (a + (ueL h.first.toNat).length + (ueL (h.count - 1).toNat).length + (ueL h.type.toNat).length + (dig h.fn.toNat s.fb.toNat).length + (if key = true then ueL h.id.toNat else []).length) false false, { Hd.zero with first := h.first, count := h.count, type := h.type, fn := h.fn, id := h.id }⟩ = ⟨.rd (a + (ueL h.first.toNat).length + (ueL (h.count - 1).toNat).length + (ueL h.type.toNat).length + (dig h.fn.toNat s.fb.toNat).length + (if key = true then ueL h.id.toNat else []).length + (if s.pt = 0 then dig h.poc.toNat s.pb.toNat else []).length) false false, { Hd.zero with first := h.first, count := h.count, type := h.type, fn := h.fn, id := h.id, poc := h.poc }⟩ := by
  unfold alG
  by_cases hk : s.pt = 0
  ·rw [if_pos hk, if_pos hk]
   have l5' := l5
   rw [if_pos hk] at l5'
   obtain ⟨a6, b6⟩ := fxM_r (n := s.pb) Hd.zero.poc l5' (by omega) ⟨q6.1, by omega⟩
   show (⟨fxM f N s.pb Hd.zero.poc _, { Hd.zero with first := h.first, count := h.count, type := h.type, fn := h.fn, id := h.id, poc := fxV f N s.pb Hd.zero.poc _ }⟩ : Hw) = _
   rw [a6, b6]
  ·rw [if_neg hk, if_neg hk, H.pocP hk]
   rfl
 unfold al1
 rw [hA, hB, hC, hD, hE, hF, hG]
 simp only [List.length_append, Nat.add_assoc]
theorem liS_r (H : HdOk h s p ref key) (hL : Lies f N a (hdL2 h p)) :
  liS f N p ⟨.rd a false false, { Hd.zero with first := h.first, count := h.count, type := h.type, fn := h.fn, id := h.id, poc := h.poc }⟩ = ⟨.rd (a + (hdL2 h p).length) false false, { Hd.zero with first := h.first, count := h.count, type := h.type, fn := h.fn, id := h.id, poc := h.poc, spatial := h.spatial, a0 := h.a0, a1 := h.a1, m0 := h.m0, m1 := h.m1, log := h.log, logC := h.logC, w0 := h.w0, w1 := h.w1 }⟩ := by
 have q1 := H.a0
 have q2 := H.a1
 have gs : (h.type ≠ 1 → h.spatial = false) := fun e => by
  cases hs : h.spatial
  ·rfl
  ·exact absurd (H.spat hs) e
 have gm0 : ¬ h.type ≠ 2 → h.m0 = [] := fun e => by
  rcases H.m0.is with q | q
  ·exact absurd (bne_tt.1 q) e
  ·exact q
 have gm1 : h.type ≠ 1 → h.m1 = [] := fun e => by
  rcases H.m1.is with q | q
  ·exact absurd (by simpa using q) e
  ·exact q
 unfold hdL2 at hL ⊢
 have l1 := hL.right
 have l2 := l1.right
 have l3 := l2.right
 have l4 := l3.right
 have l5 := l4.right
 obtain ⟨n1, e1⟩ : ∃ n, n = a + (if h.type = 1 then [h.spatial] else []).length := ⟨_, rfl⟩
 rw [← e1] at l1 l2 l3 l4 l5
 obtain ⟨n2, e2⟩ : ∃ n, n = n1 + (if h.type ≠ 2 then ueL (h.a0 - 1).toNat else []).length := ⟨_, rfl⟩
 rw [← e2] at l2 l3 l4 l5
 obtain ⟨n3, e3⟩ : ∃ n, n = n2 + (if h.type = 1 then ueL (h.a1 - 1).toNat else []).length := ⟨_, rfl⟩
 rw [← e3] at l3 l4 l5
 obtain ⟨n4, e4⟩ : ∃ n, n = n3 + (if h.type ≠ 2 then mdsL h.m0 else []).length := ⟨_, rfl⟩
 rw [← e4] at l4 l5
 obtain ⟨n5, e5⟩ : ∃ n, n = n4 + (if h.type = 1 then mdsL h.m1 else []).length := ⟨_, rfl⟩
 rw [← e5] at l5
 have hA : liA f N ⟨.rd a false false, { Hd.zero with first := h.first, count := h.count, type := h.type, fn := h.fn, id := h.id, poc := h.poc }⟩ = ⟨.rd n1 false false, { Hd.zero with first := h.first, count := h.count, type := h.type, fn := h.fn, id := h.id, poc := h.poc, spatial := h.spatial }⟩ := by
  unfold liA
  simp only [Hd.zero]
  by_cases hk : h.type = 1
  ·have hl := hL.left
   rw [if_pos hk] at hl e1
   obtain ⟨x1, x2⟩ := flM_r false hl
   rw [if_pos hk, x1, x2, e1]
   rfl
  ·rw [if_neg hk] at e1
   rw [if_neg hk, gs hk, e1]
   rfl
 have hB : liB f N ⟨.rd n1 false false, { Hd.zero with first := h.first, count := h.count, type := h.type, fn := h.fn, id := h.id, poc := h.poc, spatial := h.spatial }⟩ = ⟨.rd n2 false false, { Hd.zero with first := h.first, count := h.count, type := h.type, fn := h.fn, id := h.id, poc := h.poc, spatial := h.spatial, a0 := h.a0 }⟩ := by
  unfold liB
  simp only [Hd.zero]
  by_cases hk : h.type ≠ 2
  ·have hl := l1.left
   rw [if_pos hk] at hl e2
   obtain ⟨x1, x2⟩ := lsM_r 0 hl (by omega) (by omega)
   rw [if_pos hk, x1, x2, e2]
  ·rw [if_neg hk] at e2
   have : h.a0 = 0 := by omega
   rw [if_neg hk, e2, this]
   rfl
 have hC : liC f N ⟨.rd n2 false false, { Hd.zero with first := h.first, count := h.count, type := h.type, fn := h.fn, id := h.id, poc := h.poc, spatial := h.spatial, a0 := h.a0 }⟩ = ⟨.rd n3 false false, { Hd.zero with first := h.first, count := h.count, type := h.type, fn := h.fn, id := h.id, poc := h.poc, spatial := h.spatial, a0 := h.a0, a1 := h.a1 }⟩ := by
  unfold liC
  simp only [Hd.zero]
  by_cases hk : h.type = 1
  ·have hl := l2.left
   rw [if_pos hk] at hl e3
   obtain ⟨x1, x2⟩ := lsM_r 0 hl (by omega) (by omega)
   rw [if_pos hk, x1, x2, e3]
  ·rw [if_neg hk] at e3
   have : h.a1 = 0 := by omega
   rw [if_neg hk, e3, this]
   rfl
 have hD : liD ⟨.rd n3 false false, { Hd.zero with first := h.first, count := h.count, type := h.type, fn := h.fn, id := h.id, poc := h.poc, spatial := h.spatial, a0 := h.a0, a1 := h.a1 }⟩ = ⟨.rd n3 false false, { Hd.zero with first := h.first, count := h.count, type := h.type, fn := h.fn, id := h.id, poc := h.poc, spatial := h.spatial, a0 := h.a0, a1 := h.a1 }⟩ := by
  unfold liD
  simp only
  rw [decide_eq_true (show h.a0 ≤ 8 by omega), decide_eq_true (show h.a1 ≤ 8 by omega)]
  rfl
 have hE : liE f N ⟨.rd n3 false false, { Hd.zero with first := h.first, count := h.count, type := h.type, fn := h.fn, id := h.id, poc := h.poc, spatial := h.spatial, a0 := h.a0, a1 := h.a1 }⟩ = ⟨.rd n4 false false, { Hd.zero with first := h.first, count := h.count, type := h.type, fn := h.fn, id := h.id, poc := h.poc, spatial := h.spatial, a0 := h.a0, a1 := h.a1, m0 := h.m0 }⟩ := by
  unfold liE
  simp only [Hd.zero]
  by_cases hk : h.type ≠ 2
  ·have hl := l3.left
   rw [if_pos hk] at hl e4
   obtain ⟨x1, x2⟩ := rw_back (mdM f N) (mdV f N) mdL Md.zero h.m0 H.m0.len hl (fun x hx a ha => mdM_r Md.zero ha (H.m0.all x hx))
   rw [if_pos hk, x1, x2, e4]
   rfl
  ·rw [if_neg hk] at e4
   rw [if_neg hk, e4, gm0 hk]
   rfl
 have hF : liF f N ⟨.rd n4 false false, { Hd.zero with first := h.first, count := h.count, type := h.type, fn := h.fn, id := h.id, poc := h.poc, spatial := h.spatial, a0 := h.a0, a1 := h.a1, m0 := h.m0 }⟩ = ⟨.rd n5 false false, { Hd.zero with first := h.first, count := h.count, type := h.type, fn := h.fn, id := h.id, poc := h.poc, spatial := h.spatial, a0 := h.a0, a1 := h.a1, m0 := h.m0, m1 := h.m1 }⟩ := by
  unfold liF
  simp only [Hd.zero]
  by_cases hk : h.type = 1
  ·have hl := l4.left
   rw [if_pos hk] at hl e5
   obtain ⟨x1, x2⟩ := rw_back (mdM f N) (mdV f N) mdL Md.zero h.m1 H.m1.len hl (fun x hx a ha => mdM_r Md.zero ha (H.m1.all x hx))
   rw [if_pos hk, x1, x2, e5]
   rfl
  ·rw [if_neg hk] at e5
   rw [if_neg hk, e5, gm1 hk]
   rfl
 have hW : liW f N p ⟨.rd n5 false false, { Hd.zero with first := h.first, count := h.count, type := h.type, fn := h.fn, id := h.id, poc := h.poc, spatial := h.spatial, a0 := h.a0, a1 := h.a1, m0 := h.m0, m1 := h.m1 }⟩ = ⟨.rd (n5 + (if wgt h.type p = true then ueL h.log.toNat ++ (ueL h.logC.toNat ++ (wtsL h.w0 ++ wtsL h.w1)) else []).length) false false, { Hd.zero with first := h.first, count := h.count, type := h.type, fn := h.fn, id := h.id, poc := h.poc, spatial := h.spatial, a0 := h.a0, a1 := h.a1, m0 := h.m0, m1 := h.m1, log := h.log, logC := h.logC, w0 := h.w0, w1 := h.w1 }⟩ := by
  unfold liW
  have e : (Wk.rd n5 false false).stop = false := rfl
  simp only [e, Bool.not_false, Bool.and_true, Hd.zero]
  by_cases hk : wgt h.type p = true
  ·rw [if_pos hk] at l5 ⊢
   rw [if_pos hk]
   obtain ⟨w1, w2, w3, w4⟩ := H.wy hk
   have k1 := l5.right
   have k2 := k1.right
   obtain ⟨x1, y1⟩ := ueM_r 0 l5.left w1.1 (by omega)
   obtain ⟨x2, y2⟩ := ueM_r 0 k1.left w2.1 (by omega)
   obtain ⟨x3, y3⟩ := ws_back h.w0 h.a0 w3 k2.left
   obtain ⟨x4, y4⟩ := ws_back h.w1 h.a1 w4 k2.right
   have hG : liG f N ⟨.rd n5 false false, ({ first := h.first, count := h.count, type := h.type, fn := h.fn, id := h.id, poc := h.poc, spatial := h.spatial, a0 := h.a0, a1 := h.a1, m0 := h.m0, m1 := h.m1, log := 0, logC := 0, w0 := [], w1 := [], longKey := false, ops := [], qp := 0, off := false, a := 0, b := 0 } : Hd)⟩ = ⟨.rd (n5 + (ueL h.log.toNat).length) false false, ({ first := h.first, count := h.count, type := h.type, fn := h.fn, id := h.id, poc := h.poc, spatial := h.spatial, a0 := h.a0, a1 := h.a1, m0 := h.m0, m1 := h.m1, log := h.log, logC := 0, w0 := [], w1 := [], longKey := false, ops := [], qp := 0, off := false, a := 0, b := 0 } : Hd)⟩ := by
    unfold liG
    simp only
    rw [x1, y1]
   have hH : liH f N ⟨.rd (n5 + (ueL h.log.toNat).length) false false, ({ first := h.first, count := h.count, type := h.type, fn := h.fn, id := h.id, poc := h.poc, spatial := h.spatial, a0 := h.a0, a1 := h.a1, m0 := h.m0, m1 := h.m1, log := h.log, logC := 0, w0 := [], w1 := [], longKey := false, ops := [], qp := 0, off := false, a := 0, b := 0 } : Hd)⟩ = ⟨.rd (n5 + (ueL h.log.toNat).length + (ueL h.logC.toNat).length) false false, ({ first := h.first, count := h.count, type := h.type, fn := h.fn, id := h.id, poc := h.poc, spatial := h.spatial, a0 := h.a0, a1 := h.a1, m0 := h.m0, m1 := h.m1, log := h.log, logC := h.logC, w0 := [], w1 := [], longKey := false, ops := [], qp := 0, off := false, a := 0, b := 0 } : Hd)⟩ := by
    unfold liH
    simp only
    rw [x2, y2]
   have hI : liI f N ⟨.rd (n5 + (ueL h.log.toNat).length + (ueL h.logC.toNat).length) false false, ({ first := h.first, count := h.count, type := h.type, fn := h.fn, id := h.id, poc := h.poc, spatial := h.spatial, a0 := h.a0, a1 := h.a1, m0 := h.m0, m1 := h.m1, log := h.log, logC := h.logC, w0 := [], w1 := [], longKey := false, ops := [], qp := 0, off := false, a := 0, b := 0 } : Hd)⟩ = ⟨.rd (n5 + (ueL h.log.toNat).length + (ueL h.logC.toNat).length + (wtsL h.w0).length) false false, ({ first := h.first, count := h.count, type := h.type, fn := h.fn, id := h.id, poc := h.poc, spatial := h.spatial, a0 := h.a0, a1 := h.a1, m0 := h.m0, m1 := h.m1, log := h.log, logC := h.logC, w0 := h.w0, w1 := [], longKey := false, ops := [], qp := 0, off := false, a := 0, b := 0 } : Hd)⟩ := by
    unfold liI
    simp only
    rw [x3, y3]
   have hJ : liJ f N ⟨.rd (n5 + (ueL h.log.toNat).length + (ueL h.logC.toNat).length + (wtsL h.w0).length) false false, ({ first := h.first, count := h.count, type := h.type, fn := h.fn, id := h.id, poc := h.poc, spatial := h.spatial, a0 := h.a0, a1 := h.a1, m0 := h.m0, m1 := h.m1, log := h.log, logC := h.logC, w0 := h.w0, w1 := [], longKey := false, ops := [], qp := 0, off := false, a := 0, b := 0 } : Hd)⟩ = ⟨.rd (n5 + (ueL h.log.toNat).length + (ueL h.logC.toNat).length + (wtsL h.w0).length + (wtsL h.w1).length) false false, ({ first := h.first, count := h.count, type := h.type, fn := h.fn, id := h.id, poc := h.poc, spatial := h.spatial, a0 := h.a0, a1 := h.a1, m0 := h.m0, m1 := h.m1, log := h.log, logC := h.logC, w0 := h.w0, w1 := h.w1, longKey := false, ops := [], qp := 0, off := false, a := 0, b := 0 } : Hd)⟩ := by
    unfold liJ
    simp only
    rw [x4, y4]
   rw [hG, hH, hI, hJ]
   simp only [List.length_append, Nat.add_assoc]
  ·obtain ⟨w1, w2, w3, w4⟩ := H.wn (by simpa using hk)
   rw [if_neg hk, if_neg hk, w1, w2, w3, w4]
   rfl
 unfold liS
 rw [hA, hB, hC, hD, hE, hF, hW, e5, e4, e3, e2, e1]
 simp only [List.length_append, Nat.add_assoc]
end
end Go.Proofs.YtjokibagciehlaaGreat

namespace Go.Proofs.YtjokibagciehlaaGreat
set_option linter.unusedVariables false
set_option linter.unusedSimpArgs false

section
variable {f : Nat → Bool} {N a : Nat} {h : Hd} {s : Sp} {p : Pp} {ref : Int} {key : Bool}
/-- the header up to the lists -/
def hdU (h : Hd) : Hd := { Hd.zero with first := h.first, count := h.count, type := h.type, fn := h.fn, id := h.id, poc := h.poc, spatial := h.spatial, a0 := h.a0, a1 := h.a1, m0 := h.m0, m1 := h.m1, log := h.log, logC := h.logC, w0 := h.w0, w1 := h.w1 }
theorem alS_r (H : HdOk h s p ref key) (hL : Lies f N a (hdL h s p ref key)) : alS f N s p ref key ⟨.rd a false false, Hd.zero⟩ = ⟨.rd (a + (hdL h s p ref key).length) false false, h⟩ := by
 unfold hdL at hL ⊢
 have l1 := hL.right
 have l2 := l1.right
 have h1 := al1_r H hL.left
 have h2 := liS_r H l1.left
 obtain ⟨n1, e1⟩ : ∃ n, n = a + (hdL1 h s key).length := ⟨_, rfl⟩
 rw [← e1] at l1 l2 h1 h2
 obtain ⟨n2, e2⟩ : ∃ n, n = n1 + (hdL2 h p).length := ⟨_, rfl⟩
 rw [← e2] at l2 h2
 unfold hdL3 at l2 ⊢
 have k1 := l2.right
 have q1 := H.qp
 have q2 := H.oa
 have q3 := H.ob
 obtain ⟨n3, e3⟩ : ∃ n, n = n2 + (if 0 < ref then (if key = true then [h.longKey] else mosL h.ops) else []).length := ⟨_, rfl⟩
 rw [← e3] at k1
 have hlk : ¬ (0 < ref ∧ key = true) → h.longKey = false := fun e => by
  cases hq : h.longKey
  ·rfl
  ·obtain ⟨x, y⟩ := H.lk hq; exact absurd ⟨y, x⟩ e
 have hop : ¬ (0 < ref ∧ key = false) → h.ops = [] := fun e => by
  by_cases hq : h.ops = []
  ·exact hq
  ·obtain ⟨x, y⟩ := H.opsN hq; exact absurd ⟨y, x⟩ e
 have hH : alH f N ref key ⟨.rd n2 false false, hdU h⟩ = ⟨.rd n3 false false, { hdU h with longKey := h.longKey, ops := h.ops }⟩ := by
  unfold alH
  by_cases hr : 0 < ref
  ·rw [if_pos hr]
   have kl := l2.left
   rw [if_pos hr] at kl e3
   by_cases hk : key = true
   ·rw [if_pos hk] at kl e3 ⊢
    obtain ⟨x1, x2⟩ := flM_r false kl
    rw [hop (by rw [hk]; simp)]
    show (⟨flM f N false _, { hdU h with longKey := flV f N false _ }⟩ : Hw) = _
    rw [x1, x2, e3]
    rfl
   ·rw [if_neg hk] at kl e3 ⊢
    obtain ⟨x1, x2⟩ := rw_back (moM f N) (moV f N) moL Mo.zero h.ops H.ops.len kl (fun x hx a ha => moM_r ha (H.ops.all x hx))
    rw [hlk (fun q => hk q.2)]
    show (⟨rwM f N (moM f N) Mo.zero [] _, { hdU h with ops := rwV f N (moM f N) (moV f N) Mo.zero [] _ }⟩ : Hw) = _
    rw [x1, x2, e3]
    rfl
  ·rw [if_neg hr] at e3
   rw [if_neg hr, hlk (fun q => hr q.1), hop (fun q => hr q.1), e3]
   rfl
 obtain ⟨x1, y1⟩ := ueM_r 0 k1.left q1.1 (by omega)
 have hQ : alQ f N ⟨.rd n3 false false, { hdU h with longKey := h.longKey, ops := h.ops }⟩ = ⟨.rd (n3 + (ueL h.qp.toNat).length) false false, { hdU h with longKey := h.longKey, ops := h.ops, qp := h.qp }⟩ := by
  show (⟨ueM f N 0 _, { hdU h with longKey := h.longKey, ops := h.ops, qp := ueV f N 0 _ }⟩ : Hw) = _
  rw [x1, y1]
 have k2 := k1.right
 obtain ⟨n4, e4⟩ : ∃ n, n = n3 + (ueL h.qp.toNat).length := ⟨_, rfl⟩
 rw [← e4] at k2 hQ
 have hI : alI f N p ⟨.rd n4 false false, { hdU h with longKey := h.longKey, ops := h.ops, qp := h.qp }⟩ = ⟨.rd (n4 + (if p.deb = true then [h.off] ++ (if h.off = true then [] else seL h.a ++ seL h.b) else []).length) false false, h⟩ := by
  unfold alI
  by_cases hd : p.deb = true
  ·rw [if_pos hd] at k2
   rw [if_pos hd, if_pos hd]
   obtain ⟨x2, y2⟩ := flM_r false k2.left
   have hX : alX f N ⟨.rd n4 false false, { hdU h with longKey := h.longKey, ops := h.ops, qp := h.qp }⟩ = ⟨.rd (n4 + 1) false false, { hdU h with longKey := h.longKey, ops := h.ops, qp := h.qp, off := h.off }⟩ := by
    show (⟨flM f N false _, { hdU h with longKey := h.longKey, ops := h.ops, qp := h.qp, off := flV f N false _ }⟩ : Hw) = _
    rw [x2, y2]
   rw [hX]
   unfold alV
   by_cases ho : h.off = true
   ·obtain ⟨z1, z2⟩ := H.ab (.inl ho)
    rw [if_pos ho]
    rw [if_pos ho]
    obtain ⟨c1, c2, c3, c4, c5, c6, c7, c8, c9, c10, c11, c12, c13, c14, c15, c16, c17, c18, c19, c20, c21⟩ := h
    simp only at z1 z2
    subst z1 z2
    rfl
   ·have k3 := k2.right
    rw [if_neg ho] at k3
    rw [if_neg ho]
    rw [if_neg ho]
    obtain ⟨x3, y3⟩ := seM_r 0 k3.left (by omega) (by omega)
    obtain ⟨x4, y4⟩ := seM_r 0 k3.right (by omega) (by omega)
    have hY : alY f N ⟨.rd (n4 + 1) false false, { hdU h with longKey := h.longKey, ops := h.ops, qp := h.qp, off := h.off }⟩ = ⟨.rd (n4 + 1 + (seL h.a).length) false false, { hdU h with longKey := h.longKey, ops := h.ops, qp := h.qp, off := h.off, a := h.a }⟩ := by
     show (⟨seM f N 0 _, { hdU h with longKey := h.longKey, ops := h.ops, qp := h.qp, off := h.off, a := seV f N 0 _ }⟩ : Hw) = _
     have e : n4 + [h.off].length = n4 + 1 := rfl
     rw [e] at x3 y3
     rw [x3, y3]
    have hZ : alZ f N ⟨.rd (n4 + 1 + (seL h.a).length) false false, { hdU h with longKey := h.longKey, ops := h.ops, qp := h.qp, off := h.off, a := h.a }⟩ = ⟨.rd (n4 + 1 + (seL h.a).length + (seL h.b).length) false false, h⟩ := by
     show (⟨seM f N 0 _, { hdU h with longKey := h.longKey, ops := h.ops, qp := h.qp, off := h.off, a := h.a, b := seV f N 0 _ }⟩ : Hw) = _
     have e : n4 + [h.off].length = n4 + 1 := rfl
     rw [e] at x4 y4
     rw [x4, y4]
     rfl
    rw [hY, hZ]
    simp only [List.length_append, List.length_cons, List.length_nil, Nat.zero_add, Nat.add_assoc]
  ·have hd' : p.deb = false := by simpa using hd
   obtain ⟨z1, z2⟩ := H.ab (.inr hd')
   have hoff : h.off = false := by
    cases hq : h.off
    ·rfl
    ·exact absurd (H.offD hq) hd
   rw [if_neg hd, if_neg hd]
   obtain ⟨c1, c2, c3, c4, c5, c6, c7, c8, c9, c10, c11, c12, c13, c14, c15, c16, c17, c18, c19, c20, c21⟩ := h
   simp only at z1 z2 hoff
   subst z1 z2 hoff
   rfl
 unfold alS
 rw [h1, h2]
 show alI f N p (alQ f N (alH f N ref key ⟨.rd n2 false false, hdU h⟩)) = _
 rw [hH, hQ, hI, e4, e3, e2, e1]
 simp only [List.length_append, Nat.add_assoc]
theorem getHd_back (hm : mayHd h s p ref key = true) (hL : Lies f N a (hdL h s p ref key)) : getHd f N s p ref key a = (h, 0, a + (hdL h s p ref key).length) := by
 have H := mayHd_iff hm
 have hr := alS_r H hL
 unfold getHd
 rw [if_pos (by rw [(maySp_iff s).2 H.sp, (mayPp_iff p).2 H.pp, inR_yes H.rf]; rfl), hr]
 simp only
 rw [if_neg (by simp), if_neg (by rw [hm]; simp)]
theorem flat_le {α : Type} (L : α → List Bool) (B : Nat) : ∀ (l : List α), (∀ x ∈ l, (L x).length ≤ B) → (l.flatMap L).length ≤ l.length * B
 | [], _ => by simp
 | y :: l, h => by
  have h1 := flat_le L B l (fun x hx => h x (List.mem_cons_of_mem _ hx))
  have h2 := h y (List.mem_cons_self ..)
  rw [List.flatMap_cons, List.length_append, List.length_cons, Nat.add_mul, Nat.one_mul]
  omega
theorem ite_le {c : Prop} [Decidable c] {l k : List Bool} {B : Nat} (h1 : l.length ≤ B) (h2 : k.length ≤ B) : (if c then l else k).length ≤ B := by
 split
 ·exact h1
 ·exact h2
theorem ue_le {x : Int} (h : x ≤ 2147483646) : (ueL x.toNat).length ≤ 61 := ueL_le (by omega)
theorem mdsL_le {l : List Md} {is : Bool} (H : MdsOk l is) : (mdsL l).length ≤ 3000 := by
 unfold mdsL
 have hl := H.len
 have h1 := ueL_le (x := l.length) (by omega)
 have h2 := flat_le mdL 122 l (fun x hx => by
  have := H.all x hx
  have h1 := ue_le (x := x.k) (by omega)
  have h2 := ue_le (x := x.v) (by omega)
  unfold mdL
  rw [List.length_append]
  omega)
 rw [List.length_append]
 omega
theorem mosL_le {l : List Mo} (H : MosOk l) : (mosL l).length ≤ 3100 := by
 unfold mosL
 have hl := H.len
 have h1 := ueL_le (x := l.length) (by omega)
 have h2 := flat_le moL 183 l (fun x hx => by
  have := H.all x hx
  have z : ([] : List Bool).length ≤ 61 := Nat.zero_le 61
  have h1 := ue_le (x := x.k) (by omega)
  have h2 := ite_le (c := hasA x.k = true) (ue_le (x := x.a) (by omega)) z
  have h3 := ite_le (c := hasB x.k = true) (ue_le (x := x.b) (by omega)) z
  unfold moL
  rw [List.length_append, List.length_append]
  omega)
 rw [List.length_append]
 omega
theorem wtsL_le {l : List Wt} {m : Int} (H : WtsOk l m) (hm : m ≤ 8) : (wtsL l).length ≤ 3000 := by
 unfold wtsL
 have hl := H.len
 have h2 := flat_le wtB 366 l (fun x hx => by
  have := H.all x hx
  have h1 := seL_le (x := x.s0) (by omega) (by omega)
  have h2 := seL_le (x := x.o0) (by omega) (by omega)
  have h3 := seL_le (x := x.s1) (by omega) (by omega)
  have h4 := seL_le (x := x.o1) (by omega) (by omega)
  have h5 := seL_le (x := x.s2) (by omega) (by omega)
  have h6 := seL_le (x := x.o2) (by omega) (by omega)
  unfold wtB
  simp only [List.length_append]
  omega)
 omega
theorem hdL_len (H : HdOk h s p ref key) : (hdL h s p ref key).length ≤ 40000 := by
 have q0 := H.area
 have q1 := H.first
 have q2 := H.count
 have q3 := H.type
 have q4 := H.id
 have q5 := H.a0
 have q6 := H.a1
 have q7 := H.qp
 have q8 := H.oa
 have q9 := H.ob
 obtain ⟨_, _, ⟨hf1, hf2⟩, ⟨hp1, hp2⟩, _⟩ := H.sp
 have z : ∀ B, ([] : List Bool).length ≤ B := fun B => Nat.zero_le B
 have a1 := ue_le (x := h.first) (by omega)
 have a2 := ue_le (x := h.count - 1) (by omega)
 have a3 := ue_le (x := h.type) (by omega)
 have a4 : (dig h.fn.toNat s.fb.toNat).length ≤ 61 := by rw [dig_len]; omega
 have a5 := ite_le (c := key = true) (ue_le (x := h.id) (by omega)) (z 61)
 have a6 : (if s.pt = 0 then dig h.poc.toNat s.pb.toNat else []).length ≤ 61 := ite_le (by rw [dig_len]; omega) (z 61)
 have b1 : (if h.type = 1 then [h.spatial] else []).length ≤ 61 := ite_le (by simp) (z 61)
 have b2 := ite_le (c := h.type ≠ 2) (ue_le (x := h.a0 - 1) (by omega)) (z 61)
 have b3 := ite_le (c := h.type = 1) (ue_le (x := h.a1 - 1) (by omega)) (z 61)
 have b4 := ite_le (c := h.type ≠ 2) (mdsL_le H.m0) (z 3000)
 have b5 := ite_le (c := h.type = 1) (mdsL_le H.m1) (z 3000)
 have b6 : (if wgt h.type p = true then ueL h.log.toNat ++ (ueL h.logC.toNat ++ (wtsL h.w0 ++ wtsL h.w1)) else []).length ≤ 7000 := by
  by_cases hw : wgt h.type p = true
  ·rw [if_pos hw]
   obtain ⟨w1, w2, w3, w4⟩ := H.wy hw
   have c1 := ue_le (x := h.log) (by omega)
   have c2 := ue_le (x := h.logC) (by omega)
   have c3 := wtsL_le w3 (by omega)
   have c4 := wtsL_le w4 (by omega)
   simp only [List.length_append]
   omega
  ·rw [if_neg hw]; exact z 7000
 have c1 : (if 0 < ref then (if key = true then [h.longKey] else mosL h.ops) else []).length ≤ 3100 := ite_le (ite_le (by simp) (mosL_le H.ops)) (z 3100)
 have c2 := ue_le (x := h.qp) (by omega)
 have c3 : (if p.deb = true then [h.off] ++ (if h.off = true then [] else seL h.a ++ seL h.b) else []).length ≤ 200 := by
  refine ite_le ?_ (z 200)
  have d1 := seL_le (x := h.a) (by omega) (by omega)
  have d2 := seL_le (x := h.b) (by omega) (by omega)
  have d3 : (if h.off = true then [] else seL h.a ++ seL h.b).length ≤ 122 := ite_le (z 122) (by rw [List.length_append]; omega)
  rw [List.length_append, List.length_singleton]
  omega
 unfold hdL hdL1 hdL2 hdL3
 simp only [List.length_append] at *
 omega
end
end Go.Proofs.YtjokibagciehlaaGreat

namespace Go.Proofs.YtjokibagciehlaaGreat
open Go.RowKit
set_option linter.unusedVariables false
set_option linter.unusedSimpArgs false

def tS : Sp := ⟨2, 2, 4, 0, 4, 0, [], 2, 0⟩
def tP : Pp := ⟨false, false, 0, 26, 0, false, false, 1, 1⟩
def tH : Hd := { Hd.zero with count := 4, type := 2, qp := 26 }
theorem built_ts : Tryz.prog.built 29 [(0, .int .i64 2), (1, .int .i64 2), (2, .int .i64 4), (4, .int .i64 4), (7, .int .i64 2)] = some (spV tS none 0) := by kernel_rfl
theorem built_tp : Tryz.prog.built 31 [(3, .int .i64 26), (7, .int .i64 1), (8, .int .i64 1)] = some (ppV tP) := by kernel_rfl
theorem built_th : Tryz.prog.built 26 [(1, .int .i64 4), (2, .int .i64 2), (17, .int .i64 26)] = some (hdV tH Ha.zero) := by kernel_rfl
theorem sp_one (s : Sp) (A : Option Addr) (c : Nat) : (spV s A c).all (·.oneCell') = true := by simp [spV, Value.oneCell']
theorem pp_one (p : Pp) : (ppV p).all (·.oneCell') = true := by simp [ppV, Value.oneCell']
theorem wpList_builtN {P : Program} {ops : Array Oper} {rest : List Oper} {o : Oper} {a : Act} {w : World} {Q : Exit → Act → World → Prop} (hg : o.guard = none) (t : TypeId) (parts : Array (Nat × Operand)) (ho : o.op = .build t parts) (l : List (Nat × Value)) (hl : (parts.map fun (i, x) => (i, a.eval x)).toList = l) (v : Array Value) (hv : P.built t l = some v)
  (h : wpList P ops Q rest (a.put o.dst (.agg v)) w) : wpList P ops Q (o :: rest) a w := by
 refine wpList_build hg t parts ho (by rw [hl, hv]; rfl) ?_
 rw [hl, hv]
 exact h
theorem tiny_results (a : Act) (w : World) (B0 B1 B2 : Nat) (c0 c1 c2 : Array Value) (h0 : a.tmps.getD 0 undef = .pointer (some ⟨B0, 0, none⟩)) (h1 : a.tmps.getD 1 undef = .pointer (some ⟨B1, 0, none⟩)) (h2 : a.tmps.getD 2 undef = .pointer (some ⟨B2, 0, none⟩))
  (k0 : Bk w B0 29 c0) (k1 : Bk w B1 31 c1) (k2 : Bk w B2 26 c2) (s0 : c0.size = 9) (s1 : c1.size = 9) (s2 : c2.size = 21) :
  (results Tryz.f55 a.tmps).run Tryz.prog w = .ok (.tuple #[.agg c0, .agg c1, .agg c2]) w := by
 have h0' : a.tmps[0]?.getD undef = .pointer (some ⟨B0, 0, none⟩) := by simpa using h0
 have h1' : a.tmps[1]?.getD undef = .pointer (some ⟨B1, 0, none⟩) := by simpa using h1
 have h2' : a.tmps[2]?.getD undef = .pointer (some ⟨B2, 0, none⟩) := by simpa using h2
 have l0 := run_loadVar_row (P := Tryz.prog) w B0 29 29 c0 (0, 0) _ k0 Tryz.underlying29 rfl (by rw [s0]; kernel_rfl)
 have l1 := run_loadVar_row (P := Tryz.prog) w B1 31 31 c1 (0, 0) _ k1 Tryz.underlying31 rfl (by rw [s1]; kernel_rfl)
 have l2 := run_loadVar_row (P := Tryz.prog) w B2 26 26 c2 (0, 0) _ k2 Tryz.underlying26 rfl (by rw [s2]; kernel_rfl)
 simp [results, Tryz.results55, h0', h1', h2', asAddr, l0, l1, l2, Sem.run_bind]
set_option maxRecDepth 100000 in
set_option maxHeartbeats 1600000 in
theorem tiny_any (w : World) : Calls Tryz.prog 55 #[] w fun e w' => e = .returned (.tuple #[.agg (spV tS none 0), .agg (ppV tP), .agg (hdV tH Ha.zero)]) ∧ Below w.heap.size w w' := by
 obtain ⟨w3, hw3⟩ : ∃ w3, w3 = ((w.alloc (.cells (spV .zero none 0) 29)).alloc (.cells (ppV .zero) 31)).alloc (.cells (hdV Hd.zero Ha.zero) 26) := ⟨_, rfl⟩
 have k1 : Bk w3 w.heap.size 29 (spV .zero none 0) := hw3 ▸ ((Bk.new w _ _).alloc _).alloc _
 have k2 : Bk w3 (w.heap.size + 1) 31 (ppV .zero) := by
  have h := (Bk.new (w.alloc (.cells (spV .zero none 0) 29)) 31 (ppV .zero)).alloc (.cells (hdV Hd.zero Ha.zero) 26)
  rw [World.size_alloc] at h
  exact hw3 ▸ h
 have k3 : Bk w3 (w.heap.size + 1 + 1) 26 (hdV Hd.zero Ha.zero) := by
  have h := Bk.new ((w.alloc (.cells (spV .zero none 0) 29)).alloc (.cells (ppV .zero) 31)) 26 (hdV Hd.zero Ha.zero)
  rw [World.size_alloc, World.size_alloc] at h
  exact hw3 ▸ h
 have hb : Below w.heap.size w w3 := by
  rw [hw3]
  exact (((Below.refl w.heap.size w).alloc (Nat.le_refl _) _).alloc (by simp) _).alloc (by simp; omega) _
 simp only [spV, ppV, hdV, Hd.zero, Ha.zero, Sp.zero, Pp.zero, List.length_nil] at hw3
 go_enter Tryz.func55, Tryz.ntmps55
 go_upto_region 1 with fail
 rw [← hw3]
 clear hw3
 refine wp_region_lit ?_
 refine wpList_builtN rfl _ _ rfl [(0, .int .i64 2), (1, .int .i64 2), (2, .int .i64 4), (4, .int .i64 4), (7, .int .i64 2)] (by simp [Act.eval]) _ built_ts ?_
 refine wpList_builtN rfl _ _ rfl [(3, .int .i64 26), (7, .int .i64 1), (8, .int .i64 1)] (by simp [Act.eval]) _ built_tp ?_
 refine wpList_builtN rfl _ _ rfl [(1, .int .i64 4), (2, .int .i64 2), (17, .int .i64 26)] (by simp [Act.eval]) _ built_th ?_
 refine wpList_store_row rfl _ _ _ rfl w.heap.size (spV tS none 0) rfl rfl _ _ k1 (by kernel_rfl) rfl (sp_one _ _ _) ?_
 have k1' := bk_setRow (cs := spV tS none 0) k1
 have k2' := bk_setRow_far (g := w.heap.size) (cs' := spV tS none 0) k2 (by omega)
 have k3' := bk_setRow_far (g := w.heap.size) (cs' := spV tS none 0) k3 (by omega)
 refine wpList_store_row rfl _ _ _ rfl (w.heap.size + 1) (ppV tP) rfl rfl _ _ k2' (by kernel_rfl) rfl (pp_one _) ?_
 have j1 := bk_setRow_far (g := w.heap.size + 1) (cs' := ppV tP) k1' (by omega)
 have j2 := bk_setRow (cs := ppV tP) k2'
 have j3 := bk_setRow_far (g := w.heap.size + 1) (cs' := ppV tP) k3' (by omega)
 refine wpList_store_row rfl _ _ _ rfl (w.heap.size + 1 + 1) (hdV tH Ha.zero) rfl rfl _ _ j3 (by kernel_rfl) rfl (hd_one _ _) ?_
 have i1 := bk_setRow_far (g := w.heap.size + 1 + 1) (cs' := hdV tH Ha.zero) j1 (by omega)
 have i2 := bk_setRow_far (g := w.heap.size + 1 + 1) (cs' := hdV tH Ha.zero) j2 (by omega)
 have i3 := bk_setRow (cs := hdV tH Ha.zero) j3
 have ht : Touch (fun _ => False) w (((w3.setRow w.heap.size (spV tS none 0)).setRow (w.heap.size + 1) (ppV tP)).setRow (w.heap.size + 1 + 1) (hdV tH Ha.zero)) :=
  touch_setRow (touch_setRow (touch_setRow (Touch.of_new hb) _ _ (by omega)) _ _ (by omega)) _ _ (by omega)
 have I1 := Lib.hid i1
 have I2 := Lib.hid i2
 have I3 := Lib.hid i3
 have HT := Lib.hid ht
 clear i1 i2 i3 ht j1 j2 j3 k1' k2' k3' k1 k2 k3 hb
 go_wp2_with fail
 exact bodyPost_ret (tiny_results _ _ w.heap.size (w.heap.size + 1) (w.heap.size + 1 + 1) _ _ _ rfl rfl rfl I1.out I2.out I3.out rfl rfl rfl) rfl ⟨rfl, HT.out.below (fun _ h => h.elim) (Nat.le_refl _)⟩
end Go.Proofs.YtjokibagciehlaaGreat

namespace Go.Proofs.YtjokibagciehlaaGreat
open Go.RowKit
set_option linter.unusedVariables false
set_option linter.unusedSimpArgs false

section
variable {P : Program} {ops : Array Oper} {rest : List Oper} {o : Oper} {a : Act} {w w' : World} {Q : Exit → Act → World → Prop}
theorem wpl_call (hg : o.guard = none) {f : FuncId} {args : Array Value} (hrun : (execOp a.eval o).run P w = .ok (.enter f args) w)
  (hc : Calls P f args w fun e w' => ∃ v, e = .returned v ∧ wpList P ops Q rest (a.put o.dst v) w') : wpList P ops Q (o :: rest) a w := by
 refine wpList_plain hg fun K hK => ?_
 unfold Oper.wp
 rw [hrun, Oper.upon_enter]
 refine hc.mono ?_
 rintro e w' ⟨v, rfl, h⟩
 exact hK _ _ h
theorem wpl_val (hg : o.guard = none) {v : Value} (hrun : (execOp a.eval o).run P w = .ok (.value v) w') (h : wpList P ops Q rest (a.put o.dst v) w') : wpList P ops Q (o :: rest) a w := by
 refine wpList_plain hg fun K hK => ?_
 unfold Oper.wp
 rw [hrun]
 exact hK _ _ h
end
theorem run_alloc_sps (ρ : Operand → Value) (w : World) (o : Oper) (ho : o.op = .alloc 29) : (execOp ρ o).run Tryz.prog w = .ok (.value (.pointer (some ⟨w.heap.size, 0, none⟩))) (w.alloc (.cells (spV .zero none 0) 29)) := by
 simp only [execOp, ho]
 kernel_rfl
theorem run_alloc_pps (ρ : Operand → Value) (w : World) (o : Oper) (ho : o.op = .alloc 31) : (execOp ρ o).run Tryz.prog w = .ok (.value (.pointer (some ⟨w.heap.size, 0, none⟩))) (w.alloc (.cells (ppV .zero) 31)) := by
 simp only [execOp, ho]
 kernel_rfl
theorem run_alloc_head (ρ : Operand → Value) (w : World) (o : Oper) (ho : o.op = .alloc 26) : (execOp ρ o).run Tryz.prog w = .ok (.value (.pointer (some ⟨w.heap.size, 0, none⟩))) (w.alloc (.cells (hdV Hd.zero Ha.zero) 26)) := by
 simp only [execOp, ho]
 kernel_rfl
/-- Tiny's answer in three boxes, from block n on -/
structure Tn (w w4 : World) (n : Nat) (s : Sp) (p : Pp) (h : Hd) (q : Ha) : Prop where
 k1 : Bk w4 n 29 (spV s none 0)
 k2 : Bk w4 (n + 1) 31 (ppV p)
 k3 : Bk w4 (n + 1 + 1) 26 (hdV h q)
 below : Below w.heap.size w w4
 ge : w.heap.size ≤ n
def tnW (w1 : World) : World := (((((w1.alloc (.cells (spV .zero none 0) 29)).alloc (.cells (ppV .zero) 31)).alloc (.cells (hdV Hd.zero Ha.zero) 26)).setRow w1.heap.size (spV tS none 0)).setRow (w1.heap.size + 1) (ppV tP)).setRow (w1.heap.size + 1 + 1) (hdV tH Ha.zero)
theorem Tn.go {w w4 w5 : World} {n : Nat} {s : Sp} {p : Pp} {h : Hd} {q : Ha} (H : Tn w w4 n s p h q) (hb : Below w4.heap.size w4 w5) : Tn w w5 n s p h q := ⟨H.k1.go hb, H.k2.go hb, H.k3.go hb, H.below.trans (hb.mono H.below.size), H.ge⟩
theorem tn_zero (w1 : World) : Bk (((w1.alloc (.cells (spV .zero none 0) 29)).alloc (.cells (ppV .zero) 31)).alloc (.cells (hdV Hd.zero Ha.zero) 26)) w1.heap.size 29 (spV .zero none 0) ∧
  Bk (((w1.alloc (.cells (spV .zero none 0) 29)).alloc (.cells (ppV .zero) 31)).alloc (.cells (hdV Hd.zero Ha.zero) 26)) (w1.heap.size + 1) 31 (ppV .zero) ∧
  Bk (((w1.alloc (.cells (spV .zero none 0) 29)).alloc (.cells (ppV .zero) 31)).alloc (.cells (hdV Hd.zero Ha.zero) 26)) (w1.heap.size + 1 + 1) 26 (hdV Hd.zero Ha.zero) := by
 refine ⟨((Bk.new w1 _ _).alloc _).alloc _, ?_, ?_⟩
 ·have h := (Bk.new (w1.alloc (.cells (spV .zero none 0) 29)) 31 (ppV .zero)).alloc (.cells (hdV Hd.zero Ha.zero) 26)
  rwa [World.size_alloc] at h
 ·have h := Bk.new ((w1.alloc (.cells (spV .zero none 0) 29)).alloc (.cells (ppV .zero) 31)) 26 (hdV Hd.zero Ha.zero)
  rwa [World.size_alloc, World.size_alloc] at h
theorem Tn.new {w w1 : World} (hb : Below w.heap.size w w1) : Tn w (tnW w1) w1.heap.size tS tP tH Ha.zero := by
 obtain ⟨k1, k2, k3⟩ := tn_zero w1
 have hs := hb.size
 have hb3 : Below w.heap.size w (((w1.alloc (.cells (spV .zero none 0) 29)).alloc (.cells (ppV .zero) 31)).alloc (.cells (hdV Hd.zero Ha.zero) 26)) := ((hb.alloc hs _).alloc (by simp; omega) _).alloc (by simp; omega) _
 refine ⟨?_, ?_, bk_setRow (bk_setRow_far (bk_setRow_far k3 (by omega)) (by omega)), ?_, hs⟩
 ·exact bk_setRow_far (bk_setRow_far (bk_setRow k1) (by omega)) (by omega)
 ·exact bk_setRow_far (bk_setRow (bk_setRow_far k2 (by omega))) (by omega)
 ·exact (touch_setRow (touch_setRow (touch_setRow (Touch.of_new (S := fun _ => False) hb3) _ _ (by omega)) _ _ (by omega)) _ _ (by omega)).below (fun _ h => h.elim) (Nat.le_refl _)
/-- a field of the header is set -/
theorem Tn.hset {w w4 : World} {n : Nat} {s : Sp} {p : Pp} {h h' : Hd} {q q' : Ha} (H : Tn w w4 n s p h q) (i : Nat) (u : Value) (e : (hdV h q).setIfInBounds i u = hdV h' q') : Tn w (w4.setCell ⟨n + 1 + 1, i, none⟩ u) n s p h' q' := by
 have hg := H.ge
 exact ⟨H.k1.far (by show n ≠ n + 1 + 1; omega) _, H.k2.far (by show n + 1 ≠ n + 1 + 1; omega) _, e ▸ H.k3.set_ i u, H.below.setCell (by show w.heap.size ≤ n + 1 + 1; omega) _, hg⟩
end Go.Proofs.YtjokibagciehlaaGreat

namespace Go.Proofs.YtjokibagciehlaaGreat
open Go.RowKit
set_option linter.unusedVariables false
set_option linter.unusedSimpArgs false

theorem keepf {L : Array Bool} {a : Act} {i j d d' : Nat} {v X : Value} (h : L.getD j false = true → a.eval (.tmp d') = X) (hi : i < L.size) (hs : d < a.tmps.size) (hj : j ≠ i) (hd : d' ≠ d) : (L.setIfInBounds i true).getD j false = true → (a.put (some d) v).eval (.tmp d') = X := fun hl => by
 rw [getD_done hi, if_neg hj] at hl
 rw [ev_put hs, if_neg hd]
 exact h hl
theorem newf {L : Array Bool} {a : Act} {i d : Nat} {v : Value} (hs : d < a.tmps.size) : (L.setIfInBounds i true).getD i false = true → (a.put (some d) v).eval (.tmp d) = v := fun _ => by rw [ev_put hs, if_pos rfl]
theorem keepn {L : Array Bool} {a : Act} {i j d' : Nat} {X : Value} (h : L.getD j false = true → a.eval (.tmp d') = X) (hi : i < L.size) (hj : j ≠ i) : (L.setIfInBounds i true).getD j false = true → a.eval (.tmp d') = X := fun hl => by
 rw [getD_done hi, if_neg hj] at hl
 exact h hl
theorem wpOp_callE {P : Program} {ops : Array Oper} {Q : Exit → Act → World → Prop} {i : Nat} {o : Oper} {K : Act → World → Prop} {a : Act} {w : World} {f : FuncId} {args : Array Value} (ho : ops[i]? = some o) (hg : o.guard = none)
  (hr : (execOp a.eval o).run P w = .ok (.enter f args) w) (hc : Calls P f args w fun e w' => ∃ v, e = .returned v ∧ K (a.put o.dst v) w') : wpOp P ops Q i K a w := by
 refine wpOp_step ho (fun K' h => ?_)
 have : Region.wanted o (yielded ops a.tmps) = true := by simp [Region.wanted, hg]
 rw [if_pos this]
 unfold Oper.wp
 rw [hr]
 refine hc.mono ?_
 rintro e w' ⟨v, rfl, hk⟩
 exact h _ _ hk
theorem more {L : Array Bool} {i j : Nat} (hi : i < L.size) (h : L.getD j false = true) : (L.setIfInBounds i true).getD j false = true := by
 rw [getD_done hi]
 split
 ·rfl
 ·exact h
theorem other {L : Array Bool} {i j : Nat} (hi : i < L.size) (hj : j ≠ i) (hl : (L.setIfInBounds i true).getD j false = true) : L.getD j false = true := by
 rw [getD_done hi, if_neg hj] at hl
 exact hl
theorem frame_back (a a0 : Act) (D : List Nat) (hs : a.tmps.size = a0.tmps.size) (hd : a.defers = a0.defers) (h : ∀ t, t ∉ D → a.eval (.tmp t) = a0.eval (.tmp t)) : a = D.foldl (fun b d => b.put (some d) (a.eval (.tmp d))) a0 := by
 have key : ∀ (D : List Nat) (b : Act), b.tmps.size = a.tmps.size → b.defers = a.defers → (∀ t, t ∉ D → a.eval (.tmp t) = b.eval (.tmp t)) → a = D.foldl (fun b d => b.put (some d) (a.eval (.tmp d))) b := by
  intro D
  induction D with
  | nil =>
   intro b h1 h2 h3
   obtain ⟨ta, da⟩ := a
   obtain ⟨tb, db⟩ := b
   simp only at h1 h2 h3
   subst h2
   have : ta = tb := by
    apply Array.ext
    ·exact h1.symm
    ·intro i hi hj
     have := h3 i (by simp)
     simp only [Act.eval, Array.getD_eq_getD_getElem?, Array.getElem?_eq_getElem hi, Array.getElem?_eq_getElem hj, Option.getD_some] at this
     exact this
   rw [this]
   rfl
  | cons d D ih =>
   intro b h1 h2 h3
   rw [List.foldl_cons]
   refine ih _ (by rw [put_size]; exact h1) h2 fun t ht => ?_
   by_cases hdl : d < b.tmps.size
   ·rw [ev_put hdl]
    by_cases htd : t = d
    ·rw [if_pos htd, htd]
    ·rw [if_neg htd]
     exact h3 t (by simp [htd, ht])
   ·by_cases htd : t = d
    ·subst htd
     have e1 : a.eval (.tmp t) = undef := by simp only [Act.eval, Array.getD_eq_getD_getElem?]; rw [Array.getElem?_eq_none (by omega)]; rfl
     have e2 : (b.put (some t) (a.eval (.tmp t))).eval (.tmp t) = undef := by simp only [Act.eval, Array.getD_eq_getD_getElem?]; rw [Array.getElem?_eq_none (by rw [put_size]; omega)]; rfl
     exact e1.trans e2.symm
    ·have e2 : (b.put (some d) (a.eval (.tmp d))).eval (.tmp t) = b.eval (.tmp t) := by
      simp only [Act.put, Act.eval, Array.getD_eq_getD_getElem?, Array.getElem?_setIfInBounds]
      rw [if_neg (fun q => htd q.symm)]
     rw [e2]
     exact h3 t (by simp [htd, ht])
 exact key D a0 hs.symm hd.symm h
theorem run_load_row {ρ : Operand → Value} {w : World} {o : Oper} {x : Operand} {g : Nat} {ty : TypeId} {cs : Array Value} (ho : o.op = .load ty x) (hx : ρ x = .pointer (some ⟨g, 0, none⟩)) (hl : (loadVar ty ⟨g, 0, none⟩).run Tryz.prog w = .ok (.agg cs) w) :
  (execOp ρ o).run Tryz.prog w = .ok (.value (.agg cs)) w := by
 simp only [execOp, ho, hx, Instr.loadAt, Instr.sureAddr, Sem.run_bind, Sem.run_pure, Result.andThen_ok, hl]
theorem load_sps {w : World} {g : Nat} {s : Sp} {A : Option Addr} {c : Nat} (h : Bk w g 29 (spV s A c)) : (loadVar 29 ⟨g, 0, none⟩).run Tryz.prog w = .ok (.agg (spV s A c)) w := run_loadVar_row w g _ _ _ (0, 0) _ h Tryz.underlying29 rfl (by kernel_rfl)
theorem load_pps {w : World} {g : Nat} {p : Pp} (h : Bk w g 31 (ppV p)) : (loadVar 31 ⟨g, 0, none⟩).run Tryz.prog w = .ok (.agg (ppV p)) w := run_loadVar_row w g _ _ _ (0, 0) _ h Tryz.underlying31 rfl (by kernel_rfl)
theorem run_store_row {ρ : Operand → Value} {w : World} {o : Oper} {x y : Operand} {g : Nat} {t ty : TypeId} {old cells : Array Value} (ho : o.op = .store ty x y) (hx : ρ x = .pointer (some ⟨g, 0, none⟩)) (hy : ρ y = .agg cells) (hg : Bk w g t old) (hi : (Tryz.prog.info? ty).map (·.size) = some cells.size) (hold : old.size = cells.size) (h1 : cells.all (·.oneCell') = true) :
  (execOp ρ o).run Tryz.prog w = .ok .skip (w.setRow g cells) := by
 simp only [execOp, ho, hx, hy, Instr.storeAt, Instr.sureAddr, Sem.run_bind, Sem.run_pure, Result.andThen_ok, run_storeVar_row w g t ty old cells hg hi hold h1]
theorem load_head {w : World} {g : Nat} {h : Hd} {q : Ha} (k : Bk w g 26 (hdV h q)) : (loadVar 26 ⟨g, 0, none⟩).run Tryz.prog w = .ok (.agg (hdV h q)) w := run_loadVar_row w g _ _ _ (0, 0) _ k Tryz.underlying26 rfl (by kernel_rfl)
def tH2 : Hd := { tH with qp := 52 }
theorem en_bytes {a : Act} {w : World} {t : Nat} {v : Value} {o : Oper} {ts : Array TypeId} (q : o.op = .call { callee := .value (.func 15), args := #[.tmp t], argTypes := ts }) (ha : a.eval (.tmp t) = v) :
  (execOp a.eval o).run Tryz.prog w = .ok (.enter 15 #[v]) w := by
 simp only [execOp, q, resolve, List.map_toArray, List.map_cons, List.map_nil, ha]
 go_simp
theorem en_open {a : Act} {w : World} {t : Nat} {v : Value} {o : Oper} {ts : Array TypeId} (q : o.op = .call { callee := .value (.func 19), args := #[.tmp t], argTypes := ts }) (ha : a.eval (.tmp t) = v) :
  (execOp a.eval o).run Tryz.prog w = .ok (.enter 19 #[v]) w := by
 simp only [execOp, q, resolve, List.map_toArray, List.map_cons, List.map_nil, ha]
 go_simp
theorem en_get {a : Act} {w : World} {t0 t1 t2 : Nat} {v0 v1 v2 : Value} {o : Oper} {ts : Array TypeId} (q : o.op = .call { callee := .value (.func 23), args := #[.tmp t0, .tmp t1, .tmp t2, .const (.int .i64 1), .const (.bool true)], argTypes := ts }) (h0 : a.eval (.tmp t0) = v0) (h1 : a.eval (.tmp t1) = v1) (h2 : a.eval (.tmp t2) = v2) :
  (execOp a.eval o).run Tryz.prog w = .ok (.enter 23 #[v0, v1, v2, .int .i64 1, .bool true]) w := by
 have hc : a.eval (.const (.int .i64 1)) = .int .i64 1 := rfl
 have hd : a.eval (.const (.bool true)) = .bool true := rfl
 simp only [execOp, q, resolve, List.map_toArray, List.map_cons, List.map_nil, h0, h1, h2, hc, hd]
 go_simp
theorem run_move {ρ : Operand → Value} {w : World} {o : Oper} {x : Operand} {v : Value} (ho : o.op = .move x) (hx : ρ x = v) : (execOp ρ o).run Tryz.prog w = .ok (.value v) w := by
 simp only [execOp, ho, hx]
 go_simp
theorem run_assign {ρ : Operand → Value} {w : World} {o : Oper} {x : Operand} {v : Value} (ho : o.op = .assign x) (hx : ρ x = v) : (execOp ρ o).run Tryz.prog w = .ok (.value v) w := by
 simp only [execOp, ho, hx]
 go_simp
theorem run_ext0 {ρ : Operand → Value} {w : World} {o : Oper} {x : Operand} {v u : Value} (ho : o.op = .extract x 0) (hx : ρ x = .tuple #[v, u]) : (execOp ρ o).run Tryz.prog w = .ok (.value v) w := by
 simp only [execOp, ho, hx]
 go_simp
theorem run_ext1 {ρ : Operand → Value} {w : World} {o : Oper} {x : Operand} {v u : Value} (ho : o.op = .extract x 1) (hx : ρ x = .tuple #[v, u]) : (execOp ρ o).run Tryz.prog w = .ok (.value u) w := by
 simp only [execOp, ho, hx]
 go_simp
theorem wp_region_invA {P : Program} {id : Nat} {ops : Array Oper} {Q : Exit → Act → World → Prop} {a : Act} {w : World} (hm : P.follows .mixedOrders = true) (Inv : Act → Array Bool → Act → World → Prop)
  (hdown : ∀ (i : Nat) (o : Oper), ops[i]? = some o → ∀ e ∈ o.after, Region.binds .any e = true → e.on < i)
  (h0 : Inv a (Array.replicate ops.size false) a w.drew)
  (hstep : ∀ listed a' w i o, ops[i]? = some o → listed.size = ops.size → listed.getD i true = false → (∀ e ∈ o.after, Region.binds .any e = true → listed.getD e.on false = true) → Inv a listed a' w → wpOp P ops Q i (Inv a (listed.setIfInBounds i true)) a' w)
  (hend : ∀ listed a' w, listed.size = ops.size → (∀ i, i < ops.size → listed.getD i true = true) → Inv a listed a' w → Q .normal a' w) : (Code.region id ops true).wp P Q a w :=
 wp_region_inv hm (Inv a) hdown h0 hstep hend
theorem Tn.touch {w w4 w5 : World} {n g : Nat} {v : Value} {s : Sp} {p : Pp} {h : Hd} {q : Ha} (H : Tn w w4 n s p h q) (ht : Touch (WS g v) w4 w5) (hg : n + 1 + 1 < g) (hv : v.ownBlock = none) : Tn w w5 n s p h q := by
 have hws : ∀ i, WS g v i → i = g := fun i hi => by
  rcases hi with e | e
  ·exact e
  ·rw [hv] at e; cases e
 have hge := H.ge
 exact ⟨H.k1.touch ht (fun e => by have := hws _ e; omega), H.k2.touch ht (fun e => by have := hws _ e; omega), H.k3.touch ht (fun e => by have := hws _ e; omega), Below.touch H.below ht (fun i hi e => by have := hws _ e; omega) (Nat.le_refl _), hge⟩
/-- what has been done -/
structure AF (wB : World) (g : Nat) (S : ByteArray) (L : Array Bool) (a : Act) (w : World) (gr B6 : Nat) (q : Ha) : Prop where
 f0 : L.getD 0 false = true → a.eval (.tmp 22) = .pointer (some ⟨g, 0, none⟩)
 f1 : L.getD 1 false = true → a.eval (.tmp 23) = .string S
 f2 : L.getD 2 false = true → a.eval (.tmp 24) = .pointer (some ⟨gr, 0, none⟩)
 f3 : L.getD 3 false = true → a.eval (.tmp 25) = .agg (spV tS none 0)
 f4 : L.getD 4 false = true → a.eval (.tmp 26) = .agg (ppV tP)
 f5 : L.getD 5 false = true → a.eval (.tmp 27) = .tuple #[.agg (hdV tH q), .int .i64 0]
 f6 : L.getD 6 false = true → a.eval (.tmp 21) = .tuple #[.agg (hdV tH q), .int .i64 0]
 f7 : L.getD 7 false = true → a.eval (.tmp 28) = .agg (hdV tH q)
 f8 : L.getD 8 false = true → a.eval (.tmp 29) = .int .i64 0
 f9 : L.getD 9 false = true → a.eval (.tmp 6) = .pointer (some ⟨B6, 0, none⟩)
 f11 : L.getD 11 false = true → a.eval (.tmp 7) = .int .i64 0
 r2 : L.getD 2 false = true → wB.heap.size ≤ gr ∧ gr < w.heap.size
 rr : L.getD 2 false = true → L.getD 5 false = false → Rr w gr S 0
 r9 : L.getD 9 false = true → wB.heap.size ≤ B6 ∧ ∃ cs, cs.size = 21 ∧ Bk w B6 26 cs
 r10 : L.getD 10 false = true → Bk w B6 26 (hdV tH q)
 ne : L.getD 2 false = true → L.getD 9 false = true → gr ≠ B6
 c6 : L.getD 6 false = true → L.getD 5 false = true
 c7 : L.getD 7 false = true → L.getD 5 false = true
 c10 : L.getD 10 false = true → L.getD 5 false = true ∧ L.getD 9 false = true
def AI (wB : World) (g : Nat) (S : ByteArray) (a0 : Act) (L : Array Bool) (a : Act) (w : World) : Prop :=
 a.defers = [] ∧ a.tmps.size = 70 ∧ (∀ t, t ∉ [6, 7, 21, 22, 23, 24, 25, 26, 27, 28, 29] → a.eval (.tmp t) = a0.eval (.tmp t)) ∧ Below wB.heap.size wB w ∧ ∃ gr B6 q, AF wB g S L a w gr B6 q
theorem put_other {a a0 : Act} {d : Nat} {v : Value} {D : List Nat} (hs : d < a.tmps.size) (hd : d ∈ D) (h : ∀ t, t ∉ D → a.eval (.tmp t) = a0.eval (.tmp t)) : ∀ t, t ∉ D → (a.put (some d) v).eval (.tmp t) = a0.eval (.tmp t) := fun t ht => by
 rw [ev_put hs, if_neg (fun q => ht (by rw [q]; exact hd))]
 exact h t ht

set_option maxRecDepth 100000 in
set_option maxHeartbeats 12800000 in
theorem awake_any (w : World) : Calls Tryz.prog 18 #[] w fun e w' => e = .returned (.bool true) ∧ Below w.heap.size w w' := by
 have HTI := Lib.hid (fun w => tiny_any w)
 have hok : mayHd tH tS tP 1 true = true := by decide
 have hno : mayHd tH2 tS tP 1 true = false := by decide
 have hnil : ∀ (w : World) (h : Hd), h.ls = ⟨[], [], [], [], []⟩ → ∀ q, HdAt w w.heap.size h q := fun w h e q => by
  obtain ⟨c1, c2, c3, c4, c5, c6, c7, c8, c9, m0, m1, c12, c13, w0, w1, c16, ops, c18, c19, c20, c21⟩ := h
  injection e with e1 e2 e3 e4 e5
  simp only at e1 e2 e3 e4 e5
  subst e1 e2 e3 e4 e5
  exact ⟨RwAt.nil _ _ _ _ _, RwAt.nil _ _ _ _ _, RwAt.nil _ _ _ _ _, RwAt.nil _ _ _ _ _, RwAt.nil _ _ _ _ _⟩
 have hlen : ∀ (h : Hd), h.ls = ⟨[], [], [], [], []⟩ → HdLen h := fun h e => by
  obtain ⟨c1, c2, c3, c4, c5, c6, c7, c8, c9, m0, m1, c12, c13, w0, w1, c16, ops, c18, c19, c20, c21⟩ := h
  injection e with e1 e2 e3 e4 e5
  simp only at e1 e2 e3 e4 e5
  subst e1 e2 e3 e4 e5
  exact ⟨by simp, by simp, by simp, by simp, by simp⟩
 have hsp : ∀ (w : World) (B : Nat), SpAt w B tS none := fun w B => (Rd.zero w B none _ : Rd w B none 0 _)
 have HPY := Lib.hid (fun (w : World) (g base : Nat) (hw : Wr w base g (.slice none 0 0) []) (hb : base ≤ w.heap.size) => put_yes (g := g) (w := w) tH Ha.zero tS none 0 tP 1 true (hnil w tH rfl _) (hlen tH rfl) (hsp w _) (by decide) base (.slice none 0 0) [] hw hb (by simp) hok (fun A hA ad e => by rcases hA with rfl | rfl | rfl | rfl | rfl <;> cases e))
 have HPN := Lib.hid (fun (w : World) (ad : Addr) => put_no (w := w) tH2 Ha.zero tS none 0 tP 1 true (hnil w _ rfl _) (hlen _ rfl) (hsp w _) (by decide) ad hno)
 have HP0 := Lib.hid (fun (w : World) => put_nil tH2 Ha.zero tS none 0 tP 1 true w)
 have HMY := Lib.hid (fun (w : World) => hok ▸ mayhd_any tH Ha.zero tS none 0 tP 1 true w (hnil w tH rfl _) (hlen tH rfl) (hsp w _) (by decide))
 have HSA := Lib.hid (fun (w : World) (q : Ha) => samehd_yes tH q Ha.zero w (hnil w tH rfl _) (hnil w tH rfl _) (hlen tH rfl))
 obtain ⟨B, hB⟩ : ∃ B, hdL tH tS tP 1 true = B := ⟨_, rfl⟩
 have hBl : B.length ≤ 40000 := hB ▸ hdL_len (mayHd_iff hok)
 obtain ⟨S, hS⟩ : ∃ S, packS B = S := ⟨_, rfl⟩
 have hSs : S.size ≤ 140737488351232 := by rw [← hS, packS_size]; omega
 have hLies : Lies (sbit S) (8 * S.size) 0 (hdL tH tS tP 1 true) := by
  rw [hB, ← hS]
  exact ⟨by rw [packS_size]; omega, fun i hi => by rw [Nat.zero_add, sbit_pack]⟩
 have hG := getHd_back hok hLies
 have HGE := Lib.hid (fun (w : World) (gr : Nat) (hr : Rr w gr S 0) => hG ▸ hget_any (w := w) (g := gr) (a := 0) (st := S) tS none 0 tP 1 true hr hSs (by omega) (hsp w _) (by decide))
 rw [hB] at HPY
 clear hok hno hnil hlen hsp hB hLies hG
 have HS := Lib.hid hS
 clear hS
 go_enter Tryz.func18, Tryz.ntmps18
 go_upto_region 1 with fail
 refine wp_region_lit ?_
 refine wpl_call rfl (f := 55) (args := #[]) (by kernel_rfl) ((HTI.out w).mono ?_)
 rintro e w1 ⟨rfl, hb1⟩
 refine ⟨_, rfl, ?_⟩
 refine wpl_val rfl (v := .tuple #[.agg (spV tS none 0), .agg (ppV tP), .agg (hdV tH Ha.zero)]) rfl ?_
 refine wpl_val rfl (v := .agg (spV tS none 0)) rfl ?_
 refine wpl_val rfl (v := .agg (ppV tP)) rfl ?_
 refine wpl_val rfl (v := .agg (hdV tH Ha.zero)) rfl ?_
 refine wpl_val rfl (run_alloc_sps _ _ _ rfl) ?_
 refine wpl_val rfl (run_alloc_pps _ _ _ rfl) ?_
 refine wpl_val rfl (run_alloc_head _ _ _ rfl) ?_
 obtain ⟨k1, k2, k3⟩ := tn_zero w1
 refine wpList_store_row rfl _ _ _ rfl w1.heap.size (spV tS none 0) rfl rfl _ _ k1 (by kernel_rfl) rfl (sp_one _ _ _) ?_
 refine wpList_store_row rfl _ _ _ rfl (w1.heap.size + 1) (ppV tP) (by simp; rfl) rfl _ _ (bk_setRow_far k2 (by omega)) (by kernel_rfl) rfl (pp_one _) ?_
 refine wpList_store_row rfl _ _ _ rfl (w1.heap.size + 1 + 1) (hdV tH Ha.zero) (by simp; rfl) rfl _ _ (bk_setRow_far (bk_setRow_far k3 (by omega)) (by omega)) (by kernel_rfl) rfl (hd_one _ _) ?_
 clear k1 k2 k3
 have HN := Lib.hid (Tn.new hb1)
 obtain ⟨n, hn⟩ : ∃ n, w1.heap.size = n := ⟨_, rfl⟩
 obtain ⟨w4, hw4⟩ : ∃ w4, tnW w1 = w4 := ⟨_, rfl⟩
 unfold tnW at hw4
 rw [hw4]
 rw [show tnW w1 = w4 from hw4] at HN
 simp only [World.size_alloc, hn] at HN ⊢
 clear hw4 hb1 hn HTI
 go_wp2_with fail
 refine (new_any w4).mono ?_
 rintro e w5 ⟨rfl, hw5⟩
 have hng : n + 1 + 1 < w4.heap.size := HN.out.k3.lt
 have hwr : Wr w5 w4.heap.size w4.heap.size (.slice none 0 0) [] := hw5 ▸ Wr.new w4 w4.heap.size
 replace HN := Lib.hid (HN.out.go (hw5 ▸ (Below.refl w4.heap.size w4).alloc (Nat.le_refl _) _ : Below w4.heap.size w4 w5))
 have hsz5 : w4.heap.size ≤ w5.heap.size := by rw [← hw5]; simp
 obtain ⟨g, hg⟩ : ∃ g, w4.heap.size = g := ⟨_, rfl⟩
 rw [hg] at hwr hsz5 hng ⊢
 clear hw5 hg
 go_upto_region 3 with fail
 refine wp_region_lit ?_
 refine wpl_val rfl (run_move rfl rfl) ?_
 refine wpl_val rfl (run_load_row rfl rfl (load_head HN.out.k3)) ?_
 refine wpl_val rfl (run_load_row rfl rfl (load_sps HN.out.k1)) ?_
 refine wpl_val rfl (run_load_row rfl rfl (load_pps HN.out.k2)) ?_
 refine wpl_call rfl (f := 8) (args := #[.pointer (some ⟨g, 0, none⟩), .agg (hdV tH Ha.zero), .agg (spV tS none 0), .agg (ppV tP), .int .i64 1, .bool true]) (by kernel_rfl) ?_
 refine (HPY.out w5 g g hwr hsz5).mono ?_
 rintro e w6 ⟨rfl, v', hwr6, ht6, hn6⟩
 refine ⟨_, rfl, ?_⟩
 have HN6 := Lib.hid (HN.out.touch ht6 hng rfl)
 have HWR := Lib.hid hwr6
 clear hwr hsz5 HN HPY ht6 hn6 hwr6
 have HBY : Hid (∀ wi, Below w6.heap.size w6 wi → Calls Tryz.prog 15 #[.pointer (some ⟨g, 0, none⟩)] wi fun e w' => e = .returned (.string S) ∧ wi = w') := Lib.hid (fun wi hb => by
  have := wbytes_any g g v' ([] ++ B) wi (HWR.out.go hb)
  rw [List.nil_append, HS.out] at this
  exact this)
 go_upto_region 4 with fail
 refine wp_region_invA (by kernel_rfl) (AI w6 g S) (down_of (by kernel_rfl)) ?_ ?_ ?_
 ·exact ⟨rfl, rfl, fun _ _ => rfl, (Below.refl _ _).drew, 0, 0, Ha.zero, ⟨fun h => absurd h (by rw [getD_replicate_false]; simp), fun h => absurd h (by rw [getD_replicate_false]; simp), fun h => absurd h (by rw [getD_replicate_false]; simp), fun h => absurd h (by rw [getD_replicate_false]; simp), fun h => absurd h (by rw [getD_replicate_false]; simp), fun h => absurd h (by rw [getD_replicate_false]; simp), fun h => absurd h (by rw [getD_replicate_false]; simp), fun h => absurd h (by rw [getD_replicate_false]; simp), fun h => absurd h (by rw [getD_replicate_false]; simp), fun h => absurd h (by rw [getD_replicate_false]; simp), fun h => absurd h (by rw [getD_replicate_false]; simp), fun h => absurd h (by rw [getD_replicate_false]; simp), fun h => absurd h (by rw [getD_replicate_false]; simp), fun h => absurd h (by rw [getD_replicate_false]; simp), fun h => absurd h (by rw [getD_replicate_false]; simp), fun h => absurd h (by rw [getD_replicate_false]; simp), fun h => absurd h (by rw [getD_replicate_false]; simp), fun h => absurd h (by rw [getD_replicate_false]; simp), fun h => absurd h (by rw [getD_replicate_false]; simp)⟩⟩
 ·intro L a wi i o ho hs hu hd hI
  have hi : i < 12 := (Array.getElem?_eq_some_iff.1 ho).1
  have hL : L.size = 12 := hs
  obtain ⟨h0, h1, h2, h3, gr, B6, q, F⟩ := hI
  have hcs : i = 0 ∨ i = 1 ∨ i = 2 ∨ i = 3 ∨ i = 4 ∨ i = 5 ∨ i = 6 ∨ i = 7 ∨ i = 8 ∨ i = 9 ∨ i = 10 ∨ i = 11 := by omega
  have ho2 := ho
  rcases hcs with rfl | rfl | rfl | rfl | rfl | rfl | rfl | rfl | rfl | rfl | rfl | rfl
  ·simp at ho2
   subst ho2
   exact op_run ho rfl (run_move rfl (h2 4 (by decide))) ⟨h0, by rw [put_size]; exact h1, put_other (by omega) (by decide) h2, h3, gr, B6, q, ⟨newf (by omega), keepf F.f1 (by omega) (by omega) (by decide) (by decide), keepf F.f2 (by omega) (by omega) (by decide) (by decide), keepf F.f3 (by omega) (by omega) (by decide) (by decide), keepf F.f4 (by omega) (by omega) (by decide) (by decide), keepf F.f5 (by omega) (by omega) (by decide) (by decide), keepf F.f6 (by omega) (by omega) (by decide) (by decide), keepf F.f7 (by omega) (by omega) (by decide) (by decide), keepf F.f8 (by omega) (by omega) (by decide) (by decide), keepf F.f9 (by omega) (by omega) (by decide) (by decide), keepf F.f11 (by omega) (by omega) (by decide) (by decide), fun hl => F.r2 (other (by omega) (by decide) hl), fun hl hm => F.rr (other (by omega) (by decide) hl) (by rw [getD_done (by omega), if_neg (by decide)] at hm; exact hm), fun hl => F.r9 (other (by omega) (by decide) hl), fun hl => F.r10 (other (by omega) (by decide) hl), fun hl hm => F.ne (other (by omega) (by decide) hl) (other (by omega) (by decide) hm), fun hl => more (by omega) (F.c6 (other (by omega) (by decide) hl)), fun hl => more (by omega) (F.c7 (other (by omega) (by decide) hl)), fun hl => ⟨more (by omega) (F.c10 (other (by omega) (by decide) hl)).1, more (by omega) (F.c10 (other (by omega) (by decide) hl)).2⟩⟩⟩
  ·simp at ho2
   subst ho2
   have p0 := hd ⟨0, .data⟩ (by simp) rfl
   refine op_call ho rfl (f := 15) (args := #[.pointer (some ⟨g, 0, none⟩)]) (v := .string S) (en_bytes rfl (F.f0 p0)) ?_
   refine (HBY.out wi h3).mono ?_
   rintro e w' ⟨rfl, rfl⟩
   exact ⟨rfl, ⟨h0, by rw [put_size]; exact h1, put_other (by omega) (by decide) h2, h3, gr, B6, q, ⟨keepf F.f0 (by omega) (by omega) (by decide) (by decide), newf (by omega), keepf F.f2 (by omega) (by omega) (by decide) (by decide), keepf F.f3 (by omega) (by omega) (by decide) (by decide), keepf F.f4 (by omega) (by omega) (by decide) (by decide), keepf F.f5 (by omega) (by omega) (by decide) (by decide), keepf F.f6 (by omega) (by omega) (by decide) (by decide), keepf F.f7 (by omega) (by omega) (by decide) (by decide), keepf F.f8 (by omega) (by omega) (by decide) (by decide), keepf F.f9 (by omega) (by omega) (by decide) (by decide), keepf F.f11 (by omega) (by omega) (by decide) (by decide), fun hl => F.r2 (other (by omega) (by decide) hl), fun hl hm => F.rr (other (by omega) (by decide) hl) (by rw [getD_done (by omega), if_neg (by decide)] at hm; exact hm), fun hl => F.r9 (other (by omega) (by decide) hl), fun hl => F.r10 (other (by omega) (by decide) hl), fun hl hm => F.ne (other (by omega) (by decide) hl) (other (by omega) (by decide) hm), fun hl => more (by omega) (F.c6 (other (by omega) (by decide) hl)), fun hl => more (by omega) (F.c7 (other (by omega) (by decide) hl)), fun hl => ⟨more (by omega) (F.c10 (other (by omega) (by decide) hl)).1, more (by omega) (F.c10 (other (by omega) (by decide) hl)).2⟩⟩⟩⟩
  ·simp at ho2
   subst ho2
   have p1 := hd ⟨1, .data⟩ (by simp) rfl
   refine op_call ho rfl (f := 19) (args := #[.string S]) (v := .pointer (some ⟨wi.heap.size, 0, none⟩)) (en_open rfl (F.f1 p1)) ?_
   refine (open_any S wi).mono ?_
   rintro e w' ⟨rfl, hw'⟩
   have hbw : Below wi.heap.size wi w' := hw' ▸ (Below.refl _ _).alloc (Nat.le_refl _) _
   have hsz : w'.heap.size = wi.heap.size + 1 := by rw [← hw']; simp
   have hnr : Rr w' wi.heap.size S 0 := hw' ▸ Rr.new wi S
   have h3s := h3.size
   exact ⟨rfl, ⟨h0, by rw [put_size]; exact h1, put_other (by omega) (by decide) h2, h3.trans (hbw.mono h3s), wi.heap.size, B6, q, ⟨keepf F.f0 (by omega) (by omega) (by decide) (by decide), keepf F.f1 (by omega) (by omega) (by decide) (by decide), newf (by omega), keepf F.f3 (by omega) (by omega) (by decide) (by decide), keepf F.f4 (by omega) (by omega) (by decide) (by decide), keepf F.f5 (by omega) (by omega) (by decide) (by decide), keepf F.f6 (by omega) (by omega) (by decide) (by decide), keepf F.f7 (by omega) (by omega) (by decide) (by decide), keepf F.f8 (by omega) (by omega) (by decide) (by decide), keepf F.f9 (by omega) (by omega) (by decide) (by decide), keepf F.f11 (by omega) (by omega) (by decide) (by decide), fun hl => ⟨h3s, by omega⟩, fun hl hm => hnr, fun hl => by obtain ⟨z1, cs, z2, z3⟩ := F.r9 (other (by omega) (by decide) hl); exact ⟨z1, cs, z2, z3.go hbw⟩, fun hl => (F.r10 (other (by omega) (by decide) hl)).go hbw, fun hl hm => by obtain ⟨z1, cs, z2, z3⟩ := F.r9 (other (by omega) (by decide) hm); have := z3.lt; omega, fun hl => more (by omega) (F.c6 (other (by omega) (by decide) hl)), fun hl => more (by omega) (F.c7 (other (by omega) (by decide) hl)), fun hl => ⟨more (by omega) (F.c10 (other (by omega) (by decide) hl)).1, more (by omega) (F.c10 (other (by omega) (by decide) hl)).2⟩⟩⟩⟩
  ·simp at ho2
   subst ho2
   exact op_run ho rfl (run_load_row rfl (h2 1 (by decide)) (load_sps (HN6.out.k1.go h3))) ⟨h0, by rw [put_size]; exact h1, put_other (by omega) (by decide) h2, h3, gr, B6, q, ⟨keepf F.f0 (by omega) (by omega) (by decide) (by decide), keepf F.f1 (by omega) (by omega) (by decide) (by decide), keepf F.f2 (by omega) (by omega) (by decide) (by decide), newf (by omega), keepf F.f4 (by omega) (by omega) (by decide) (by decide), keepf F.f5 (by omega) (by omega) (by decide) (by decide), keepf F.f6 (by omega) (by omega) (by decide) (by decide), keepf F.f7 (by omega) (by omega) (by decide) (by decide), keepf F.f8 (by omega) (by omega) (by decide) (by decide), keepf F.f9 (by omega) (by omega) (by decide) (by decide), keepf F.f11 (by omega) (by omega) (by decide) (by decide), fun hl => F.r2 (other (by omega) (by decide) hl), fun hl hm => F.rr (other (by omega) (by decide) hl) (by rw [getD_done (by omega), if_neg (by decide)] at hm; exact hm), fun hl => F.r9 (other (by omega) (by decide) hl), fun hl => F.r10 (other (by omega) (by decide) hl), fun hl hm => F.ne (other (by omega) (by decide) hl) (other (by omega) (by decide) hm), fun hl => more (by omega) (F.c6 (other (by omega) (by decide) hl)), fun hl => more (by omega) (F.c7 (other (by omega) (by decide) hl)), fun hl => ⟨more (by omega) (F.c10 (other (by omega) (by decide) hl)).1, more (by omega) (F.c10 (other (by omega) (by decide) hl)).2⟩⟩⟩
  ·simp at ho2
   subst ho2
   exact op_run ho rfl (run_load_row rfl (h2 2 (by decide)) (load_pps (HN6.out.k2.go h3))) ⟨h0, by rw [put_size]; exact h1, put_other (by omega) (by decide) h2, h3, gr, B6, q, ⟨keepf F.f0 (by omega) (by omega) (by decide) (by decide), keepf F.f1 (by omega) (by omega) (by decide) (by decide), keepf F.f2 (by omega) (by omega) (by decide) (by decide), keepf F.f3 (by omega) (by omega) (by decide) (by decide), newf (by omega), keepf F.f5 (by omega) (by omega) (by decide) (by decide), keepf F.f6 (by omega) (by omega) (by decide) (by decide), keepf F.f7 (by omega) (by omega) (by decide) (by decide), keepf F.f8 (by omega) (by omega) (by decide) (by decide), keepf F.f9 (by omega) (by omega) (by decide) (by decide), keepf F.f11 (by omega) (by omega) (by decide) (by decide), fun hl => F.r2 (other (by omega) (by decide) hl), fun hl hm => F.rr (other (by omega) (by decide) hl) (by rw [getD_done (by omega), if_neg (by decide)] at hm; exact hm), fun hl => F.r9 (other (by omega) (by decide) hl), fun hl => F.r10 (other (by omega) (by decide) hl), fun hl hm => F.ne (other (by omega) (by decide) hl) (other (by omega) (by decide) hm), fun hl => more (by omega) (F.c6 (other (by omega) (by decide) hl)), fun hl => more (by omega) (F.c7 (other (by omega) (by decide) hl)), fun hl => ⟨more (by omega) (F.c10 (other (by omega) (by decide) hl)).1, more (by omega) (F.c10 (other (by omega) (by decide) hl)).2⟩⟩⟩
  ·simp at ho2
   subst ho2
   have p2 := hd ⟨2, .data⟩ (by simp) rfl
   have p3 := hd ⟨3, .data⟩ (by simp) rfl
   have p4 := hd ⟨4, .data⟩ (by simp) rfl
   have hu5 : L.getD 5 false = false := by
    rw [Array.getD_eq_getD_getElem?] at hu ⊢
    rw [Array.getElem?_eq_getElem (by omega)] at hu ⊢
    exact hu
   refine wpOp_callE ho rfl (f := 23) (args := #[.pointer (some ⟨gr, 0, none⟩), .agg (spV tS none 0), .agg (ppV tP), .int .i64 1, .bool true]) (en_get rfl (F.f2 p2) (F.f3 p3) (F.f4 p4)) ?_
   refine (HGE.out wi gr (F.rr p2 hu5)).mono ?_
   rintro e w' ⟨q', rfl, hrp, hro⟩
   have hr2 := F.r2 p2
   exact ⟨_, rfl, ⟨h0, by rw [put_size]; exact h1, put_other (by omega) (by decide) h2, Below.touch h3 hrp.2 (fun k hk e => by have e' : k = gr := e; omega) (Nat.le_refl _), gr, B6, q', ⟨keepf F.f0 (by omega) (by omega) (by decide) (by decide), keepf F.f1 (by omega) (by omega) (by decide) (by decide), keepf F.f2 (by omega) (by omega) (by decide) (by decide), keepf F.f3 (by omega) (by omega) (by decide) (by decide), keepf F.f4 (by omega) (by omega) (by decide) (by decide), newf (by omega), fun hl => absurd (F.c6 (other (by omega) (by decide) hl)) (by rw [hu5]; simp), fun hl => absurd (F.c7 (other (by omega) (by decide) hl)) (by rw [hu5]; simp), keepf F.f8 (by omega) (by omega) (by decide) (by decide), keepf F.f9 (by omega) (by omega) (by decide) (by decide), keepf F.f11 (by omega) (by omega) (by decide) (by decide), fun hl => ⟨hr2.1, Nat.lt_of_lt_of_le hr2.2 hrp.2.size⟩, fun hl hm => by rw [getD_done (by omega), if_pos rfl] at hm; exact Bool.noConfusion hm, fun hl => by obtain ⟨z1, cs, z2, z3⟩ := F.r9 (other (by omega) (by decide) hl); exact ⟨z1, cs, z2, z3.touch hrp.2 (fun e => F.ne p2 (other (by omega) (by decide) hl) e.symm)⟩, fun hl => absurd (F.c10 (other (by omega) (by decide) hl)).1 (by rw [hu5]; simp), fun hl hm => F.ne (other (by omega) (by decide) hl) (other (by omega) (by decide) hm), fun hl => more (by omega) (F.c6 (other (by omega) (by decide) hl)), fun hl => more (by omega) (F.c7 (other (by omega) (by decide) hl)), fun hl => ⟨more (by omega) (F.c10 (other (by omega) (by decide) hl)).1, more (by omega) (F.c10 (other (by omega) (by decide) hl)).2⟩⟩⟩⟩
  ·simp at ho2
   subst ho2
   have p5 := hd ⟨5, .data⟩ (by simp) rfl
   exact op_run ho rfl (run_move rfl (F.f5 p5)) ⟨h0, by rw [put_size]; exact h1, put_other (by omega) (by decide) h2, h3, gr, B6, q, ⟨keepf F.f0 (by omega) (by omega) (by decide) (by decide), keepf F.f1 (by omega) (by omega) (by decide) (by decide), keepf F.f2 (by omega) (by omega) (by decide) (by decide), keepf F.f3 (by omega) (by omega) (by decide) (by decide), keepf F.f4 (by omega) (by omega) (by decide) (by decide), keepf F.f5 (by omega) (by omega) (by decide) (by decide), newf (by omega), keepf F.f7 (by omega) (by omega) (by decide) (by decide), keepf F.f8 (by omega) (by omega) (by decide) (by decide), keepf F.f9 (by omega) (by omega) (by decide) (by decide), keepf F.f11 (by omega) (by omega) (by decide) (by decide), fun hl => F.r2 (other (by omega) (by decide) hl), fun hl hm => F.rr (other (by omega) (by decide) hl) (by rw [getD_done (by omega), if_neg (by decide)] at hm; exact hm), fun hl => F.r9 (other (by omega) (by decide) hl), fun hl => F.r10 (other (by omega) (by decide) hl), fun hl hm => F.ne (other (by omega) (by decide) hl) (other (by omega) (by decide) hm), fun _ => more (by omega) p5, fun hl => more (by omega) (F.c7 (other (by omega) (by decide) hl)), fun hl => ⟨more (by omega) (F.c10 (other (by omega) (by decide) hl)).1, more (by omega) (F.c10 (other (by omega) (by decide) hl)).2⟩⟩⟩
  ·simp at ho2
   subst ho2
   have p6 := hd ⟨6, .data⟩ (by simp) rfl
   exact op_run ho rfl (run_ext0 rfl (F.f6 p6)) ⟨h0, by rw [put_size]; exact h1, put_other (by omega) (by decide) h2, h3, gr, B6, q, ⟨keepf F.f0 (by omega) (by omega) (by decide) (by decide), keepf F.f1 (by omega) (by omega) (by decide) (by decide), keepf F.f2 (by omega) (by omega) (by decide) (by decide), keepf F.f3 (by omega) (by omega) (by decide) (by decide), keepf F.f4 (by omega) (by omega) (by decide) (by decide), keepf F.f5 (by omega) (by omega) (by decide) (by decide), keepf F.f6 (by omega) (by omega) (by decide) (by decide), newf (by omega), keepf F.f8 (by omega) (by omega) (by decide) (by decide), keepf F.f9 (by omega) (by omega) (by decide) (by decide), keepf F.f11 (by omega) (by omega) (by decide) (by decide), fun hl => F.r2 (other (by omega) (by decide) hl), fun hl hm => F.rr (other (by omega) (by decide) hl) (by rw [getD_done (by omega), if_neg (by decide)] at hm; exact hm), fun hl => F.r9 (other (by omega) (by decide) hl), fun hl => F.r10 (other (by omega) (by decide) hl), fun hl hm => F.ne (other (by omega) (by decide) hl) (other (by omega) (by decide) hm), fun hl => more (by omega) (F.c6 (other (by omega) (by decide) hl)), fun _ => more (by omega) (F.c6 p6), fun hl => ⟨more (by omega) (F.c10 (other (by omega) (by decide) hl)).1, more (by omega) (F.c10 (other (by omega) (by decide) hl)).2⟩⟩⟩
  ·simp at ho2
   subst ho2
   have p6 := hd ⟨6, .data⟩ (by simp) rfl
   exact op_run ho rfl (run_ext1 rfl (F.f6 p6)) ⟨h0, by rw [put_size]; exact h1, put_other (by omega) (by decide) h2, h3, gr, B6, q, ⟨keepf F.f0 (by omega) (by omega) (by decide) (by decide), keepf F.f1 (by omega) (by omega) (by decide) (by decide), keepf F.f2 (by omega) (by omega) (by decide) (by decide), keepf F.f3 (by omega) (by omega) (by decide) (by decide), keepf F.f4 (by omega) (by omega) (by decide) (by decide), keepf F.f5 (by omega) (by omega) (by decide) (by decide), keepf F.f6 (by omega) (by omega) (by decide) (by decide), keepf F.f7 (by omega) (by omega) (by decide) (by decide), newf (by omega), keepf F.f9 (by omega) (by omega) (by decide) (by decide), keepf F.f11 (by omega) (by omega) (by decide) (by decide), fun hl => F.r2 (other (by omega) (by decide) hl), fun hl hm => F.rr (other (by omega) (by decide) hl) (by rw [getD_done (by omega), if_neg (by decide)] at hm; exact hm), fun hl => F.r9 (other (by omega) (by decide) hl), fun hl => F.r10 (other (by omega) (by decide) hl), fun hl hm => F.ne (other (by omega) (by decide) hl) (other (by omega) (by decide) hm), fun hl => more (by omega) (F.c6 (other (by omega) (by decide) hl)), fun hl => more (by omega) (F.c7 (other (by omega) (by decide) hl)), fun hl => ⟨more (by omega) (F.c10 (other (by omega) (by decide) hl)).1, more (by omega) (F.c10 (other (by omega) (by decide) hl)).2⟩⟩⟩
  ·simp at ho2
   subst ho2
   have hbw : Below wi.heap.size wi (wi.alloc (.cells (hdV Hd.zero Ha.zero) 26)) := (Below.refl _ _).alloc (Nat.le_refl _) _
   have h3s := h3.size
   have hu9 : L.getD 9 false = false := by
    rw [Array.getD_eq_getD_getElem?] at hu ⊢
    rw [Array.getElem?_eq_getElem (by omega)] at hu ⊢
    exact hu
   exact op_run ho rfl (run_alloc_head _ _ _ rfl) ⟨h0, by rw [put_size]; exact h1, put_other (by omega) (by decide) h2, h3.trans (hbw.mono h3s), gr, wi.heap.size, q, ⟨keepf F.f0 (by omega) (by omega) (by decide) (by decide), keepf F.f1 (by omega) (by omega) (by decide) (by decide), keepf F.f2 (by omega) (by omega) (by decide) (by decide), keepf F.f3 (by omega) (by omega) (by decide) (by decide), keepf F.f4 (by omega) (by omega) (by decide) (by decide), keepf F.f5 (by omega) (by omega) (by decide) (by decide), keepf F.f6 (by omega) (by omega) (by decide) (by decide), keepf F.f7 (by omega) (by omega) (by decide) (by decide), keepf F.f8 (by omega) (by omega) (by decide) (by decide), newf (by omega), keepf F.f11 (by omega) (by omega) (by decide) (by decide), fun hl => ⟨(F.r2 (other (by omega) (by decide) hl)).1, Nat.lt_of_lt_of_le (F.r2 (other (by omega) (by decide) hl)).2 hbw.size⟩, fun hl hm => Bk.go (F.rr (other (by omega) (by decide) hl) (by rw [getD_done (by omega), if_neg (by decide)] at hm; exact hm)) hbw, fun hl => ⟨h3s, _, rfl, Bk.new wi _ _⟩, fun hl => absurd (F.c10 (other (by omega) (by decide) hl)).2 (by rw [hu9]; simp), fun hl hm => by have := (F.r2 (other (by omega) (by decide) hl)).2; omega, fun hl => more (by omega) (F.c6 (other (by omega) (by decide) hl)), fun hl => more (by omega) (F.c7 (other (by omega) (by decide) hl)), fun hl => ⟨more (by omega) (F.c10 (other (by omega) (by decide) hl)).1, more (by omega) (F.c10 (other (by omega) (by decide) hl)).2⟩⟩⟩
  ·simp at ho2
   subst ho2
   have p9 := hd ⟨9, .data⟩ (by simp) rfl
   have p7 := hd ⟨7, .data⟩ (by simp) rfl
   obtain ⟨z1, cs, z2, z3⟩ := F.r9 p9
   refine op_skip ho rfl (run_store_row rfl (F.f9 p9) (F.f7 p7) z3 (by kernel_rfl) z2 (hd_one _ _)) ⟨h0, h1, h2, (touch_setRow (Touch.of_below (S := fun k => w6.heap.size ≤ k) h3 (fun k hk _ => hk)) _ _ (fun _ => z1)).below (fun k hk => hk) (Nat.le_refl _), gr, B6, q, ⟨keepn F.f0 (by omega) (by decide), keepn F.f1 (by omega) (by decide), keepn F.f2 (by omega) (by decide), keepn F.f3 (by omega) (by decide), keepn F.f4 (by omega) (by decide), keepn F.f5 (by omega) (by decide), keepn F.f6 (by omega) (by decide), keepn F.f7 (by omega) (by decide), keepn F.f8 (by omega) (by decide), keepn F.f9 (by omega) (by decide), keepn F.f11 (by omega) (by decide), fun hl => by have := F.r2 (other (by omega) (by decide) hl); exact ⟨this.1, by simp [World.setRow]; exact this.2⟩, fun hl hm => bk_setRow_far (F.rr (other (by omega) (by decide) hl) (by rw [getD_done (by omega), if_neg (by decide)] at hm; exact hm)) (F.ne (other (by omega) (by decide) hl) p9), fun hl => ⟨z1, _, rfl, bk_setRow z3⟩, fun hl => bk_setRow z3, fun hl hm => F.ne (other (by omega) (by decide) hl) p9, fun hl => more (by omega) (F.c6 (other (by omega) (by decide) hl)), fun hl => more (by omega) (F.c7 (other (by omega) (by decide) hl)), fun _ => ⟨more (by omega) (F.c7 p7), more (by omega) p9⟩⟩⟩
  ·simp at ho2
   subst ho2
   have p8 := hd ⟨8, .data⟩ (by simp) rfl
   exact op_run ho rfl (run_assign rfl (F.f8 p8)) ⟨h0, by rw [put_size]; exact h1, put_other (by omega) (by decide) h2, h3, gr, B6, q, ⟨keepf F.f0 (by omega) (by omega) (by decide) (by decide), keepf F.f1 (by omega) (by omega) (by decide) (by decide), keepf F.f2 (by omega) (by omega) (by decide) (by decide), keepf F.f3 (by omega) (by omega) (by decide) (by decide), keepf F.f4 (by omega) (by omega) (by decide) (by decide), keepf F.f5 (by omega) (by omega) (by decide) (by decide), keepf F.f6 (by omega) (by omega) (by decide) (by decide), keepf F.f7 (by omega) (by omega) (by decide) (by decide), keepf F.f8 (by omega) (by omega) (by decide) (by decide), keepf F.f9 (by omega) (by omega) (by decide) (by decide), newf (by omega), fun hl => F.r2 (other (by omega) (by decide) hl), fun hl hm => F.rr (other (by omega) (by decide) hl) (by rw [getD_done (by omega), if_neg (by decide)] at hm; exact hm), fun hl => F.r9 (other (by omega) (by decide) hl), fun hl => F.r10 (other (by omega) (by decide) hl), fun hl hm => F.ne (other (by omega) (by decide) hl) (other (by omega) (by decide) hm), fun hl => more (by omega) (F.c6 (other (by omega) (by decide) hl)), fun hl => more (by omega) (F.c7 (other (by omega) (by decide) hl)), fun hl => ⟨more (by omega) (F.c10 (other (by omega) (by decide) hl)).1, more (by omega) (F.c10 (other (by omega) (by decide) hl)).2⟩⟩⟩
 ·intro L a w7 hs hl hI
  have hL : ∀ i, i < 12 → L.getD i false = true := fun i hi => by
   have h1 := hl i hi
   have h2 : i < L.size := by rw [hs]; exact hi
   simp [h2] at h1 ⊢
   exact h1
  obtain ⟨h0, h1, h2, h3, gr, B6, q, F⟩ := hI
  have e := fun ha hb => frame_back a _ [6, 7, 21, 22, 23, 24, 25, 26, 27, 28, 29] ha hb h2
  replace e := e h1 h0
  simp only [List.foldl_cons, List.foldl_nil] at e
  rw [F.f9 (hL 9 (by omega)), F.f11 (hL 11 (by omega)), F.f6 (hL 6 (by omega)), F.f0 (hL 0 (by omega)), F.f1 (hL 1 (by omega)), F.f2 (hL 2 (by omega)), F.f3 (hL 3 (by omega)), F.f4 (hL 4 (by omega)), F.f5 (hL 5 (by omega)), F.f7 (hL 7 (by omega)), F.f8 (hL 8 (by omega))] at e
  have hB6 := F.r10 (hL 10 (by omega))
  have hB6n : n + 1 + 1 < B6 := by
   have h1 := (F.r9 (hL 9 (by omega))).1
   have h2 := HN6.out.k3.lt
   omega
  replace HN6 := Lib.hid (HN6.out.go h3)
  have HX6 := Lib.hid hB6
  rw [e]
  clear e h0 h1 h2 h3 hL hl hs F hB6 HWR HBY HGE
  have c17 := HN6.out.k3.cell 17
  have f17 := HN6.out.k3.frozen 17
  simp [hdV, tH, Hd.zero] at c17
  go_upto_region 6 with fail
  clear c17 f17
  obtain ⟨w8, hw8⟩ : ∃ w8, w7.setCell ⟨n + 1 + 1, 17, none⟩ (.int .i64 52) = w8 := ⟨_, rfl⟩
  have hN8 : Tn w w8 n tS tP tH2 Ha.zero := hw8 ▸ HN6.out.hset 17 (.int .i64 52) rfl
  have hX8 : Bk w8 B6 26 (hdV tH q) := hw8 ▸ HX6.out.far (by show B6 ≠ n + 1 + 1; omega) _
  rw [hw8]
  have HN8 := Lib.hid hN8
  have HX8 := Lib.hid hX8
  clear hw8 hN8 hX8 HN6 HX6
  refine wp_region_lit ?_
  refine wpl_val rfl (run_move rfl rfl) ?_
  refine wpl_val rfl (run_load_row rfl rfl (load_head HN8.out.k3)) ?_
  refine wpl_val rfl (run_load_row rfl rfl (load_sps HN8.out.k1)) ?_
  refine wpl_val rfl (run_load_row rfl rfl (load_pps HN8.out.k2)) ?_
  refine wpl_call rfl (f := 8) (args := #[.pointer (some ⟨g, 0, none⟩), .agg (hdV tH2 Ha.zero), .agg (spV tS none 0), .agg (ppV tP), .int .i64 1, .bool true]) (by kernel_rfl) ?_
  refine (HPN.out w8 ⟨g, 0, none⟩).mono ?_
  rintro e w9 ⟨rfl, hb⟩
  refine ⟨_, rfl, ?_⟩
  have HN9 := Lib.hid (HN8.out.go hb)
  have HX9 := Lib.hid (HX8.out.go hb)
  clear hb HN8 HX8 HPN
  go_upto_region 7 with fail
  refine wp_region_lit ?_
  refine wpl_val rfl (run_load_row rfl rfl (load_head HN9.out.k3)) ?_
  refine wpl_val rfl (run_load_row rfl rfl (load_sps HN9.out.k1)) ?_
  refine wpl_val rfl (run_load_row rfl rfl (load_pps HN9.out.k2)) ?_
  refine wpl_call rfl (f := 8) (args := #[.pointer none, .agg (hdV tH2 Ha.zero), .agg (spV tS none 0), .agg (ppV tP), .int .i64 1, .bool true]) (by kernel_rfl) ?_
  refine (HP0.out w9).mono ?_
  rintro e w10 ⟨rfl, hb⟩
  refine ⟨_, rfl, ?_⟩
  have HN10 := Lib.hid (HN9.out.go hb)
  have HX10 := Lib.hid (HX9.out.go hb)
  clear hb HN9 HX9 HP0
  have c17 := HN10.out.k3.cell 17
  have f17 := HN10.out.k3.frozen 17
  simp [hdV, tH2, tH, Hd.zero] at c17
  go_upto_region 9 with fail
  clear c17 f17
  obtain ⟨w11, hw11⟩ : ∃ w11, w10.setCell ⟨n + 1 + 1, 17, none⟩ (.int .i64 26) = w11 := ⟨_, rfl⟩
  have hN11 : Tn w w11 n tS tP tH Ha.zero := hw11 ▸ HN10.out.hset 17 (.int .i64 26) rfl
  have hX11 : Bk w11 B6 26 (hdV tH q) := hw11 ▸ HX10.out.far (by show B6 ≠ n + 1 + 1; omega) _
  rw [hw11]
  have HN11 := Lib.hid hN11
  have HX11 := Lib.hid hX11
  clear hw11 hN11 hX11 HN10 HX10
  refine wp_region_lit ?_
  refine wpl_val rfl (run_load_row rfl rfl (load_head HN11.out.k3)) ?_
  refine wpl_val rfl (run_load_row rfl rfl (load_sps HN11.out.k1)) ?_
  refine wpl_val rfl (run_load_row rfl rfl (load_pps HN11.out.k2)) ?_
  refine wpl_call rfl (f := 11) (args := #[.agg (hdV tH Ha.zero), .agg (spV tS none 0), .agg (ppV tP), .int .i64 1, .bool true]) (by kernel_rfl) ?_
  refine (HMY.out w11).mono ?_
  rintro e w12 ⟨rfl, hb⟩
  refine ⟨_, rfl, ?_⟩
  have HN12 := Lib.hid (HN11.out.go hb)
  have HX12 := Lib.hid (HX11.out.go hb)
  clear hb HN11 HX11 HMY
  go_wp2_with (first | (go_at_call 13; refine (num_any _ _).mono ?_; rintro e w' ⟨rfl, rfl⟩) | (refine wpList_load_rowG (by rfl) _ _ rfl B6 rfl _ _ (0, 0) _ HX12.out Tryz.underlying26 rfl (by kernel_rfl) ?_) | (refine wpList_load_rowG (by rfl) _ _ rfl (n + 1 + 1) rfl _ _ (0, 0) _ HN12.out.k3 Tryz.underlying26 rfl (by kernel_rfl) ?_))
  refine (HSA.out w12 q).mono ?_
  rintro e w13 ⟨rfl, hb⟩
  replace HN12 := Lib.hid (HN12.out.go hb)
  clear hb HSA
  go_wp2_with (go_at_call 13; refine (num_any _ _).mono ?_; rintro e w' ⟨rfl, rfl⟩)
  go_ret
  exact ⟨rfl, HN12.out.below⟩
end Go.Proofs.YtjokibagciehlaaGreat

namespace Go.Proofs.YtjokibagciehlaaGreat
open Go.RowKit
set_option linter.unusedVariables false
set_option linter.unusedSimpArgs false

end Go.Proofs.YtjokibagciehlaaGreat
