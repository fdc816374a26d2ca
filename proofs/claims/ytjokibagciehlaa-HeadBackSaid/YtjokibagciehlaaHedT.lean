/- SameHead: of equal headers. Printed by gen-hedsh.py. -/
import Derived.Test.YtjokibagciehlaaHedS
namespace Go.Proofs.Ytjokibagciehlaa
open Go.RowKit
set_option linter.unusedVariables false
set_option linter.unusedSimpArgs false

set_option maxRecDepth 100000 in
set_option maxHeartbeats 6400000 in
theorem samehd_yes (h : Hd) (q r : Ha) (w : World) (H : HdAt w w.heap.size h q) (H' : HdAt w w.heap.size h r) (L : HdLen h) :
    Calls Try.prog 19 #[.agg (hdV h q), .agg (hdV h r)] w fun e w' => e = .returned (.bool true) ∧ Below w.heap.size w w' := by
  have HQ := Lib.hid H
  have HR := Lib.hid H'
  have HL := Lib.hid L
  clear H H' L
  simp only [hdV]
  have HB := Lib.hid (Below.refl w.heap.size w)
  replace HQ := Lib.hid (HdAt.past HQ.out (.cells #[.int .i64 h.first, .int .i64 h.count, .int .i64 h.type, .int .i64 h.fn, .int .i64 h.id, .int .i64 h.poc, .bool h.spatial, .int .i64 h.a0, .int .i64 h.a1, .slice q.m0 h.m0.length q.cm0, .slice q.m1 h.m1.length q.cm1, .int .i64 h.log, .int .i64 h.logC, .slice q.w0 h.w0.length q.cw0, .slice q.w1 h.w1.length q.cw1, .bool h.longKey, .slice q.ops h.ops.length q.cops, .int .i64 h.qp, .bool h.off, .int .i64 h.a, .int .i64 h.b] 32))
  replace HR := Lib.hid (HdAt.past HR.out (.cells #[.int .i64 h.first, .int .i64 h.count, .int .i64 h.type, .int .i64 h.fn, .int .i64 h.id, .int .i64 h.poc, .bool h.spatial, .int .i64 h.a0, .int .i64 h.a1, .slice q.m0 h.m0.length q.cm0, .slice q.m1 h.m1.length q.cm1, .int .i64 h.log, .int .i64 h.logC, .slice q.w0 h.w0.length q.cw0, .slice q.w1 h.w1.length q.cw1, .bool h.longKey, .slice q.ops h.ops.length q.cops, .int .i64 h.qp, .bool h.off, .int .i64 h.a, .int .i64 h.b] 32))
  replace HB := Lib.hid (HB.out.alloc HB.out.size (.cells #[.int .i64 h.first, .int .i64 h.count, .int .i64 h.type, .int .i64 h.fn, .int .i64 h.id, .int .i64 h.poc, .bool h.spatial, .int .i64 h.a0, .int .i64 h.a1, .slice q.m0 h.m0.length q.cm0, .slice q.m1 h.m1.length q.cm1, .int .i64 h.log, .int .i64 h.logC, .slice q.w0 h.w0.length q.cw0, .slice q.w1 h.w1.length q.cw1, .bool h.longKey, .slice q.ops h.ops.length q.cops, .int .i64 h.qp, .bool h.off, .int .i64 h.a, .int .i64 h.b] 32))
  have Kx := Lib.hid (Bk.new w 32 #[.int .i64 h.first, .int .i64 h.count, .int .i64 h.type, .int .i64 h.fn, .int .i64 h.id, .int .i64 h.poc, .bool h.spatial, .int .i64 h.a0, .int .i64 h.a1, .slice q.m0 h.m0.length q.cm0, .slice q.m1 h.m1.length q.cm1, .int .i64 h.log, .int .i64 h.logC, .slice q.w0 h.w0.length q.cw0, .slice q.w1 h.w1.length q.cw1, .bool h.longKey, .slice q.ops h.ops.length q.cops, .int .i64 h.qp, .bool h.off, .int .i64 h.a, .int .i64 h.b])
  replace Kx := Lib.hid (Kx.out.alloc (.cells #[.int .i64 h.first, .int .i64 h.count, .int .i64 h.type, .int .i64 h.fn, .int .i64 h.id, .int .i64 h.poc, .bool h.spatial, .int .i64 h.a0, .int .i64 h.a1, .slice r.m0 h.m0.length r.cm0, .slice r.m1 h.m1.length r.cm1, .int .i64 h.log, .int .i64 h.logC, .slice r.w0 h.w0.length r.cw0, .slice r.w1 h.w1.length r.cw1, .bool h.longKey, .slice r.ops h.ops.length r.cops, .int .i64 h.qp, .bool h.off, .int .i64 h.a, .int .i64 h.b] 32))
  replace HQ := Lib.hid (HdAt.past HQ.out (.cells #[.int .i64 h.first, .int .i64 h.count, .int .i64 h.type, .int .i64 h.fn, .int .i64 h.id, .int .i64 h.poc, .bool h.spatial, .int .i64 h.a0, .int .i64 h.a1, .slice r.m0 h.m0.length r.cm0, .slice r.m1 h.m1.length r.cm1, .int .i64 h.log, .int .i64 h.logC, .slice r.w0 h.w0.length r.cw0, .slice r.w1 h.w1.length r.cw1, .bool h.longKey, .slice r.ops h.ops.length r.cops, .int .i64 h.qp, .bool h.off, .int .i64 h.a, .int .i64 h.b] 32))
  replace HR := Lib.hid (HdAt.past HR.out (.cells #[.int .i64 h.first, .int .i64 h.count, .int .i64 h.type, .int .i64 h.fn, .int .i64 h.id, .int .i64 h.poc, .bool h.spatial, .int .i64 h.a0, .int .i64 h.a1, .slice r.m0 h.m0.length r.cm0, .slice r.m1 h.m1.length r.cm1, .int .i64 h.log, .int .i64 h.logC, .slice r.w0 h.w0.length r.cw0, .slice r.w1 h.w1.length r.cw1, .bool h.longKey, .slice r.ops h.ops.length r.cops, .int .i64 h.qp, .bool h.off, .int .i64 h.a, .int .i64 h.b] 32))
  replace HB := Lib.hid (HB.out.alloc HB.out.size (.cells #[.int .i64 h.first, .int .i64 h.count, .int .i64 h.type, .int .i64 h.fn, .int .i64 h.id, .int .i64 h.poc, .bool h.spatial, .int .i64 h.a0, .int .i64 h.a1, .slice r.m0 h.m0.length r.cm0, .slice r.m1 h.m1.length r.cm1, .int .i64 h.log, .int .i64 h.logC, .slice r.w0 h.w0.length r.cw0, .slice r.w1 h.w1.length r.cw1, .bool h.longKey, .slice r.ops h.ops.length r.cops, .int .i64 h.qp, .bool h.off, .int .i64 h.a, .int .i64 h.b] 32))
  have Ky := Lib.hid (Bk.new (w.alloc (.cells #[.int .i64 h.first, .int .i64 h.count, .int .i64 h.type, .int .i64 h.fn, .int .i64 h.id, .int .i64 h.poc, .bool h.spatial, .int .i64 h.a0, .int .i64 h.a1, .slice q.m0 h.m0.length q.cm0, .slice q.m1 h.m1.length q.cm1, .int .i64 h.log, .int .i64 h.logC, .slice q.w0 h.w0.length q.cw0, .slice q.w1 h.w1.length q.cw1, .bool h.longKey, .slice q.ops h.ops.length q.cops, .int .i64 h.qp, .bool h.off, .int .i64 h.a, .int .i64 h.b] 32)) 32 #[.int .i64 h.first, .int .i64 h.count, .int .i64 h.type, .int .i64 h.fn, .int .i64 h.id, .int .i64 h.poc, .bool h.spatial, .int .i64 h.a0, .int .i64 h.a1, .slice r.m0 h.m0.length r.cm0, .slice r.m1 h.m1.length r.cm1, .int .i64 h.log, .int .i64 h.logC, .slice r.w0 h.w0.length r.cw0, .slice r.w1 h.w1.length r.cw1, .bool h.longKey, .slice r.ops h.ops.length r.cops, .int .i64 h.qp, .bool h.off, .int .i64 h.a, .int .i64 h.b])
  go_enter Try.func19, Try.ntmps19
  go_wp2_with fail
  refine (sameMods_yes h.m0 q.m0 r.m0 q.cm0 r.cm0 _ HQ.out.m0 HR.out.m0 (by have := HL.out.m0; omega)).mono ?_
  rintro e w1 ⟨rfl, hb⟩
  replace Kx := Lib.hid (Kx.out.go hb)
  replace Ky := Lib.hid (Ky.out.go hb)
  replace HQ := Lib.hid (HdAt.go HQ.out hb)
  replace HR := Lib.hid (HdAt.go HR.out hb)
  replace HB := Lib.hid (HB.out.trans (hb.mono HB.out.size))
  clear hb
  have cx_0 := Kx.out.cell 0
  have cx_1 := Kx.out.cell 1
  have cx_2 := Kx.out.cell 2
  have cx_3 := Kx.out.cell 3
  have cx_4 := Kx.out.cell 4
  have cx_5 := Kx.out.cell 5
  have cx_6 := Kx.out.cell 6
  have cx_7 := Kx.out.cell 7
  have cx_8 := Kx.out.cell 8
  have cx_9 := Kx.out.cell 9
  have cx_10 := Kx.out.cell 10
  have cx_11 := Kx.out.cell 11
  have cx_12 := Kx.out.cell 12
  have cx_13 := Kx.out.cell 13
  have cx_14 := Kx.out.cell 14
  have cx_15 := Kx.out.cell 15
  have cx_16 := Kx.out.cell 16
  have cx_17 := Kx.out.cell 17
  have cx_18 := Kx.out.cell 18
  have cx_19 := Kx.out.cell 19
  have cx_20 := Kx.out.cell 20
  simp at cx_0 cx_1 cx_2 cx_3 cx_4 cx_5 cx_6 cx_7 cx_8 cx_9 cx_10 cx_11 cx_12 cx_13 cx_14 cx_15 cx_16 cx_17 cx_18 cx_19 cx_20
  have cy_0 := Ky.out.cell 0
  have cy_1 := Ky.out.cell 1
  have cy_2 := Ky.out.cell 2
  have cy_3 := Ky.out.cell 3
  have cy_4 := Ky.out.cell 4
  have cy_5 := Ky.out.cell 5
  have cy_6 := Ky.out.cell 6
  have cy_7 := Ky.out.cell 7
  have cy_8 := Ky.out.cell 8
  have cy_9 := Ky.out.cell 9
  have cy_10 := Ky.out.cell 10
  have cy_11 := Ky.out.cell 11
  have cy_12 := Ky.out.cell 12
  have cy_13 := Ky.out.cell 13
  have cy_14 := Ky.out.cell 14
  have cy_15 := Ky.out.cell 15
  have cy_16 := Ky.out.cell 16
  have cy_17 := Ky.out.cell 17
  have cy_18 := Ky.out.cell 18
  have cy_19 := Ky.out.cell 19
  have cy_20 := Ky.out.cell 20
  simp at cy_0 cy_1 cy_2 cy_3 cy_4 cy_5 cy_6 cy_7 cy_8 cy_9 cy_10 cy_11 cy_12 cy_13 cy_14 cy_15 cy_16 cy_17 cy_18 cy_19 cy_20
  go_wp2_with fail
  clear cx_0 cx_1 cx_2 cx_3 cx_4 cx_5 cx_6 cx_7 cx_8 cx_9 cx_10 cx_11 cx_12 cx_13 cx_14 cx_15 cx_16 cx_17 cx_18 cx_19 cx_20 cy_0 cy_1 cy_2 cy_3 cy_4 cy_5 cy_6 cy_7 cy_8 cy_9 cy_10 cy_11 cy_12 cy_13 cy_14 cy_15 cy_16 cy_17 cy_18 cy_19 cy_20
  refine (sameMods_yes h.m1 q.m1 r.m1 q.cm1 r.cm1 _ HQ.out.m1 HR.out.m1 (by have := HL.out.m1; omega)).mono ?_
  rintro e w2 ⟨rfl, hb⟩
  replace Kx := Lib.hid (Kx.out.go hb)
  replace Ky := Lib.hid (Ky.out.go hb)
  replace HQ := Lib.hid (HdAt.go HQ.out hb)
  replace HR := Lib.hid (HdAt.go HR.out hb)
  replace HB := Lib.hid (HB.out.trans (hb.mono HB.out.size))
  clear hb
  have cx_0 := Kx.out.cell 0
  have cx_1 := Kx.out.cell 1
  have cx_2 := Kx.out.cell 2
  have cx_3 := Kx.out.cell 3
  have cx_4 := Kx.out.cell 4
  have cx_5 := Kx.out.cell 5
  have cx_6 := Kx.out.cell 6
  have cx_7 := Kx.out.cell 7
  have cx_8 := Kx.out.cell 8
  have cx_9 := Kx.out.cell 9
  have cx_10 := Kx.out.cell 10
  have cx_11 := Kx.out.cell 11
  have cx_12 := Kx.out.cell 12
  have cx_13 := Kx.out.cell 13
  have cx_14 := Kx.out.cell 14
  have cx_15 := Kx.out.cell 15
  have cx_16 := Kx.out.cell 16
  have cx_17 := Kx.out.cell 17
  have cx_18 := Kx.out.cell 18
  have cx_19 := Kx.out.cell 19
  have cx_20 := Kx.out.cell 20
  simp at cx_0 cx_1 cx_2 cx_3 cx_4 cx_5 cx_6 cx_7 cx_8 cx_9 cx_10 cx_11 cx_12 cx_13 cx_14 cx_15 cx_16 cx_17 cx_18 cx_19 cx_20
  have cy_0 := Ky.out.cell 0
  have cy_1 := Ky.out.cell 1
  have cy_2 := Ky.out.cell 2
  have cy_3 := Ky.out.cell 3
  have cy_4 := Ky.out.cell 4
  have cy_5 := Ky.out.cell 5
  have cy_6 := Ky.out.cell 6
  have cy_7 := Ky.out.cell 7
  have cy_8 := Ky.out.cell 8
  have cy_9 := Ky.out.cell 9
  have cy_10 := Ky.out.cell 10
  have cy_11 := Ky.out.cell 11
  have cy_12 := Ky.out.cell 12
  have cy_13 := Ky.out.cell 13
  have cy_14 := Ky.out.cell 14
  have cy_15 := Ky.out.cell 15
  have cy_16 := Ky.out.cell 16
  have cy_17 := Ky.out.cell 17
  have cy_18 := Ky.out.cell 18
  have cy_19 := Ky.out.cell 19
  have cy_20 := Ky.out.cell 20
  simp at cy_0 cy_1 cy_2 cy_3 cy_4 cy_5 cy_6 cy_7 cy_8 cy_9 cy_10 cy_11 cy_12 cy_13 cy_14 cy_15 cy_16 cy_17 cy_18 cy_19 cy_20
  go_wp2_with fail
  clear cx_0 cx_1 cx_2 cx_3 cx_4 cx_5 cx_6 cx_7 cx_8 cx_9 cx_10 cx_11 cx_12 cx_13 cx_14 cx_15 cx_16 cx_17 cx_18 cx_19 cx_20 cy_0 cy_1 cy_2 cy_3 cy_4 cy_5 cy_6 cy_7 cy_8 cy_9 cy_10 cy_11 cy_12 cy_13 cy_14 cy_15 cy_16 cy_17 cy_18 cy_19 cy_20
  refine (sameWeights_yes h.w0 q.w0 r.w0 q.cw0 r.cw0 _ HQ.out.w0 HR.out.w0 (by have := HL.out.w0; omega)).mono ?_
  rintro e w3 ⟨rfl, hb⟩
  replace Kx := Lib.hid (Kx.out.go hb)
  replace Ky := Lib.hid (Ky.out.go hb)
  replace HQ := Lib.hid (HdAt.go HQ.out hb)
  replace HR := Lib.hid (HdAt.go HR.out hb)
  replace HB := Lib.hid (HB.out.trans (hb.mono HB.out.size))
  clear hb
  have cx_0 := Kx.out.cell 0
  have cx_1 := Kx.out.cell 1
  have cx_2 := Kx.out.cell 2
  have cx_3 := Kx.out.cell 3
  have cx_4 := Kx.out.cell 4
  have cx_5 := Kx.out.cell 5
  have cx_6 := Kx.out.cell 6
  have cx_7 := Kx.out.cell 7
  have cx_8 := Kx.out.cell 8
  have cx_9 := Kx.out.cell 9
  have cx_10 := Kx.out.cell 10
  have cx_11 := Kx.out.cell 11
  have cx_12 := Kx.out.cell 12
  have cx_13 := Kx.out.cell 13
  have cx_14 := Kx.out.cell 14
  have cx_15 := Kx.out.cell 15
  have cx_16 := Kx.out.cell 16
  have cx_17 := Kx.out.cell 17
  have cx_18 := Kx.out.cell 18
  have cx_19 := Kx.out.cell 19
  have cx_20 := Kx.out.cell 20
  simp at cx_0 cx_1 cx_2 cx_3 cx_4 cx_5 cx_6 cx_7 cx_8 cx_9 cx_10 cx_11 cx_12 cx_13 cx_14 cx_15 cx_16 cx_17 cx_18 cx_19 cx_20
  have cy_0 := Ky.out.cell 0
  have cy_1 := Ky.out.cell 1
  have cy_2 := Ky.out.cell 2
  have cy_3 := Ky.out.cell 3
  have cy_4 := Ky.out.cell 4
  have cy_5 := Ky.out.cell 5
  have cy_6 := Ky.out.cell 6
  have cy_7 := Ky.out.cell 7
  have cy_8 := Ky.out.cell 8
  have cy_9 := Ky.out.cell 9
  have cy_10 := Ky.out.cell 10
  have cy_11 := Ky.out.cell 11
  have cy_12 := Ky.out.cell 12
  have cy_13 := Ky.out.cell 13
  have cy_14 := Ky.out.cell 14
  have cy_15 := Ky.out.cell 15
  have cy_16 := Ky.out.cell 16
  have cy_17 := Ky.out.cell 17
  have cy_18 := Ky.out.cell 18
  have cy_19 := Ky.out.cell 19
  have cy_20 := Ky.out.cell 20
  simp at cy_0 cy_1 cy_2 cy_3 cy_4 cy_5 cy_6 cy_7 cy_8 cy_9 cy_10 cy_11 cy_12 cy_13 cy_14 cy_15 cy_16 cy_17 cy_18 cy_19 cy_20
  go_wp2_with fail
  clear cx_0 cx_1 cx_2 cx_3 cx_4 cx_5 cx_6 cx_7 cx_8 cx_9 cx_10 cx_11 cx_12 cx_13 cx_14 cx_15 cx_16 cx_17 cx_18 cx_19 cx_20 cy_0 cy_1 cy_2 cy_3 cy_4 cy_5 cy_6 cy_7 cy_8 cy_9 cy_10 cy_11 cy_12 cy_13 cy_14 cy_15 cy_16 cy_17 cy_18 cy_19 cy_20
  refine (sameWeights_yes h.w1 q.w1 r.w1 q.cw1 r.cw1 _ HQ.out.w1 HR.out.w1 (by have := HL.out.w1; omega)).mono ?_
  rintro e w4 ⟨rfl, hb⟩
  replace Kx := Lib.hid (Kx.out.go hb)
  replace Ky := Lib.hid (Ky.out.go hb)
  replace HQ := Lib.hid (HdAt.go HQ.out hb)
  replace HR := Lib.hid (HdAt.go HR.out hb)
  replace HB := Lib.hid (HB.out.trans (hb.mono HB.out.size))
  clear hb
  have cx_0 := Kx.out.cell 0
  have cx_1 := Kx.out.cell 1
  have cx_2 := Kx.out.cell 2
  have cx_3 := Kx.out.cell 3
  have cx_4 := Kx.out.cell 4
  have cx_5 := Kx.out.cell 5
  have cx_6 := Kx.out.cell 6
  have cx_7 := Kx.out.cell 7
  have cx_8 := Kx.out.cell 8
  have cx_9 := Kx.out.cell 9
  have cx_10 := Kx.out.cell 10
  have cx_11 := Kx.out.cell 11
  have cx_12 := Kx.out.cell 12
  have cx_13 := Kx.out.cell 13
  have cx_14 := Kx.out.cell 14
  have cx_15 := Kx.out.cell 15
  have cx_16 := Kx.out.cell 16
  have cx_17 := Kx.out.cell 17
  have cx_18 := Kx.out.cell 18
  have cx_19 := Kx.out.cell 19
  have cx_20 := Kx.out.cell 20
  simp at cx_0 cx_1 cx_2 cx_3 cx_4 cx_5 cx_6 cx_7 cx_8 cx_9 cx_10 cx_11 cx_12 cx_13 cx_14 cx_15 cx_16 cx_17 cx_18 cx_19 cx_20
  have cy_0 := Ky.out.cell 0
  have cy_1 := Ky.out.cell 1
  have cy_2 := Ky.out.cell 2
  have cy_3 := Ky.out.cell 3
  have cy_4 := Ky.out.cell 4
  have cy_5 := Ky.out.cell 5
  have cy_6 := Ky.out.cell 6
  have cy_7 := Ky.out.cell 7
  have cy_8 := Ky.out.cell 8
  have cy_9 := Ky.out.cell 9
  have cy_10 := Ky.out.cell 10
  have cy_11 := Ky.out.cell 11
  have cy_12 := Ky.out.cell 12
  have cy_13 := Ky.out.cell 13
  have cy_14 := Ky.out.cell 14
  have cy_15 := Ky.out.cell 15
  have cy_16 := Ky.out.cell 16
  have cy_17 := Ky.out.cell 17
  have cy_18 := Ky.out.cell 18
  have cy_19 := Ky.out.cell 19
  have cy_20 := Ky.out.cell 20
  simp at cy_0 cy_1 cy_2 cy_3 cy_4 cy_5 cy_6 cy_7 cy_8 cy_9 cy_10 cy_11 cy_12 cy_13 cy_14 cy_15 cy_16 cy_17 cy_18 cy_19 cy_20
  go_wp2_with fail
  clear cx_0 cx_1 cx_2 cx_3 cx_4 cx_5 cx_6 cx_7 cx_8 cx_9 cx_10 cx_11 cx_12 cx_13 cx_14 cx_15 cx_16 cx_17 cx_18 cx_19 cx_20 cy_0 cy_1 cy_2 cy_3 cy_4 cy_5 cy_6 cy_7 cy_8 cy_9 cy_10 cy_11 cy_12 cy_13 cy_14 cy_15 cy_16 cy_17 cy_18 cy_19 cy_20
  refine (sameOps_yes h.ops q.ops r.ops q.cops r.cops _ HQ.out.ops HR.out.ops (by have := HL.out.ops; omega)).mono ?_
  rintro e w5 ⟨rfl, hb⟩
  replace Kx := Lib.hid (Kx.out.go hb)
  replace Ky := Lib.hid (Ky.out.go hb)
  replace HQ := Lib.hid (HdAt.go HQ.out hb)
  replace HR := Lib.hid (HdAt.go HR.out hb)
  replace HB := Lib.hid (HB.out.trans (hb.mono HB.out.size))
  clear hb
  have cx_0 := Kx.out.cell 0
  have cx_1 := Kx.out.cell 1
  have cx_2 := Kx.out.cell 2
  have cx_3 := Kx.out.cell 3
  have cx_4 := Kx.out.cell 4
  have cx_5 := Kx.out.cell 5
  have cx_6 := Kx.out.cell 6
  have cx_7 := Kx.out.cell 7
  have cx_8 := Kx.out.cell 8
  have cx_9 := Kx.out.cell 9
  have cx_10 := Kx.out.cell 10
  have cx_11 := Kx.out.cell 11
  have cx_12 := Kx.out.cell 12
  have cx_13 := Kx.out.cell 13
  have cx_14 := Kx.out.cell 14
  have cx_15 := Kx.out.cell 15
  have cx_16 := Kx.out.cell 16
  have cx_17 := Kx.out.cell 17
  have cx_18 := Kx.out.cell 18
  have cx_19 := Kx.out.cell 19
  have cx_20 := Kx.out.cell 20
  simp at cx_0 cx_1 cx_2 cx_3 cx_4 cx_5 cx_6 cx_7 cx_8 cx_9 cx_10 cx_11 cx_12 cx_13 cx_14 cx_15 cx_16 cx_17 cx_18 cx_19 cx_20
  have cy_0 := Ky.out.cell 0
  have cy_1 := Ky.out.cell 1
  have cy_2 := Ky.out.cell 2
  have cy_3 := Ky.out.cell 3
  have cy_4 := Ky.out.cell 4
  have cy_5 := Ky.out.cell 5
  have cy_6 := Ky.out.cell 6
  have cy_7 := Ky.out.cell 7
  have cy_8 := Ky.out.cell 8
  have cy_9 := Ky.out.cell 9
  have cy_10 := Ky.out.cell 10
  have cy_11 := Ky.out.cell 11
  have cy_12 := Ky.out.cell 12
  have cy_13 := Ky.out.cell 13
  have cy_14 := Ky.out.cell 14
  have cy_15 := Ky.out.cell 15
  have cy_16 := Ky.out.cell 16
  have cy_17 := Ky.out.cell 17
  have cy_18 := Ky.out.cell 18
  have cy_19 := Ky.out.cell 19
  have cy_20 := Ky.out.cell 20
  simp at cy_0 cy_1 cy_2 cy_3 cy_4 cy_5 cy_6 cy_7 cy_8 cy_9 cy_10 cy_11 cy_12 cy_13 cy_14 cy_15 cy_16 cy_17 cy_18 cy_19 cy_20
  go_wp2_with fail
  clear cx_0 cx_1 cx_2 cx_3 cx_4 cx_5 cx_6 cx_7 cx_8 cx_9 cx_10 cx_11 cx_12 cx_13 cx_14 cx_15 cx_16 cx_17 cx_18 cx_19 cx_20 cy_0 cy_1 cy_2 cy_3 cy_4 cy_5 cy_6 cy_7 cy_8 cy_9 cy_10 cy_11 cy_12 cy_13 cy_14 cy_15 cy_16 cy_17 cy_18 cy_19 cy_20
  go_ret
  exact ⟨rfl, HB.out⟩
end Go.Proofs.Ytjokibagciehlaa
