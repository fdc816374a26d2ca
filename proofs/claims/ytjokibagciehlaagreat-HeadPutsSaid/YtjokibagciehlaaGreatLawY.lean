/- append of a slice of structs that is read (nil too) onto a row of the call's own. No function of the program. A slice of structs that lies in a cell of a struct: opened. No function of the program. An argument that is a slice of ints, opened. Rows that a caller hands in, as a header's lists. The document's putMods, putWeights, putMarks. Printed by gen-dodk.py. Headers lent and kept. Printed by gen-dodn.py. LendHead, KeptHead. Printed by gen-dodo.py. The document's May, way A. Printed by gen-dodb.py. The document's May is the program's. The document's Put of a header. Printed by gen-dodl.py. HeadPuts: a header as bits is the document's. Printed by gen-lawt.py. -/
import Derived.Test.YtjokibagciehlaaGreatAppend
import Derived.Test.YtjokibagciehlaaGreatStructs
import Derived.OpenShut
import Derived.Test.YtjokibagciehlaaGreatSlice
import Derived.ProofKit
import Derived.SizedLaws
import Derived.Test.YtjokibagciehlaaGreatHeaY
import Derived.Test.YtjokibagciehlaaGreatBitZ
import Derived.Test.YtjokibagciehlaaGreatDodA
import Derived.Laws.StructEq
import Derived.Laws.Tables
import Derived.Test.YtjokibagciehlaaGreatDodB
import Derived.Test.YtjokibagciehlaaGreatDodBB
import Derived.Test.YtjokibagciehlaaGreatDodBC
import Derived.Test.YtjokibagciehlaaGreatDodBD
import Derived.Test.YtjokibagciehlaaGreatDodBE
import Derived.Test.YtjokibagciehlaaGreatDodBF
import Derived.Test.YtjokibagciehlaaGreatDodBG
import Derived.Deep.DeepCutAuto
import Derived.Test.YtjokibagciehlaaGreatMask
import Derived.Test.YtjokibagciehlaaGreatQuiet
namespace Go.Proofs.YtjokibagciehlaaGreat
open Go.RowKit
set_option linter.unusedVariables false

theorem wpList_append_rows {P : Program} (w : World) {ops : Array Oper} {rest : List Oper} {o : Oper} {a : Act} {Q : Exit → Act → World → Prop} (hgd : o.guard = none) (s x : Operand) (t : TypeId)
  (ho : o.op = .call { callee := .builtin .append, args := #[s, x], argTypes := #[t, t] })
  (base : Nat) (e : TypeId) (i : TypeInfo) (z : Value) (size bytes : Nat) (ht : P.underlying t = some (.slice e)) (hi : P.info? e = some i) (hz : i.zero = some z)
  (hsize : i.size = size) (hby : i.bytes = bytes) (hzs : z.cells.size = size) (hsz : 0 < size)
  (v : Value) (n : Nat) (xs : List Value) (hs : a.eval s = v) (hown : w.ownsRow base e size v n xs)
  (A : Option Addr) (m c : Nat) (news : List Value) (hx : a.eval x = .slice A m c) (hl : news.length = m * size) (hr : 0 < m → ∃ ad, A = some ad ∧ ∀ j u, news[j]? = some u → w.cell? (ad.add j) = some u) (h0 : A = none → m = 0 ∧ c = 0) (h1 : ∀ u ∈ news, u.oneCell' = true)
  (h63 : n + m ≤ maxLen) (hbytes : (n + m) * bytes ≤ 140737488355328) (hbase : base ≤ w.heap.size)
  (h : ∀ v' w', w'.ownsRow base e size v' (n + m) (xs ++ news) → w.grownBy w' v.ownBlock → wpList P ops Q rest (a.put o.dst v') w') : wpList P ops Q (o :: rest) a w := by
 rcases A with _ | ad
 ·obtain ⟨rfl, rfl⟩ := h0 rfl
  obtain rfl : news = [] := List.eq_nil_of_length_eq_zero (by rw [hl, Nat.zero_mul])
  refine wpList_append_own_none hgd s x t ho base e i size ht hi v n xs hs hown hx ?_
  exact h v w (by simpa using hown) (World.grownBy.refl w _)
 ·refine wpList_append_own w hgd s x t ho base e i z size bytes ht hi hz hsize hby hzs hsz v n xs hs hown ad m c news hx hl ?_ h1 h63 hbytes hbase (fun v' w' g1 g2 _ => h v' w' g1 g2)
  intro j u hj
  have hjm := (List.getElem?_eq_some_iff.1 hj).1
  have hm : 0 < m := by
   rcases Nat.eq_zero_or_pos m with q | q
   ·rw [hl, q, Nat.zero_mul] at hjm; omega
   ·exact q
  obtain ⟨ad', e', hc⟩ := hr hm
  obtain rfl : ad = ad' := by injection e'
  exact hc j u hj
end Go.Proofs.YtjokibagciehlaaGreat

namespace Go.Proofs.YtjokibagciehlaaGreat
open Go.RowKit Go.ChangeShapes Go.WideShapes Go.Deep
set_option linter.unusedVariables false
theorem open_structs1 {H : Type} {enc : TypeId × Value → H} {P : Program} {w : World} {t e : TypeId} {fs : Array Field} {fuel C : Nat} {c0 : Value} {d : DataW H} {p : List MemPlace}
  (ht : P.underlying t = some (.slice e)) (he : P.underlying e = some (.struct fs)) (hC : P.cellsOf e = C) (hpos : 0 < C) (h : DataW.trod enc P w 0 (fun _ => true) true fuel t [c0] = some (d, p)) :
  ∃ (A : Option Addr) (n c : Nat) (V : Nat → Nat → Value), c0 = .slice A n c ∧ RowsOf w A n c C V ∧ (∀ k, k < c → ∀ (j : Nat) (f : Field), fs[j]? = some f → ∃ fu y, DataW.trod enc P w 0 (fun _ => true) true fu f.type ((((List.range C).map (V k)).drop f.offset).take (P.cellsOf f.type)) = some y) ∧
   (c = 0 ∨ ∃ el sp : List (DataW H), d = .slice el sp ∧ el.length + sp.length = c) := by
 have hsl : ∃ A n c, c0 = .slice A n c := by
  rcases open_slice ht h with ⟨hcs, _⟩ | ⟨a, len, cap, m, fu, D, Pl, hcs, _⟩
  ·exact ⟨_, _, _, (List.cons.inj hcs).1⟩
  ·exact ⟨_, _, _, (List.cons.inj hcs).1⟩
 obtain ⟨A, n, c, rfl⟩ := hsl
 obtain ⟨V, r⟩ := open_structs ht he hC hpos h
 exact ⟨A, n, c, V, rfl, r⟩
/-- an array of three one-cell elements, opened -/
theorem trod_array3 {H : Type} {enc : TypeId × Value → H} {P : Program} {w : World} {t e : TypeId} {fuel : Nat} {c0 c1 c2 : Value} {y : DataW H × List MemPlace}
  (ht : P.underlying t = some (.array 3 e)) (hc : P.cellsOf e = 1) (h : DataW.trod enc P w 0 (fun _ => true) true fuel t [c0, c1, c2] = some y) :
  ∃ (y0 y1 y2 : DataW H × List MemPlace) (nn : Nat), True ∧ DataW.trod enc P w 0 (fun _ => true) true nn e [c0] = some y0 ∧ DataW.trod enc P w 0 (fun _ => true) true nn e [c1] = some y1 ∧ DataW.trod enc P w 0 (fun _ => true) true nn e [c2] = some y2 := by
 obtain ⟨xs, n, _, _, _, xl, hf⟩ := DataW.trod_array ht h
 rw [hc] at hf
 exact ⟨xs[0]'(by rw [xl]; decide), xs[1]'(by rw [xl]; decide), xs[2]'(by rw [xl]; decide), n, trivial, (hf 0 (by decide)).trans (List.getElem?_eq_getElem _), (hf 1 (by decide)).trans (List.getElem?_eq_getElem _), (hf 2 (by decide)).trans (List.getElem?_eq_getElem _)⟩
/-- a slice that lies in an argument's cell leads into memory that is there, be it empty -/
theorem slice_lt {P : Program} {w : World} {base : Nat} {t u e : TypeId} {fs : Array Field} {cs : Array Value} {ts : List TypeId} {i : Nat} {a : Addr} {n c : Nat} (h : Value.okWide P w .any base t (.agg cs)) (ht : P.underlying t = some (.struct fs)) (hts : P.cellTypes P.depth t = some ts)
  (hi : cs[i]? = some (.slice (some a) n c)) (hu : ts[i % ts.length]? = some u) (hs : P.underlying u = some (.slice e)) : a.block < w.heap.size := by
 simp only [Value.okWide, ht] at h
 obtain ⟨cs', e', _, ts', h1, _, h2⟩ := h
 injection e' with e'
 subst e'
 rw [hts] at h1
 injection h1 with h1
 subst h1
 obtain ⟨u', hu', hc⟩ := h2 i _ hi
 rw [hu] at hu'
 injection hu' with hu'
 subst hu'
 simp only [Cell.okWide, hs, Cell.ok] at hc
 obtain ⟨_, _, _, _, row, cells, hsh, _⟩ := hc
 rcases Nat.lt_or_ge a.block w.heap.size with hl | hl
 ·exact hl
 ·unfold World.shape? at hsh
  rw [Array.getElem?_eq_none hl] at hsh
  cases hsh
end Go.Proofs.YtjokibagciehlaaGreat

namespace Go.Proofs.YtjokibagciehlaaGreat
open Go.RowKit Go.ChangeShapes Go.WideShapes
set_option linter.unusedVariables false

/-- A slice of ints that came in: z its elements; its room within the form's reach. -/
def IntsArg (w : World) (A : Option Addr) (n c : Nat) (z : Nat → Int) : Prop :=
 Ri w w.heap.size A n z ∧ (A = none → n = 0 ∧ c = 0) ∧ n ≤ c ∧ c * 8 ≤ 140737488351232 ∧ ∀ k, (Lit.int .i64 (z k)).wf = true

theorem open_row {H : Type} {enc : TypeId × Value → H} {P : Program} {w : World} {t e : TypeId} {fuel : Nat} {A : Option Addr} {n c : Nat} {d : DataW H} {p : List MemPlace}
  (ht : P.underlying t = some (.slice e)) (he : P.underlying e = some (.int .i64)) (hc : P.cellsOf e = 1) (h : DataW.trod enc P w 0 (fun _ => true) true fuel t [.slice A n c] = some (d, p)) :
  ∃ z : Nat → Int, Ri w w.heap.size A n z ∧ (A = none → n = 0 ∧ c = 0) ∧ n ≤ c ∧ (∀ k, (Lit.int .i64 (z k)).wf = true) ∧ (c = 0 ∨ ∃ el sp : List (DataW H), d = .slice el sp ∧ el.length + sp.length = c) := by
 rcases open_ints ht he hc h with ⟨hcs, _⟩ | ⟨a, len, cap, zs, hcs, _, hl, hm, hz, hx, hcell, hwz⟩
 ·simp only [List.cons.injEq, Value.slice.injEq, and_true] at hcs
  obtain ⟨rfl, rfl, rfl⟩ := hcs
  exact ⟨fun _ => 0, Rd.zero _ _ _ _, fun _ => ⟨rfl, rfl⟩, Nat.le_refl _, fun _ => (by decide : (Lit.int .i64 0).wf = true), .inl rfl⟩
 ·simp only [List.cons.injEq, Value.slice.injEq, and_true] at hcs
  obtain ⟨rfl, rfl, rfl⟩ := hcs
  have hzl : zs.length = c := by simpa using hz
  refine ⟨fun k => zs.getD k 0, fun hn => ⟨a, rfl, ?_, fun k hk => hcell k (by omega)⟩, (fun h => by cases h), hl, fun k => ?_, .inr ?_⟩
  ·have := World.block_lt_of_cell? w _ (hcell 0 (by omega))
   rwa [block_add] at this
  ·by_cases hk : k < zs.length
   ·show (Lit.int .i64 (zs.getD k 0)).wf = true
    rw [List.getD_eq_getElem?_getD, List.getElem?_eq_getElem hk]
    exact hwz _ (List.getElem_mem hk)
   ·show (Lit.int .i64 (zs.getD k 0)).wf = true
    rw [List.getD_eq_getElem?_getD, List.getElem?_eq_none (by omega)]
    decide
  ·simp only [Prod.mk.injEq] at hx
   exact ⟨_, _, hx.1, by simp [lits]; omega⟩

/-- the same for a field: its value's make is not yet known -/
theorem open_row1 {H : Type} {enc : TypeId × Value → H} {P : Program} {w : World} {t e : TypeId} {fuel : Nat} {v : Value} {y : DataW H × List MemPlace}
  (ht : P.underlying t = some (.slice e)) (he : P.underlying e = some (.int .i64)) (hc : P.cellsOf e = 1) (h : DataW.trod enc P w 0 (fun _ => true) true fuel t [v] = some y) :
  ∃ (A : Option Addr) (n c : Nat) (z : Nat → Int), v = .slice A n c ∧ Ri w w.heap.size A n z ∧ (A = none → n = 0 ∧ c = 0) ∧ n ≤ c ∧ (∀ k, (Lit.int .i64 (z k)).wf = true) ∧ (c = 0 ∨ ∃ el sp : List (DataW H), y.1 = .slice el sp ∧ el.length + sp.length = c) := by
 obtain ⟨d, p⟩ := y
 rcases open_ints ht he hc h with ⟨hcs, _⟩ | ⟨a, len, cap, zs, hcs, _⟩
 ·simp only [List.cons.injEq, and_true] at hcs
  subst hcs
  obtain ⟨z, r⟩ := open_row ht he hc h
  exact ⟨_, _, _, z, rfl, r⟩
 ·simp only [List.cons.injEq, and_true] at hcs
  subst hcs
  obtain ⟨z, r⟩ := open_row ht he hc h
  exact ⟨_, _, _, z, rfl, r⟩
/-- the reach of a struct's parts -/
theorem sized_part {H : Type} {P : Program} {ts : List TypeId} {ds : List (DataW H)} (h : (DataW.weightsEach P ts ds).all (· ≤ reachBytes) = true) {j : Nat} {t : TypeId} {fs : Array Field} {parts : List (DataW H)} (ht : ts[j]? = some t) (hd : ds[j]? = some (.agg parts)) (hu : P.underlying t = some (.struct fs)) :
  (DataW.weightsEach P (fs.toList.map (·.type)) parts).all (· ≤ reachBytes) = true := by
 rw [List.all_eq_true]
 intro x hx
 exact List.all_eq_true.1 h x (DataW.weights_mem_each ht hd x (by simp only [DataW.weights, hu]; exact hx))

end Go.Proofs.YtjokibagciehlaaGreat

namespace Go.Proofs.YtjokibagciehlaaGreat
open Go.RowKit
set_option linter.unusedVariables false
theorem rows_rw {α : Type} {w : World} {A : Option Addr} {n c C : Nat} {V : Nat → Nat → Value} {f : α → Nat → Value} (hC : 0 < C) (R : RowsOf w A n c C V) (g : Nat → α)
  (e : ∀ k, k < n → ∀ j, j < C → V k j = f (g k) j) : RwAt w w.heap.size A C f ((List.range n).map g) := fun hn => by
 obtain ⟨ad, rfl, hb, hc⟩ := R.1 (by simpa using hn)
 refine ⟨ad, rfl, hb, fun k hk => ?_⟩
 have hk' : k < n := by simpa using hk
 rw [List.getElem_map, List.getElem_range]
 refine ⟨by rw [← e k hk' 0 hC]; exact hc k hk' 0 hC, fun j h0 hj => ?_⟩
 rw [← e k hk' j hj, ← hc k hk' j hj]
 have hp : ad.add (k * C + j) = ⟨(ad.add (k * C)).block, (ad.add (k * C)).off + j, none⟩ := by
  unfold Addr.add
  rw [if_neg (by omega)]
  by_cases h : k * C = 0
  ·rw [if_pos h, h, Nat.zero_add]
  ·rw [if_neg h]
   simp [Nat.add_assoc]
 rw [hp]
end Go.Proofs.YtjokibagciehlaaGreat

namespace Go.Proofs.YtjokibagciehlaaGreat
open Go.RowKit
set_option linter.unusedVariables false
set_option linter.unusedSimpArgs false

theorem flag2_any (b : Bool) (w : World) : Calls Tryz.prog 34 #[.bool b] w fun e w' => e = .returned (.int .i64 (bu b)) ∧ w = w' := by
 cases b
 all_goals
  go_enter Tryz.func34, Tryz.ntmps34
  go_wp2_with fail
  go_ret
  exact ⟨rfl, rfl⟩
theorem bu_u8 (b : Bool) : IntKind.u8.wrap (bu b) = bu b := by cases b <;> rfl
theorem own_bit (w : World) (x : Bool) : (w.alloc (.cells #[.int .u8 (bu x)] 5)).ownsRow w.heap.size 5 1 (.slice (some ⟨w.heap.size, 0, none⟩) 1 1) ([x] : List Bool).length (bitsV [x]) := by
 have := World.ownsRow_lit (base := w.heap.size) (e := 5) (size := 1) w #[.int .u8 (bu x)] 1 (Nat.le_refl _) (by unfold maxLen; omega) (by simp)
 simpa [bitsV] using this
theorem BGrow.below {w w1 : World} {base : Nat} {v v1 : Value} {b b' : List Bool} (h : BGrow w base v b' v1 w1) (ho : w.ownsRow base 5 1 v b.length (bitsV b)) (hbs : base ≤ w.heap.size) : Below base w w1 :=
 h.2.1.below (fun k q => (ho.lt k q).1) hbs
theorem BGrow.trans {w0 w1 w2 : World} {base : Nat} {v0 v1 v2 : Value} {b b' : List Bool} (h : BGrow w0 base v0 b v1 w1) (k : BGrow w1 base v1 b' v2 w2) : BGrow w0 base v0 b' v2 w2 := by
 refine ⟨k.1, Touch.old h.2.1 k.2.1 (fun i hi q => ?_), h.2.2.step h.2.1.size k.2.2⟩
 rcases h.2.2 with e | ⟨j, e, hj⟩
 ·rw [← e]; exact q
 ·rw [e] at q
  injection q with q
  omega
theorem ue2I {x : Int} (h0 : 0 ≤ x) (h1 : x ≤ 2147483646) (w : World) : Calls Tryz.prog 33 #[.int .i64 x] w (BRow w (ueL x.toNat)) := by
 have := ue2_any x.toNat w (by omega)
 rwa [show ((x.toNat : Nat) : Int) = x by omega] at this
theorem flat_snoc {α : Type} (L : α → List Bool) (l : List α) (j : Nat) (h : j < l.length) : (l.take (j + 1)).flatMap L = (l.take j).flatMap L ++ L l[j] := by
 rw [take_snoc l j h, List.flatMap_append]
 simp

set_option maxRecDepth 100000 in
set_option maxHeartbeats 6400000 in
theorem putmds2_any (l : List Md) (A : Option Addr) (c : Nat) (base : Nat) (v : Value) (b : List Bool) (w : World) (ho : w.ownsRow base 5 1 v b.length (bitsV b)) (hbs : base ≤ w.heap.size) (hb : b.length ≤ 90000) (hl : RwAt w base A 2 mdF l) {is : Bool} (ok : MdsOk l is) :
  Calls Tryz.prog 35 #[v, .slice A l.length c] w fun e w' => ∃ v', e = .returned v' ∧ BGrow w base v (b ++ mdsL l) v' w' := by
 have h16 := ok.len
 have HOK := Lib.hid ok.all
 have lu := ueL_le (x := l.length) (by omega)
 have HU := Lib.hid (fun w => ue2_any l.length w (by omega))
 obtain ⟨B0, hB0⟩ : ∃ B, B = b ++ ueL l.length := ⟨_, rfl⟩
 have lB0 : B0.length ≤ b.length + 61 := by rw [hB0, List.length_append]; omega
 obtain ⟨LU, hLU⟩ : ∃ L, L = ueL l.length := ⟨_, rfl⟩
 rw [← hLU] at HU lu hB0
 have HB0 := Lib.hid hB0
 have HLU := Lib.hid hLU
 clear hB0 hLU ok
 have HO := Lib.hid ho
 have HL := Lib.hid hl
 have HG := Lib.hid (BGrow.refl ho)
 clear ho hl
 have HW : Hid (∀ (b' : List Bool) (v1 : Value) (w1 : World), BGrow w base v b' v1 w1 → Below base w w1) := Lib.hid (fun b' v1 w1 g => g.below HO.out hbs)
 go_enter Tryz.func35, Tryz.ntmps35
 go_wp2_with fail
 refine (HU.out _).mono ?_
 rintro e wc ⟨vd, rfl, hvd, hbd⟩
 go_wp2_with (at_builtin; refine wpList_app rfl _ _ rfl base v _ vd (b) (LU) rfl rfl HG.out (Nat.le_trans hbs HG.out.2.1.size) hbd hvd (by (try simp only [List.length_append]); omega) ?_; intro v1 w1 hG)
 replace HG := Lib.hid hG
 clear hG hvd hbd
 rw [← HB0.out] at HG
 go_loopw [0, 5] (fun s i wr => ∃ j : Nat, j ≤ l.length ∧ i = .int .i64 j ∧ BGrow w base v (B0 ++ (l.take j).flatMap mdL) s wr) (fun _ i _ => l.length - (intOf i).toNat)
 case atStart => exact ⟨0, Nat.zero_le _, rfl, by simpa using HG.out⟩
 case round =>
  clear HG
  obtain ⟨j, hj, rfl, hg⟩ := hrel
  have HG := Lib.hid hg
  clear hg
  have hlB : ((l.take j).flatMap mdL).length ≤ 16 * 122 := by
   refine Nat.le_trans (flat_le mdL 122 (l.take j) (fun x hx => ?_)) (Nat.mul_le_mul_right _ (by rw [List.length_take]; omega))
   have hq := HOK.out x (List.mem_of_mem_take hx)
   have h1 := ueL_le (x := x.k.toNat) (by omega)
   have h2 := ueL_le (x := x.v.toNat) (by omega)
   unfold mdL
   rw [List.length_append]
   omega
  obtain ⟨BJ, hBJ⟩ : ∃ B, B = B0 ++ (l.take j).flatMap mdL := ⟨_, rfl⟩
  have lBJ : BJ.length ≤ b.length + 61 + 16 * 122 := by rw [hBJ, List.length_append]; omega
  rw [← hBJ] at HG
  have HBJ := Lib.hid hBJ
  clear hlB hBJ
  by_cases hlt : j < l.length
  ·have hlt' : (j : Int) < (l.length : Int) := by omega
   have hj0 : (0 : Int) ≤ (j : Int) := Int.natCast_nonneg _
   obtain ⟨ad, hA, hab, hcc⟩ := HL.out (by omega)
   subst hA
   obtain ⟨hc0, hcj⟩ := hcc j hlt
   have hc1 := hcj 1 (by omega) (by omega)
   obtain ⟨⟨mk, mv⟩, hm⟩ : ∃ m, m = l[j] := ⟨_, rfl⟩
   rw [← hm] at hc0 hc1
   have hok := HOK.out ⟨mk, mv⟩ (hm ▸ List.getElem_mem hlt)
   have hsn := flat_snoc mdL l j hlt
   rw [← hm] at hsn
   simp only at hok
   have hab' : ∀ q, (ad.add q).block < base := fun q => by rw [block_add]; exact hab
   have C0 : Hid (∀ (b' : List Bool) (v1 : Value) (w1 : World), BGrow w base v b' v1 w1 → w1.cell? (ad.add (j * 2)) = some (.int .i64 mk)) := Lib.hid (fun b' v1 w1 g => ((HW.out _ _ _ g).cell (hab' _)).trans hc0)
   have C1 : Hid (∀ (b' : List Bool) (v1 : Value) (w1 : World), BGrow w base v b' v1 w1 → w1.cell? ⟨(ad.add (j * 2)).block, (ad.add (j * 2)).off + 1, none⟩ = some (.int .i64 mv)) := Lib.hid (fun b' v1 w1 g => ((HW.out _ _ _ g).cell (p := ⟨(ad.add (j * 2)).block, _, none⟩) (hab' _)).trans hc1)
   have HSN := Lib.hid hsn
   have HU1 := Lib.hid (fun w => ue2I (x := mk) (by omega) (by omega) w)
   have HU2 := Lib.hid (fun w => ue2I (x := mv) (by omega) (by omega) w)
   have l1 := ueL_le (x := mk.toNat) (by omega)
   have l2 := ueL_le (x := mv.toNat) (by omega)
   obtain ⟨L1, hL1⟩ : ∃ L, L = ueL mk.toNat := ⟨_, rfl⟩
   obtain ⟨L2, hL2⟩ : ∃ L, L = ueL mv.toNat := ⟨_, rfl⟩
   rw [← hL1] at HU1 l1
   rw [← hL2] at HU2 l2
   have HLL := Lib.hid (show mdL ⟨mk, mv⟩ = L1 ++ L2 by rw [hL1, hL2]; rfl)
   have d0 := C0.out _ _ _ HG.out
   clear hm hc0 hc1 hcj hcc hab hab' hok hsn hL1 hL2
   go_wp2_with fail
   refine (HU1.out _).mono ?_
   rintro e wc ⟨vd, rfl, hvd, hbd⟩
   clear d0
   go_wp2_with (at_builtin; refine wpList_app rfl _ _ rfl base v _ vd (BJ) (L1) rfl rfl HG.out (Nat.le_trans hbs HG.out.2.1.size) hbd hvd (by (try simp only [List.length_append]); omega) ?_; intro v2 w2 hG; have d1 := C1.out _ _ _ hG)
   replace HG := Lib.hid hG
   clear hG hvd hbd
   refine (HU2.out _).mono ?_
   rintro e wc ⟨vd, rfl, hvd, hbd⟩
   clear d1
   go_wp2_with (at_builtin; refine wpList_app rfl _ _ rfl base v _ vd (BJ ++ L1) (L2) rfl rfl HG.out (Nat.le_trans hbs HG.out.2.1.size) hbd hvd (by (try simp only [List.length_append]); omega) ?_; intro v3 w3 hG)
   replace HG := Lib.hid hG
   clear hG hvd hbd
   have e1 : BJ ++ L1 ++ L2 = B0 ++ (l.take (j + 1)).flatMap mdL := by rw [HSN.out, HBJ.out, HLL.out]; simp only [List.append_assoc]
   rw [e1] at HG
   clear e1
   go_roundw
   case rel => exact ⟨j + 1, by omega, by go_num, HG.out⟩
   case measure => simp [intOf]; omega
  ·obtain rfl : j = l.length := by omega
   have hnl : ¬ (l.length : Int) < (l.length : Int) := by omega
   have e1 : BJ = b ++ mdsL l := by rw [HBJ.out, HB0.out, HLU.out, List.take_length]; unfold mdsL; rw [List.append_assoc]
   rw [e1] at HG
   clear e1
   go_wp2_with fail
   go_ret
   exact ⟨_, rfl, HG.out⟩
set_option maxRecDepth 100000 in
set_option maxHeartbeats 12800000 in
theorem putwts2_any (l : List Wt) (A : Option Addr) (c : Nat) (base : Nat) (v : Value) (b : List Bool) (w : World) (ho : w.ownsRow base 5 1 v b.length (bitsV b)) (hbs : base ≤ w.heap.size) (hb : b.length ≤ 90000) (hl : RwAt w base A 6 wtF l) {m : Int} (ok : WtsOk l m) (h16 : l.length ≤ 16) :
  Calls Tryz.prog 37 #[v, .slice A l.length c] w fun e w' => ∃ v', e = .returned v' ∧ BGrow w base v (b ++ wtsL l) v' w' := by
 have HOK := Lib.hid ok.all
 clear ok
 have HO := Lib.hid ho
 have HL := Lib.hid hl
 have HG := Lib.hid (BGrow.refl ho)
 clear ho hl
 have HW : Hid (∀ (b' : List Bool) (v1 : Value) (w1 : World), BGrow w base v b' v1 w1 → Below base w w1) := Lib.hid (fun b' v1 w1 g => g.below HO.out hbs)
 go_enter Tryz.func37, Tryz.ntmps37
 go_wp2_with fail
 go_loopw [0, 5, 6] (fun s i _ wr => ∃ j : Nat, j ≤ l.length ∧ i = .int .i64 j ∧ BGrow w base v (b ++ (l.take j).flatMap wtB) s wr) (fun _ i _ _ => l.length - (intOf i).toNat)
 case atStart => exact ⟨0, Nat.zero_le _, rfl, by simpa using HG.out⟩
 case round =>
  clear HG
  obtain ⟨j, hj, rfl, hg⟩ := hrel
  have HG := Lib.hid hg
  clear hg
  have hlB : ((l.take j).flatMap wtB).length ≤ 16 * 366 := by
   refine Nat.le_trans (flat_le wtB 366 (l.take j) (fun x hx => ?_)) (Nat.mul_le_mul_right _ (by rw [List.length_take]; omega))
   have hq := HOK.out x (List.mem_of_mem_take hx)
   have h1 := seL_le (x := x.s0) (by omega) (by omega)
   have h2 := seL_le (x := x.o0) (by omega) (by omega)
   have h3 := seL_le (x := x.s1) (by omega) (by omega)
   have h4 := seL_le (x := x.o1) (by omega) (by omega)
   have h5 := seL_le (x := x.s2) (by omega) (by omega)
   have h6 := seL_le (x := x.o2) (by omega) (by omega)
   unfold wtB
   simp only [List.length_append]
   omega
  obtain ⟨BJ, hBJ⟩ : ∃ B, B = b ++ (l.take j).flatMap wtB := ⟨_, rfl⟩
  have lBJ : BJ.length ≤ b.length + 16 * 366 := by rw [hBJ, List.length_append]; omega
  rw [← hBJ] at HG
  have HBJ := Lib.hid hBJ
  clear hlB hBJ
  by_cases hlt : j < l.length
  ·have hlt' : (j : Int) < (l.length : Int) := by omega
   have hj0 : (0 : Int) ≤ (j : Int) := Int.natCast_nonneg _
   obtain ⟨ad, hA, hab, hcc⟩ := HL.out (by omega)
   subst hA
   obtain ⟨hc0, hcj⟩ := hcc j hlt
   have hc1 := hcj 1 (by omega) (by omega)
   have hc2 := hcj 2 (by omega) (by omega)
   have hc3 := hcj 3 (by omega) (by omega)
   have hc4 := hcj 4 (by omega) (by omega)
   have hc5 := hcj 5 (by omega) (by omega)
   obtain ⟨⟨x0, x1, x2, y0, y1, y2⟩, hm⟩ : ∃ m, m = l[j] := ⟨_, rfl⟩
   rw [← hm] at hc0 hc1 hc2 hc3 hc4 hc5
   have hok := HOK.out ⟨x0, x1, x2, y0, y1, y2⟩ (hm ▸ List.getElem_mem hlt)
   have hsn := flat_snoc wtB l j hlt
   rw [← hm] at hsn
   simp only at hok
   have hab' : ∀ q, (ad.add q).block < base := fun q => by rw [block_add]; exact hab
   have C0 : Hid (∀ (b' : List Bool) (v1 : Value) (w1 : World), BGrow w base v b' v1 w1 → w1.cell? (ad.add (j * 6)) = some (.int .i64 x0)) := Lib.hid (fun b' v1 w1 g => ((HW.out _ _ _ g).cell (hab' _)).trans hc0)
   have C1 : Hid (∀ (b' : List Bool) (v1 : Value) (w1 : World), BGrow w base v b' v1 w1 → w1.cell? (⟨(ad.add (j * 6)).block, (ad.add (j * 6)).off + 1, none⟩) = some (.int .i64 x1)) := Lib.hid (fun b' v1 w1 g => ((HW.out _ _ _ g).cell (p := ⟨(ad.add (j * 6)).block, _, none⟩) (hab' _)).trans hc1)
   have C2 : Hid (∀ (b' : List Bool) (v1 : Value) (w1 : World), BGrow w base v b' v1 w1 → w1.cell? (⟨(ad.add (j * 6)).block, (ad.add (j * 6)).off + 2, none⟩) = some (.int .i64 x2)) := Lib.hid (fun b' v1 w1 g => ((HW.out _ _ _ g).cell (p := ⟨(ad.add (j * 6)).block, _, none⟩) (hab' _)).trans hc2)
   have C3 : Hid (∀ (b' : List Bool) (v1 : Value) (w1 : World), BGrow w base v b' v1 w1 → w1.cell? (⟨(ad.add (j * 6)).block, (ad.add (j * 6)).off + 3, none⟩) = some (.int .i64 y0)) := Lib.hid (fun b' v1 w1 g => ((HW.out _ _ _ g).cell (p := ⟨(ad.add (j * 6)).block, _, none⟩) (hab' _)).trans hc3)
   have C4 : Hid (∀ (b' : List Bool) (v1 : Value) (w1 : World), BGrow w base v b' v1 w1 → w1.cell? (⟨(ad.add (j * 6)).block, (ad.add (j * 6)).off + 4, none⟩) = some (.int .i64 y1)) := Lib.hid (fun b' v1 w1 g => ((HW.out _ _ _ g).cell (p := ⟨(ad.add (j * 6)).block, _, none⟩) (hab' _)).trans hc4)
   have C5 : Hid (∀ (b' : List Bool) (v1 : Value) (w1 : World), BGrow w base v b' v1 w1 → w1.cell? (⟨(ad.add (j * 6)).block, (ad.add (j * 6)).off + 5, none⟩) = some (.int .i64 y2)) := Lib.hid (fun b' v1 w1 g => ((HW.out _ _ _ g).cell (p := ⟨(ad.add (j * 6)).block, _, none⟩) (hab' _)).trans hc5)
   have HSN := Lib.hid hsn
   have HU1 := Lib.hid (fun w => se2_any x0 w (by omega))
   have l1 := seL_le (x := x0) (by omega) (by omega)
   obtain ⟨L1, hL1⟩ : ∃ L, L = seL x0 := ⟨_, rfl⟩
   rw [← hL1] at HU1 l1
   have HU2 := Lib.hid (fun w => se2_any y0 w (by omega))
   have l2 := seL_le (x := y0) (by omega) (by omega)
   obtain ⟨L2, hL2⟩ : ∃ L, L = seL y0 := ⟨_, rfl⟩
   rw [← hL2] at HU2 l2
   have HU3 := Lib.hid (fun w => se2_any x1 w (by omega))
   have l3 := seL_le (x := x1) (by omega) (by omega)
   obtain ⟨L3, hL3⟩ : ∃ L, L = seL x1 := ⟨_, rfl⟩
   rw [← hL3] at HU3 l3
   have HU4 := Lib.hid (fun w => se2_any y1 w (by omega))
   have l4 := seL_le (x := y1) (by omega) (by omega)
   obtain ⟨L4, hL4⟩ : ∃ L, L = seL y1 := ⟨_, rfl⟩
   rw [← hL4] at HU4 l4
   have HU5 := Lib.hid (fun w => se2_any x2 w (by omega))
   have l5 := seL_le (x := x2) (by omega) (by omega)
   obtain ⟨L5, hL5⟩ : ∃ L, L = seL x2 := ⟨_, rfl⟩
   rw [← hL5] at HU5 l5
   have HU6 := Lib.hid (fun w => se2_any y2 w (by omega))
   have l6 := seL_le (x := y2) (by omega) (by omega)
   obtain ⟨L6, hL6⟩ : ∃ L, L = seL y2 := ⟨_, rfl⟩
   rw [← hL6] at HU6 l6
   have HLL := Lib.hid (show wtB ⟨x0, x1, x2, y0, y1, y2⟩ = L1 ++ L2 ++ L3 ++ L4 ++ L5 ++ L6 by rw [hL1, hL2, hL3, hL4, hL5, hL6]; rfl)
   have d0 := C0.out _ _ _ HG.out
   clear hm hc0 hc1 hc2 hc3 hc4 hc5 hcj hcc hab hab' hok hsn hL1 hL2 hL3 hL4 hL5 hL6
   go_wp2_with fail
   refine wp_loop_rounds 4 ?_
   rw [rounds_succ]
   go_wp2_with fail
   refine (HU1.out _).mono ?_
   rintro e wc ⟨vd, rfl, hvd, hbd⟩
   clear d0
   go_wp2_with (at_builtin; refine wpList_app rfl _ _ rfl base v _ vd (BJ) (L1) rfl rfl HG.out (Nat.le_trans hbs HG.out.2.1.size) hbd hvd (by (try simp only [List.length_append]); omega) ?_; intro v1 w1 hG; have d3 := C3.out _ _ _ hG)
   replace HG := Lib.hid hG
   clear hG hvd hbd
   refine (HU2.out _).mono ?_
   rintro e wc ⟨vd, rfl, hvd, hbd⟩
   clear d3
   go_wp2_with (at_builtin; refine wpList_app rfl _ _ rfl base v _ vd (BJ ++ L1) (L2) rfl rfl HG.out (Nat.le_trans hbs HG.out.2.1.size) hbd hvd (by (try simp only [List.length_append]); omega) ?_; intro v2 w2 hG; have d1 := C1.out _ _ _ hG)
   replace HG := Lib.hid hG
   clear hG hvd hbd
   rw [rounds_succ]
   go_wp2_with fail
   refine (HU3.out _).mono ?_
   rintro e wc ⟨vd, rfl, hvd, hbd⟩
   clear d1
   go_wp2_with (at_builtin; refine wpList_app rfl _ _ rfl base v _ vd (BJ ++ L1 ++ L2) (L3) rfl rfl HG.out (Nat.le_trans hbs HG.out.2.1.size) hbd hvd (by (try simp only [List.length_append]); omega) ?_; intro v3 w3 hG; have d4 := C4.out _ _ _ hG; have d4' : w3.cell? ⟨(ad.add (j * 6)).block, (ad.add (j * 6)).off + 3 + 1, none⟩ = some _ := d4)
   replace HG := Lib.hid hG
   clear hG hvd hbd
   refine (HU4.out _).mono ?_
   rintro e wc ⟨vd, rfl, hvd, hbd⟩
   clear d4 d4'
   go_wp2_with (at_builtin; refine wpList_app rfl _ _ rfl base v _ vd (BJ ++ L1 ++ L2 ++ L3) (L4) rfl rfl HG.out (Nat.le_trans hbs HG.out.2.1.size) hbd hvd (by (try simp only [List.length_append]); omega) ?_; intro v4 w4 hG; have d2 := C2.out _ _ _ hG)
   replace HG := Lib.hid hG
   clear hG hvd hbd
   rw [rounds_succ]
   go_wp2_with fail
   refine (HU5.out _).mono ?_
   rintro e wc ⟨vd, rfl, hvd, hbd⟩
   clear d2
   go_wp2_with (at_builtin; refine wpList_app rfl _ _ rfl base v _ vd (BJ ++ L1 ++ L2 ++ L3 ++ L4) (L5) rfl rfl HG.out (Nat.le_trans hbs HG.out.2.1.size) hbd hvd (by (try simp only [List.length_append]); omega) ?_; intro v5 w5 hG; have d5 := C5.out _ _ _ hG; have d5' : w5.cell? ⟨(ad.add (j * 6)).block, (ad.add (j * 6)).off + 3 + 2, none⟩ = some _ := d5)
   replace HG := Lib.hid hG
   clear hG hvd hbd
   refine (HU6.out _).mono ?_
   rintro e wc ⟨vd, rfl, hvd, hbd⟩
   clear d5 d5'
   go_wp2_with (at_builtin; refine wpList_app rfl _ _ rfl base v _ vd (BJ ++ L1 ++ L2 ++ L3 ++ L4 ++ L5) (L6) rfl rfl HG.out (Nat.le_trans hbs HG.out.2.1.size) hbd hvd (by (try simp only [List.length_append]); omega) ?_; intro v6 w6 hG)
   replace HG := Lib.hid hG
   clear hG hvd hbd
   rw [rounds_succ]
   go_wp2_with fail
   have e1 : BJ ++ L1 ++ L2 ++ L3 ++ L4 ++ L5 ++ L6 = b ++ (l.take (j + 1)).flatMap wtB := by rw [HSN.out, HBJ.out, HLL.out]; simp only [List.append_assoc]
   rw [e1] at HG
   clear e1
   go_roundw
   case rel => exact ⟨j + 1, by omega, by go_num, HG.out⟩
   case measure => simp [intOf]; omega
  ·obtain rfl : j = l.length := by omega
   have hnl : ¬ (l.length : Int) < (l.length : Int) := by omega
   have e1 : BJ = b ++ wtsL l := by rw [HBJ.out, List.take_length]; rfl
   rw [e1] at HG
   clear e1
   go_wp2_with fail
   go_ret
   exact ⟨_, rfl, HG.out⟩
set_option maxRecDepth 100000 in
set_option maxHeartbeats 12800000 in
theorem putmarks2_any (h : Hd) (q : Ha) (key : Bool) (base : Nat) (v : Value) (b : List Bool) (w : World) (ho : w.ownsRow base 5 1 v b.length (bitsV b)) (hbs : base ≤ w.heap.size) (hb : b.length ≤ 90000) (hl : RwAt w base q.ops 3 moF h.ops) (ok : MosOk h.ops) :
  Calls Tryz.prog 38 #[v, .agg (hdV h q), .bool key] w fun e w' => ∃ v', e = .returned v' ∧ BGrow w base v (b ++ (if key = true then [h.longKey] else mosL h.ops)) v' w' := by
 have hb1 : Below w.heap.size w (w.alloc (.cells (hdV h q) 26)) := (Below.refl _ _).alloc (Nat.le_refl _) _
 have hG1 : BGrow w base v b v (w.alloc (.cells (hdV h q) 26)) := (BGrow.refl ho).go hb1
 have hG2 : BGrow (w.alloc (.cells (hdV h q) 26)) base v b v (w.alloc (.cells (hdV h q) 26)) := BGrow.refl hG1.1
 have hK : Bk (w.alloc (.cells (hdV h q) 26)) w.heap.size 26 (hdV h q) := Bk.new _ _ _
 have hne : v.ownBlock ≠ some w.heap.size := fun e => by have := (ho.lt _ e).2; omega
 have hl1 : RwAt (w.alloc (.cells (hdV h q) 26)) base q.ops 3 moF h.ops := hl.below (hb1.mono hbs) (Nat.le_refl _)
 obtain ⟨w1, hw1⟩ : ∃ w1, w1 = w.alloc (.cells (hdV h q) 26) := ⟨_, rfl⟩
 have hbs1 : base ≤ w1.heap.size := by rw [hw1]; simp; omega
 rw [← hw1] at hG1 hG2 hK hl1
 have HG1 := Lib.hid hG1
 have HG := Lib.hid hG2
 have HL := Lib.hid hl1
 have HT : Hid (∀ w', Touch (fun k => v.ownBlock = some k) w1 w' → Bk w' w.heap.size 26 (hdV h q)) := Lib.hid (fun w' ht => hK.touch ht hne)
 have HW : Hid (∀ (b' : List Bool) (v1 : Value) (w2 : World), BGrow w1 base v b' v1 w2 → Below base w1 w2) := Lib.hid (fun b' v1 w2 g => g.below hG1.1 hbs1)
 have HB1 := Lib.hid hbs1
 have k15 := hK.cell 15
 simp [hdV] at k15
 obtain ⟨lk, hlk⟩ : ∃ x, h.longKey = x := ⟨_, rfl⟩
 rw [hlk] at k15 ⊢
 clear hG1 hG2 hK hl1 hb1 ho hl hne hlk
 simp only [hdV] at hw1 ⊢
 cases key
 ·rw [if_neg (by simp)]
  have h16 := ok.len
  have HOK := Lib.hid ok.all
  have lu := ueL_le (x := h.ops.length) (by omega)
  have HU := Lib.hid (fun w => ue2_any h.ops.length w (by omega))
  obtain ⟨B0, hB0⟩ : ∃ B, B = b ++ ueL h.ops.length := ⟨_, rfl⟩
  have lB0 : B0.length ≤ b.length + 61 := by rw [hB0, List.length_append]; omega
  obtain ⟨LU, hLU⟩ : ∃ L, L = ueL h.ops.length := ⟨_, rfl⟩
  rw [← hLU] at HU lu hB0
  have HB0 := Lib.hid hB0
  have HLU := Lib.hid hLU
  have k16 := (HT.out _ (Touch.refl _ _)).cell 16
  simp [hdV] at k16
  clear hB0 hLU ok k15
  go_enter Tryz.func38, Tryz.ntmps38
  go_upto_region 3 with fail
  rw [← hw1]
  clear hw1
  go_wp2_with fail
  clear k16
  refine (HU.out _).mono ?_
  rintro e wc ⟨vd, rfl, hvd, hbd⟩
  have HBZ := HB1
  go_wp2_with (at_builtin; refine wpList_app rfl _ _ rfl base v _ vd (b) (LU) rfl rfl HG.out (Nat.le_trans HBZ.out HG.out.2.1.size) hbd hvd (by (try simp only [List.length_append]); omega) ?_; intro v2 w2 hG)
  replace HG := Lib.hid hG
  clear hG hvd hbd
  rw [← HB0.out] at HG
  clear HBZ
  go_loopw [0, 7] (fun s i wr => ∃ j : Nat, j ≤ h.ops.length ∧ i = .int .i64 j ∧ BGrow w1 base v (B0 ++ (h.ops.take j).flatMap moL) s wr) (fun _ i _ => h.ops.length - (intOf i).toNat)
  case atStart => exact ⟨0, Nat.zero_le _, rfl, by simpa using HG.out⟩
  case round =>
   clear HG
   obtain ⟨j, hj, rfl, hg⟩ := hrel
   have HG := Lib.hid hg
   clear hg
   have hlB : ((h.ops.take j).flatMap moL).length ≤ 16 * 183 := by
    refine Nat.le_trans (flat_le moL 183 (h.ops.take j) (fun x hx => ?_)) (Nat.mul_le_mul_right _ (by rw [List.length_take]; omega))
    have hq := HOK.out x (List.mem_of_mem_take hx)
    have h1 := ueL_le (x := x.k.toNat) (by omega)
    have h2 := ueL_le (x := x.a.toNat) (by omega)
    have h3 := ueL_le (x := x.b.toNat) (by omega)
    unfold moL
    split <;> split <;> simp only [List.length_append, List.length_nil] <;> omega
   obtain ⟨BJ, hBJ⟩ : ∃ B, B = B0 ++ (h.ops.take j).flatMap moL := ⟨_, rfl⟩
   have lBJ : BJ.length ≤ b.length + 61 + 16 * 183 := by rw [hBJ, List.length_append]; omega
   rw [← hBJ] at HG
   have HBJ := Lib.hid hBJ
   clear hlB hBJ
   have k16 := (HT.out _ HG.out.2.1).cell 16
   simp [hdV] at k16
   by_cases hlt : j < h.ops.length
   ·have hlt' : (j : Int) < (h.ops.length : Int) := by omega
    have hj0 : (0 : Int) ≤ (j : Int) := Int.natCast_nonneg _
    obtain ⟨ad, hA, hab, hcc⟩ := (HL.out.below (HW.out _ _ _ HG.out) (Nat.le_refl _)) (by omega)
    rw [hA] at k16
    clear hA
    obtain ⟨hc0, hcj⟩ := hcc j hlt
    have hc1 := hcj 1 (by omega) (by omega)
    have hc2 := hcj 2 (by omega) (by omega)
    obtain ⟨⟨mk, ma, mb⟩, hm⟩ : ∃ m, m = h.ops[j] := ⟨_, rfl⟩
    rw [← hm] at hc0 hc1 hc2
    have hok := HOK.out ⟨mk, ma, mb⟩ (hm ▸ List.getElem_mem hlt)
    have hsn := flat_snoc moL h.ops j hlt
    rw [← hm] at hsn
    simp only at hok
    have d0 : wr.cell? (ad.add (j * 3)) = some (.int .i64 mk) := hc0
    have d1 : wr.cell? ⟨(ad.add (j * 3)).block, (ad.add (j * 3)).off + 1, none⟩ = some (.int .i64 ma) := hc1
    have d2 : wr.cell? ⟨(ad.add (j * 3)).block, (ad.add (j * 3)).off + 2, none⟩ = some (.int .i64 mb) := hc2
    have HSN := Lib.hid hsn
    obtain ⟨x, hx⟩ : ∃ b, hasA2 mk = b := ⟨_, rfl⟩
    obtain ⟨y, hy⟩ : ∃ b, hasB mk = b := ⟨_, rfl⟩
    have hx2 : hasA mk = x := by rw [← hasA2_of hok.1]; exact hx
    have HA := Lib.hid (fun w => hx ▸ hasA2_any mk w)
    have HBb := Lib.hid (fun w => hy ▸ hasB2_any mk w)
    have HU1 := Lib.hid (fun w => ue2I (x := mk) (by omega) (by omega) w)
    have HU2 := Lib.hid (fun w => ue2I (x := ma) (by omega) (by omega) w)
    have HU3 := Lib.hid (fun w => ue2I (x := mb) (by omega) (by omega) w)
    have l1 := ueL_le (x := mk.toNat) (by omega)
    have l2 := ueL_le (x := ma.toNat) (by omega)
    have l3 := ueL_le (x := mb.toNat) (by omega)
    obtain ⟨L1, hL1⟩ : ∃ L, L = ueL mk.toNat := ⟨_, rfl⟩
    obtain ⟨L2, hL2⟩ : ∃ L, L = ueL ma.toNat := ⟨_, rfl⟩
    obtain ⟨L3, hL3⟩ : ∃ L, L = ueL mb.toNat := ⟨_, rfl⟩
    rw [← hL1] at HU1 l1
    rw [← hL2] at HU2 l2
    rw [← hL3] at HU3 l3
    have HLL := Lib.hid (show moL ⟨mk, ma, mb⟩ = L1 ++ (if x = true then L2 else []) ++ (if y = true then L3 else []) by unfold moL; simp only [hL1, hL2, hL3, hx2, hy])
    have hbz : Below wr.heap.size wr (wr.alloc (.cells #[.int .i64 mk, .int .i64 ma, .int .i64 mb] 118)) := (Below.refl _ _).alloc (Nat.le_refl _) _
    have hGz := HG.out.go hbz
    have hKz := Bk.new wr 118 #[.int .i64 mk, .int .i64 ma, .int .i64 mb]
    have hnez : u0.ownBlock ≠ some wr.heap.size := fun e => by have := (HG.out.1.lt _ e).2; omega
    have hbsz : base ≤ (wr.alloc (.cells #[.int .i64 mk, .int .i64 ma, .int .i64 mb] 118)).heap.size := Nat.le_trans (Nat.le_trans HB1.out HG.out.2.1.size) hbz.size
    obtain ⟨wz, hwz⟩ : ∃ wz, wz = wr.alloc (.cells #[.int .i64 mk, .int .i64 ma, .int .i64 mb] 118) := ⟨_, rfl⟩
    rw [← hwz] at hGz hKz hbsz
    have HGz := Lib.hid hGz
    have HZ : Hid (BGrow wz base u0 BJ u0 wz) := Lib.hid (BGrow.refl hGz.1)
    have KT : Hid (∀ w', Touch (fun k => u0.ownBlock = some k) wz w' → Bk w' wr.heap.size 118 #[.int .i64 mk, .int .i64 ma, .int .i64 mb]) := Lib.hid (fun w' ht => hKz.touch ht hnez)
    have HBZ := Lib.hid hbsz
    have kz0 := hKz.cell 0
    simp at kz0
    clear hm hc0 hc1 hc2 hcj hcc hab hok hsn hx hy hx2 hL1 hL2 hL3 hbz hGz hKz hnez hbsz HG
    go_upto_region 8 with fail
    rw [← hwz]
    clear hwz d0 d1 d2 k16
    go_wp2_with fail
    cases x
    ·cases y
     ·skip
      refine (HU1.out _).mono ?_
      rintro e wc ⟨vd, rfl, hvd, hbd⟩
      clear kz0
      go_wp2_with (first | (go_at_call 78; refine (HA.out _).mono ?_; rintro e w' ⟨rfl, rfl⟩) | (go_at_call 79; refine (HBb.out _).mono ?_; rintro e w' ⟨rfl, rfl⟩) | (at_builtin; refine wpList_app rfl _ _ rfl base u0 _ vd (BJ) (L1) rfl rfl HZ.out (Nat.le_trans HBZ.out HZ.out.2.1.size) hbd hvd (by (try simp only [List.length_append]); omega) ?_; intro v3 w3 hG; have kk := KT.out _ hG.2.1; have kz0 := kk.cell 0; simp at kz0; clear kk))
      replace HZ := Lib.hid hG
      clear hG hvd hbd
      try clear kz0
      have hfin := BGrow.trans HGz.out HZ.out
      have e1 : BJ ++ L1 = B0 ++ (h.ops.take (j + 1)).flatMap moL := by rw [HSN.out, HBJ.out, HLL.out]; simp [List.append_assoc]
      rw [e1] at hfin
      have HF := Lib.hid hfin
      clear e1 hfin
      go_roundw
      case rel => first | exact ⟨j + 1, by omega, by go_num, HF.out⟩ | ((repeat apply Exists.intro); exact ⟨⟨j + 1, by omega, by go_num, HF.out⟩, rfl⟩)
      case measure => simp [intOf]; omega
     ·skip
      refine (HU1.out _).mono ?_
      rintro e wc ⟨vd, rfl, hvd, hbd⟩
      clear kz0
      go_wp2_with (first | (go_at_call 78; refine (HA.out _).mono ?_; rintro e w' ⟨rfl, rfl⟩) | (go_at_call 79; refine (HBb.out _).mono ?_; rintro e w' ⟨rfl, rfl⟩) | (at_builtin; refine wpList_app rfl _ _ rfl base u0 _ vd (BJ) (L1) rfl rfl HZ.out (Nat.le_trans HBZ.out HZ.out.2.1.size) hbd hvd (by (try simp only [List.length_append]); omega) ?_; intro v3 w3 hG; have kk := KT.out _ hG.2.1; have kz0 := kk.cell 0; simp at kz0; clear kk; have kz2 := (KT.out _ hG.2.1).cell 2; simp at kz2))
      replace HZ := Lib.hid hG
      clear hG hvd hbd
      refine (HU3.out _).mono ?_
      rintro e wc ⟨vd, rfl, hvd, hbd⟩
      clear kz0 kz2
      go_wp2_with (first | (go_at_call 78; refine (HA.out _).mono ?_; rintro e w' ⟨rfl, rfl⟩) | (go_at_call 79; refine (HBb.out _).mono ?_; rintro e w' ⟨rfl, rfl⟩) | (at_builtin; refine wpList_app rfl _ _ rfl base u0 _ vd (BJ ++ L1) (L3) rfl rfl HZ.out (Nat.le_trans HBZ.out HZ.out.2.1.size) hbd hvd (by (try simp only [List.length_append]); omega) ?_; intro v5 w5 hG))
      replace HZ := Lib.hid hG
      clear hG hvd hbd
      have hfin := BGrow.trans HGz.out HZ.out
      have e1 : BJ ++ L1 ++ L3 = B0 ++ (h.ops.take (j + 1)).flatMap moL := by rw [HSN.out, HBJ.out, HLL.out]; simp [List.append_assoc]
      rw [e1] at hfin
      have HF := Lib.hid hfin
      clear e1 hfin
      go_roundw
      case rel => first | exact ⟨j + 1, by omega, by go_num, HF.out⟩ | ((repeat apply Exists.intro); exact ⟨⟨j + 1, by omega, by go_num, HF.out⟩, rfl⟩)
      case measure => simp [intOf]; omega
    ·cases y
     ·skip
      refine (HU1.out _).mono ?_
      rintro e wc ⟨vd, rfl, hvd, hbd⟩
      clear kz0
      go_wp2_with (first | (go_at_call 78; refine (HA.out _).mono ?_; rintro e w' ⟨rfl, rfl⟩) | (go_at_call 79; refine (HBb.out _).mono ?_; rintro e w' ⟨rfl, rfl⟩) | (at_builtin; refine wpList_app rfl _ _ rfl base u0 _ vd (BJ) (L1) rfl rfl HZ.out (Nat.le_trans HBZ.out HZ.out.2.1.size) hbd hvd (by (try simp only [List.length_append]); omega) ?_; intro v3 w3 hG; have kk := KT.out _ hG.2.1; have kz0 := kk.cell 0; have kz1 := kk.cell 1; simp at kz0 kz1; clear kk))
      replace HZ := Lib.hid hG
      clear hG hvd hbd
      refine (HU2.out _).mono ?_
      rintro e wc ⟨vd, rfl, hvd, hbd⟩
      clear kz0 kz1
      go_wp2_with (first | (go_at_call 78; refine (HA.out _).mono ?_; rintro e w' ⟨rfl, rfl⟩) | (go_at_call 79; refine (HBb.out _).mono ?_; rintro e w' ⟨rfl, rfl⟩) | (at_builtin; refine wpList_app rfl _ _ rfl base u0 _ vd (BJ ++ L1) (L2) rfl rfl HZ.out (Nat.le_trans HBZ.out HZ.out.2.1.size) hbd hvd (by (try simp only [List.length_append]); omega) ?_; intro v4 w4 hG; have kk := KT.out _ hG.2.1; have kz0 := kk.cell 0; simp at kz0; clear kk))
      replace HZ := Lib.hid hG
      clear hG hvd hbd
      try clear kz0
      have hfin := BGrow.trans HGz.out HZ.out
      have e1 : BJ ++ L1 ++ L2 = B0 ++ (h.ops.take (j + 1)).flatMap moL := by rw [HSN.out, HBJ.out, HLL.out]; simp [List.append_assoc]
      rw [e1] at hfin
      have HF := Lib.hid hfin
      clear e1 hfin
      go_roundw
      case rel => first | exact ⟨j + 1, by omega, by go_num, HF.out⟩ | ((repeat apply Exists.intro); exact ⟨⟨j + 1, by omega, by go_num, HF.out⟩, rfl⟩)
      case measure => simp [intOf]; omega
     ·skip
      refine (HU1.out _).mono ?_
      rintro e wc ⟨vd, rfl, hvd, hbd⟩
      clear kz0
      go_wp2_with (first | (go_at_call 78; refine (HA.out _).mono ?_; rintro e w' ⟨rfl, rfl⟩) | (go_at_call 79; refine (HBb.out _).mono ?_; rintro e w' ⟨rfl, rfl⟩) | (at_builtin; refine wpList_app rfl _ _ rfl base u0 _ vd (BJ) (L1) rfl rfl HZ.out (Nat.le_trans HBZ.out HZ.out.2.1.size) hbd hvd (by (try simp only [List.length_append]); omega) ?_; intro v3 w3 hG; have kk := KT.out _ hG.2.1; have kz0 := kk.cell 0; have kz1 := kk.cell 1; simp at kz0 kz1; clear kk))
      replace HZ := Lib.hid hG
      clear hG hvd hbd
      refine (HU2.out _).mono ?_
      rintro e wc ⟨vd, rfl, hvd, hbd⟩
      clear kz0 kz1
      go_wp2_with (first | (go_at_call 78; refine (HA.out _).mono ?_; rintro e w' ⟨rfl, rfl⟩) | (go_at_call 79; refine (HBb.out _).mono ?_; rintro e w' ⟨rfl, rfl⟩) | (at_builtin; refine wpList_app rfl _ _ rfl base u0 _ vd (BJ ++ L1) (L2) rfl rfl HZ.out (Nat.le_trans HBZ.out HZ.out.2.1.size) hbd hvd (by (try simp only [List.length_append]); omega) ?_; intro v4 w4 hG; have kk := KT.out _ hG.2.1; have kz0 := kk.cell 0; have kz2 := kk.cell 2; simp at kz0 kz2; clear kk))
      replace HZ := Lib.hid hG
      clear hG hvd hbd
      refine (HU3.out _).mono ?_
      rintro e wc ⟨vd, rfl, hvd, hbd⟩
      clear kz0 kz2
      go_wp2_with (first | (go_at_call 78; refine (HA.out _).mono ?_; rintro e w' ⟨rfl, rfl⟩) | (go_at_call 79; refine (HBb.out _).mono ?_; rintro e w' ⟨rfl, rfl⟩) | (at_builtin; refine wpList_app rfl _ _ rfl base u0 _ vd (BJ ++ L1 ++ L2) (L3) rfl rfl HZ.out (Nat.le_trans HBZ.out HZ.out.2.1.size) hbd hvd (by (try simp only [List.length_append]); omega) ?_; intro v5 w5 hG))
      replace HZ := Lib.hid hG
      clear hG hvd hbd
      have hfin := BGrow.trans HGz.out HZ.out
      have e1 : BJ ++ L1 ++ L2 ++ L3 = B0 ++ (h.ops.take (j + 1)).flatMap moL := by rw [HSN.out, HBJ.out, HLL.out]; simp [List.append_assoc]
      rw [e1] at hfin
      have HF := Lib.hid hfin
      clear e1 hfin
      go_roundw
      case rel => first | exact ⟨j + 1, by omega, by go_num, HF.out⟩ | ((repeat apply Exists.intro); exact ⟨⟨j + 1, by omega, by go_num, HF.out⟩, rfl⟩)
      case measure => simp [intOf]; omega
   ·obtain rfl : j = h.ops.length := by omega
    have hnl : ¬ (h.ops.length : Int) < (h.ops.length : Int) := by omega
    have e1 : BJ = b ++ mosL h.ops := by rw [HBJ.out, HB0.out, HLU.out, List.take_length]; unfold mosL; rw [List.append_assoc]
    rw [e1] at HG
    have HF := Lib.hid (BGrow.trans HG1.out HG.out)
    clear e1 HG
    go_wp2_with fail
    go_ret
    exact ⟨_, rfl, HF.out⟩
 ·rw [if_pos rfl]
  clear ok
  go_enter Tryz.func38, Tryz.ntmps38
  go_upto_region 2 with fail
  rw [← hw1]
  clear hw1
  have hu := bu_u8 lk
  have hob := own_bit w1 lk
  have hbb : Below w1.heap.size w1 (w1.alloc (.cells #[.int .u8 (bu lk)] 5)) := (Below.refl _ _).alloc (Nat.le_refl _) _
  have HOB := Lib.hid hob
  have HBB := Lib.hid hbb
  clear hob hbb
  go_wp2_with (first | (go_at_call 34; refine (flag2_any _ _).mono ?_; rintro e w' ⟨rfl, rfl⟩) | (at_builtin; refine wpList_app rfl _ _ rfl base v _ (.slice (some ⟨w1.heap.size, 0, none⟩) 1 1) b [lk] rfl rfl HG.out HB1.out HBB.out HOB.out (by show b.length + 1 ≤ _; omega) ?_; intro v2 w2 hG))
  have HF := Lib.hid (BGrow.trans HG1.out hG)
  clear hG
  go_ret
  exact ⟨_, rfl, HF.out⟩
end Go.Proofs.YtjokibagciehlaaGreat

namespace Go.Proofs.YtjokibagciehlaaGreat
open Go.RowKit
set_option linter.unusedVariables false
set_option linter.unusedSimpArgs false

section
variable {α : Type} {C : Nat} {f : α → Nat → Value}
def cellsL (C : Nat) (f : α → Nat → Value) (l : List α) : List Value := l.flatMap fun x => (List.range C).map (f x)
theorem cellsL_len : ∀ l : List α, (cellsL C f l).length = l.length * C
 | [] => by simp [cellsL]
 | x :: l => by
  have := cellsL_len l
  unfold cellsL at this ⊢
  rw [List.flatMap_cons, List.length_append, this, List.length_map, List.length_range, List.length_cons, Nat.add_mul]
  omega
theorem cellsL_append (l k : List α) : cellsL C f (l ++ k) = cellsL C f l ++ cellsL C f k := by unfold cellsL; rw [List.flatMap_append]
theorem cellsL_get : ∀ (l : List α) (k i : Nat) (hk : k < l.length), i < C → (cellsL C f l)[k * C + i]? = some (f l[k] i)
 | x :: l, 0, i, hk, hi => by
  unfold cellsL
  rw [List.flatMap_cons, Nat.zero_mul, Nat.zero_add, List.getElem?_append_left (by simpa using hi)]
  simp [hi]
 | x :: l, k + 1, i, hk, hi => by
  have := cellsL_get l k i (by simpa using hk) hi
  unfold cellsL at this ⊢
  rw [List.flatMap_cons, List.getElem?_append_right (by simp [Nat.add_mul]; omega), List.length_map, List.length_range, show (k + 1) * C + i - C = k * C + i by rw [Nat.add_mul]; omega, this]
  rfl
theorem RwAt.news {w : World} {B : Nat} {A : Option Addr} {l : List α} (h : RwAt w B A C f l) (hC : 0 < C) : 0 < l.length → ∃ ad, A = some ad ∧ ∀ j u, (cellsL C f l)[j]? = some u → w.cell? (ad.add j) = some u := fun hn => by
 obtain ⟨ad, e, hb, hc⟩ := h hn
 refine ⟨ad, e, fun j u hj => ?_⟩
 have hjl := (List.getElem?_eq_some_iff.1 hj).1
 rw [cellsL_len] at hjl
 have hk : j / C < l.length := by rw [Nat.div_lt_iff_lt_mul hC]; exact hjl
 have hi : j % C < C := Nat.mod_lt _ hC
 have he : j / C * C + j % C = j := by rw [Nat.mul_comm]; exact Nat.div_add_mod j C
 have hg := cellsL_get (f := f) l (j / C) (j % C) hk hi
 rw [he, hj] at hg
 injection hg with hg
 rw [hg]
 obtain ⟨c0, cj⟩ := hc (j / C) hk
 rcases Nat.eq_zero_or_pos (j % C) with h0 | h0
 ·rw [h0] at he ⊢
  rw [Nat.add_zero] at he
  rw [← c0, he]
 ·rw [← cj _ h0 hi]
  have hp : ad.add j = ⟨(ad.add (j / C * C)).block, (ad.add (j / C * C)).off + j % C, none⟩ := by
   rw [← add_off ad (j / C * C) (j % C) h0, he]
  rw [hp]
theorem RwAt.front {w : World} {B : Nat} {A : Option Addr} {l k : List α} (h : RwAt w B A C f (l ++ k)) : RwAt w B A C f l := fun hn => by
 obtain ⟨ad, e, hb, hc⟩ := h (by rw [List.length_append]; omega)
 refine ⟨ad, e, hb, fun j hj => ?_⟩
 have := hc j (by rw [List.length_append]; omega)
 rwa [List.getElem_append_left hj] at this
theorem RwAt.of_row {w : World} {base g n c : Nat} {e : TypeId} {l : List α} (hC : 0 < C) (h : w.ownsRow base e C (.slice (some ⟨g, 0, none⟩) n c) n (cellsL C f l)) (hg : g < w.heap.size) : RwAt w w.heap.size (some ⟨g, 0, none⟩) C f l := fun _ =>
 ⟨⟨g, 0, none⟩, rfl, hg, fun k hk => ⟨by
  rw [add_new, h.cellAt _ (by have hq := h.1; rw [cellsL_len] at hq; rw [← hq]; exact Nat.mul_lt_mul_of_pos_right hk hC)]
  have := cellsL_get (f := f) l k 0 hk hC
  rwa [Nat.add_zero] at this, fun j h0 hj => by
  rw [add_new]
  show w.cell? ⟨g, k * C + j, none⟩ = _
  rw [h.cellAt _ (by
   have hq := h.1
   rw [cellsL_len] at hq
   rw [← hq]
   have : (k + 1) * C ≤ l.length * C := Nat.mul_le_mul_right _ hk
   rw [Nat.add_mul] at this
   omega)]
  exact cellsL_get l k j hk hj⟩⟩
end
theorem own_formC {w : World} {base n C : Nat} {e : TypeId} {v : Value} {xs : List Value} (h : w.ownsRow base e C v n xs) (hn : 0 < n) :
  ∃ g cap, v = .slice (some ⟨g, 0, none⟩) n cap ∧ n ≤ cap ∧ cap ≤ maxLen ∧ base ≤ g ∧ g < w.heap.size := by
 rcases h.2 with ⟨rfl, rfl⟩ | ⟨g, cap, cur, rfl, hbg, hh, hnc, hcm, _, _⟩
 ·omega
 ·refine ⟨g, cap, rfl, hnc, hcm, hbg, ?_⟩
  rcases Nat.lt_or_ge g w.heap.size with h1 | h1
  ·exact h1
  ·rw [Array.getElem?_eq_none h1] at hh; cases hh
/-- a row that was lent: two marks behind it -/
def LentR {α : Type} (w : World) (B : Nat) (A : Option Addr) (c C : Nat) (f : α → Nat → Value) (l : List α) (m : α) : Prop :=
 ∃ g, A = some ⟨g, 0, none⟩ ∧ l.length + 2 ≤ c ∧ c ≤ maxLen ∧ B ≤ g ∧ g < w.heap.size ∧ RwAt w w.heap.size A C f (l ++ [m, m])
theorem LentR.go {α : Type} {w w' : World} {B c C : Nat} {A : Option Addr} {f : α → Nat → Value} {l : List α} {m : α} (h : LentR w B A c C f l m) (hb : Below w.heap.size w w') : LentR w' B A c C f l m := by
 obtain ⟨g, e, h1, h2, h3, h4, h5⟩ := h
 exact ⟨g, e, h1, h2, h3, Nat.lt_of_lt_of_le h4 hb.size, h5.go hb⟩
theorem eq_arr3b (d : Nat) (a b c : Int) (w : World) : (Op.equalIn (d + 2) 114 (.agg #[.int .i64 a, .int .i64 b, .int .i64 c]) (.agg #[.int .i64 a, .int .i64 b, .int .i64 c])).run Tryz.prog w = .ok true w := eq_arr3 d a b c w
attribute [local go_sem] eq_arr3b
def Md.mark : Md := ⟨77777, 0⟩
def Wt.mark : Wt := ⟨77777, 0, 0, 0, 0, 0⟩
def Mo.mark : Mo := ⟨77777, 0, 0⟩
theorem oneMd (l : List Md) : ∀ u ∈ cellsL 2 mdF l, u.oneCell' = true := fun u hu => by
 unfold cellsL at hu
 obtain ⟨x, _, hx⟩ := List.mem_flatMap.1 hu
 obtain ⟨j, _, rfl⟩ := List.mem_map.1 hx
 unfold mdF
 split <;> rfl
set_option maxRecDepth 100000 in
set_option maxHeartbeats 1600000 in
theorem copyMd_any (l : List Md) (A : Option Addr) (c : Nat) (w : World) (h : RwAt w w.heap.size A 2 mdF l) (h0 : A = none → l.length = 0 ∧ c = 0) (hn : l.length * 16 ≤ 140737488355328) :
  Calls Tryz.prog 65 #[.slice A l.length c] w fun e w' => ∃ v, e = .returned v ∧ w'.ownsRow w.heap.size 113 2 v l.length (cellsL 2 mdF l) ∧ Below w.heap.size w w' := by
 obtain ⟨i0, hi, hz0, hz1, hz2⟩ := info_parts Md_info
 have hl := World.ownsRow_lit (base := w.heap.size) (e := 113) (size := 2) w #[] 0 (Nat.le_refl _) (Nat.zero_le _) rfl
 have HC := Lib.hid (fun (h1 : 0 < l.length) => (h.past (.cells #[] 113)).news (by decide) h1)
 clear h
 go_enter Tryz.func65, Tryz.ntmps65
 go_wp2_with (at_builtin; refine wpList_append_rows _ rfl _ _ 22 rfl w.heap.size 113 i0 _ 2 16 Tryz.underlying22 hi hz0 hz1 hz2 rfl (by decide) _ 0 _ rfl hl A l.length c (cellsL 2 mdF l) rfl (cellsL_len l) HC.out h0 (oneMd l) (by unfold maxLen; omega) (by omega) (by simp) ?_; intro v' w1 hown1 hg1)
 go_ret
 refine ⟨v', rfl, by simpa using hown1, ?_⟩
 exact ((Below.refl _ _).alloc (Nat.le_refl _) _).grown hg1 (by simp) (fun k hk => (hl.lt k hk).1)
set_option maxRecDepth 100000 in
set_option maxHeartbeats 1600000 in
theorem lendMd_any (l : List Md) (A : Option Addr) (c : Nat) (w : World) (h : RwAt w w.heap.size A 2 mdF l) (h0 : A = none → l.length = 0 ∧ c = 0) (hn : (l.length + 2) * 16 ≤ 140737488355328) :
  Calls Tryz.prog 28 #[.slice A l.length c] w fun e w' => ∃ A' c', e = .returned (.slice A' l.length c') ∧ LentR w' w.heap.size A' c' 2 mdF l Md.mark ∧ Below w.heap.size w w' := by
 obtain ⟨i0, hi, hz0, hz1, hz2⟩ := info_parts Md_info
 have HC := Lib.hid (copyMd_any l A c w h h0 (by omega))
 clear h h0
 go_enter Tryz.func28, Tryz.ntmps28
 go_wp2_with fail
 refine HC.out.mono ?_
 rintro e w1 ⟨v, rfl, hown, hb⟩
 have hs := hb.size
 clear HC
 go_wp2_with (at_builtin; refine wpList_append_own _ rfl _ _ 22 rfl w.heap.size 113 i0 _ 2 16 Tryz.underlying22 hi hz0 hz1 hz2 rfl (by decide) _ l.length _ rfl (hown.alloc _) ⟨w1.heap.size, 0, none⟩ 2 2 (cellsL 2 mdF [Md.mark, Md.mark]) rfl rfl ?c1 (oneMd _) (by unfold maxLen; omega) (by omega) (by simp; omega) ?_)
 case c1 =>
  intro j u hj
  rw [add_new]
  have hj' : ([.int .i64 77777, .int .i64 0, .int .i64 77777, .int .i64 0] : List Value)[j]? = some u := hj
  match j, hj' with
  | 0, hj => simp at hj; subst hj; simp
  | 1, hj => simp at hj; subst hj; simp
  | 2, hj => simp at hj; subst hj; simp
  | 3, hj => simp at hj; subst hj; simp
 intro v' w2 hown2 hg2 _
 rw [← cellsL_append] at hown2
 obtain ⟨g, cap, hv, hnc, hcm, hbg, hgl⟩ := own_formC hown2 (by omega)
 have hb2 : Below w.heap.size w w2 := ((hb.alloc hs _).grown hg2 (by simp; omega) (fun k hk => (hown.lt k hk).1))
 subst hv
 have hrd := RwAt.of_row (by decide) hown2 hgl
 clear hown2 hg2 hown
 have HB := Lib.hid hb2
 have HR := Lib.hid hrd
 clear hb2 hrd hb
 have hn0 : (0 : Int) ≤ (l.length : Int) := Int.natCast_nonneg _
 have hn1 : (l.length : Int) ≤ (cap : Int) := by omega
 go_wp2_with fail
 go_ret
 exact ⟨_, _, rfl, ⟨g, rfl, hnc, hcm, hbg, hgl, HR.out⟩, HB.out⟩
set_option maxRecDepth 100000 in
set_option maxHeartbeats 3200000 in
theorem keptMd_yes (l : List Md) (A' : Option Addr) (c' B : Nat) (A : Option Addr) (c : Nat) (w : World) (hl : LentR w B A' c' 2 mdF l Md.mark) (ha : RwAt w w.heap.size A 2 mdF l) (hn : l.length ≤ 281474976710656) :
  Calls Tryz.prog 52 #[.slice A' l.length c', .slice A l.length c] w fun e w' => e = .returned (.bool true) ∧ Below w.heap.size w w' := by
 obtain ⟨g, rfl, hc, hc', _, hg, hr⟩ := hl
 unfold maxLen at hc'
 have hn0 : (0 : Int) ≤ (l.length : Int) := Int.natCast_nonneg _
 have hn1 : (l.length : Int) + 2 ≤ (c' : Int) := by omega
 have hn2 : (l.length : Int) ≤ 281474976710656 := by omega
 have HS := Lib.hid (sameMods_yes l (some ⟨g, 0, none⟩) A c' c w hr.front ha (by omega))
 obtain ⟨ad, e, _, hcell⟩ := hr (by simp)
 obtain rfl : (⟨g, 0, none⟩ : Addr) = ad := by injection e
 have q1 := hcell l.length (by simp)
 have q2 := hcell (l.length + 1) (by simp)
 rw [List.getElem_append_right (by omega)] at q1 q2
 simp only [Nat.sub_self, Nat.add_sub_cancel_left, List.getElem_cons_zero, List.getElem_cons_succ, add_new] at q1 q2
 obtain ⟨a0, aj⟩ := q1
 obtain ⟨b0, bj⟩ := q2
 have Ka0 : w.cell? ⟨g, l.length * 2, none⟩ = some (.int .i64 77777) := a0
 have Ka1 : w.cell? ⟨g, l.length * 2 + 1, none⟩ = some (.int .i64 0) := aj 1 (by decide) (by decide)
 have Kb0 : w.cell? ⟨g, (l.length + 1) * 2, none⟩ = some (.int .i64 77777) := b0
 have Kb1 : w.cell? ⟨g, (l.length + 1) * 2 + 1, none⟩ = some (.int .i64 0) := bj 1 (by decide) (by decide)
 have KK := Lib.hid (And.intro Ka0 ( And.intro Ka1 ( And.intro Kb0 (Kb1))))
 clear hr ha e hcell a0 aj b0 bj Ka0 Ka1 Kb0 Kb1
 go_enter Tryz.func52, Tryz.ntmps52
 go_wp2_with fail
 refine HS.out.mono ?_
 rintro e w1 ⟨rfl, hb⟩
 obtain ⟨Ka0, Ka1, Kb0, Kb1⟩ := KK.out
 have ka0 : w1.cell? ⟨g, l.length * 2, none⟩ = some (.int .i64 77777) := (hb.cell (p := ⟨g, _, none⟩) hg).trans Ka0
 have ka1 : w1.cell? ⟨g, l.length * 2 + 1, none⟩ = some (.int .i64 0) := (hb.cell (p := ⟨g, _, none⟩) hg).trans Ka1
 have kb0 : w1.cell? ⟨g, (l.length + 1) * 2, none⟩ = some (.int .i64 77777) := (hb.cell (p := ⟨g, _, none⟩) hg).trans Kb0
 have kb1 : w1.cell? ⟨g, (l.length + 1) * 2 + 1, none⟩ = some (.int .i64 0) := (hb.cell (p := ⟨g, _, none⟩) hg).trans Kb1
 clear Ka0 Ka1 Kb0 Kb1
 have HB := Lib.hid hb
 clear hb KK
 go_wp2_with fail
 go_ret
 exact ⟨rfl, HB.out⟩
theorem oneWt (l : List Wt) : ∀ u ∈ cellsL 6 wtF l, u.oneCell' = true := fun u hu => by
 unfold cellsL at hu
 obtain ⟨x, _, hx⟩ := List.mem_flatMap.1 hu
 obtain ⟨j, _, rfl⟩ := List.mem_map.1 hx
 unfold wtF
 split <;> rfl
set_option maxRecDepth 100000 in
set_option maxHeartbeats 1600000 in
theorem copyWt_any (l : List Wt) (A : Option Addr) (c : Nat) (w : World) (h : RwAt w w.heap.size A 6 wtF l) (h0 : A = none → l.length = 0 ∧ c = 0) (hn : l.length * 48 ≤ 140737488355328) :
  Calls Tryz.prog 66 #[.slice A l.length c] w fun e w' => ∃ v, e = .returned v ∧ w'.ownsRow w.heap.size 116 6 v l.length (cellsL 6 wtF l) ∧ Below w.heap.size w w' := by
 obtain ⟨i0, hi, hz0, hz1, hz2⟩ := info_parts Wt_info
 have hl := World.ownsRow_lit (base := w.heap.size) (e := 116) (size := 6) w #[] 0 (Nat.le_refl _) (Nat.zero_le _) rfl
 have HC := Lib.hid (fun (h1 : 0 < l.length) => (h.past (.cells #[] 116)).news (by decide) h1)
 clear h
 go_enter Tryz.func66, Tryz.ntmps66
 go_wp2_with (at_builtin; refine wpList_append_rows _ rfl _ _ 23 rfl w.heap.size 116 i0 _ 6 48 Tryz.underlying23 hi hz0 hz1 hz2 rfl (by decide) _ 0 _ rfl hl A l.length c (cellsL 6 wtF l) rfl (cellsL_len l) HC.out h0 (oneWt l) (by unfold maxLen; omega) (by omega) (by simp) ?_; intro v' w1 hown1 hg1)
 go_ret
 refine ⟨v', rfl, by simpa using hown1, ?_⟩
 exact ((Below.refl _ _).alloc (Nat.le_refl _) _).grown hg1 (by simp) (fun k hk => (hl.lt k hk).1)
set_option maxRecDepth 100000 in
set_option maxHeartbeats 1600000 in
theorem lendWt_any (l : List Wt) (A : Option Addr) (c : Nat) (w : World) (h : RwAt w w.heap.size A 6 wtF l) (h0 : A = none → l.length = 0 ∧ c = 0) (hn : (l.length + 2) * 48 ≤ 140737488355328) :
  Calls Tryz.prog 29 #[.slice A l.length c] w fun e w' => ∃ A' c', e = .returned (.slice A' l.length c') ∧ LentR w' w.heap.size A' c' 6 wtF l Wt.mark ∧ Below w.heap.size w w' := by
 obtain ⟨i0, hi, hz0, hz1, hz2⟩ := info_parts Wt_info
 have HC := Lib.hid (copyWt_any l A c w h h0 (by omega))
 clear h h0
 go_enter Tryz.func29, Tryz.ntmps29
 go_wp2_with fail
 refine HC.out.mono ?_
 rintro e w1 ⟨v, rfl, hown, hb⟩
 have hs := hb.size
 clear HC
 go_wp2_with (at_builtin; refine wpList_append_own _ rfl _ _ 23 rfl w.heap.size 116 i0 _ 6 48 Tryz.underlying23 hi hz0 hz1 hz2 rfl (by decide) _ l.length _ rfl (hown.alloc _) ⟨w1.heap.size, 0, none⟩ 2 2 (cellsL 6 wtF [Wt.mark, Wt.mark]) rfl rfl ?c1 (oneWt _) (by unfold maxLen; omega) (by omega) (by simp; omega) ?_)
 case c1 =>
  intro j u hj
  rw [add_new]
  have hj' : ([.int .i64 77777, .int .i64 0, .int .i64 0, .int .i64 0, .int .i64 0, .int .i64 0, .int .i64 77777, .int .i64 0, .int .i64 0, .int .i64 0, .int .i64 0, .int .i64 0] : List Value)[j]? = some u := hj
  match j, hj' with
  | 0, hj => simp at hj; subst hj; simp
  | 1, hj => simp at hj; subst hj; simp
  | 2, hj => simp at hj; subst hj; simp
  | 3, hj => simp at hj; subst hj; simp
  | 4, hj => simp at hj; subst hj; simp
  | 5, hj => simp at hj; subst hj; simp
  | 6, hj => simp at hj; subst hj; simp
  | 7, hj => simp at hj; subst hj; simp
  | 8, hj => simp at hj; subst hj; simp
  | 9, hj => simp at hj; subst hj; simp
  | 10, hj => simp at hj; subst hj; simp
  | 11, hj => simp at hj; subst hj; simp
 intro v' w2 hown2 hg2 _
 rw [← cellsL_append] at hown2
 obtain ⟨g, cap, hv, hnc, hcm, hbg, hgl⟩ := own_formC hown2 (by omega)
 have hb2 : Below w.heap.size w w2 := ((hb.alloc hs _).grown hg2 (by simp; omega) (fun k hk => (hown.lt k hk).1))
 subst hv
 have hrd := RwAt.of_row (by decide) hown2 hgl
 clear hown2 hg2 hown
 have HB := Lib.hid hb2
 have HR := Lib.hid hrd
 clear hb2 hrd hb
 have hn0 : (0 : Int) ≤ (l.length : Int) := Int.natCast_nonneg _
 have hn1 : (l.length : Int) ≤ (cap : Int) := by omega
 go_wp2_with fail
 go_ret
 exact ⟨_, _, rfl, ⟨g, rfl, hnc, hcm, hbg, hgl, HR.out⟩, HB.out⟩
set_option maxRecDepth 100000 in
set_option maxHeartbeats 3200000 in
theorem keptWt_yes (l : List Wt) (A' : Option Addr) (c' B : Nat) (A : Option Addr) (c : Nat) (w : World) (hl : LentR w B A' c' 6 wtF l Wt.mark) (ha : RwAt w w.heap.size A 6 wtF l) (hn : l.length ≤ 281474976710656) :
  Calls Tryz.prog 53 #[.slice A' l.length c', .slice A l.length c] w fun e w' => e = .returned (.bool true) ∧ Below w.heap.size w w' := by
 obtain ⟨g, rfl, hc, hc', _, hg, hr⟩ := hl
 unfold maxLen at hc'
 have hn0 : (0 : Int) ≤ (l.length : Int) := Int.natCast_nonneg _
 have hn1 : (l.length : Int) + 2 ≤ (c' : Int) := by omega
 have hn2 : (l.length : Int) ≤ 281474976710656 := by omega
 have HS := Lib.hid (sameWeights_yes l (some ⟨g, 0, none⟩) A c' c w hr.front ha (by omega))
 obtain ⟨ad, e, _, hcell⟩ := hr (by simp)
 obtain rfl : (⟨g, 0, none⟩ : Addr) = ad := by injection e
 have q1 := hcell l.length (by simp)
 have q2 := hcell (l.length + 1) (by simp)
 rw [List.getElem_append_right (by omega)] at q1 q2
 simp only [Nat.sub_self, Nat.add_sub_cancel_left, List.getElem_cons_zero, List.getElem_cons_succ, add_new] at q1 q2
 obtain ⟨a0, aj⟩ := q1
 obtain ⟨b0, bj⟩ := q2
 have Ka0 : w.cell? ⟨g, l.length * 6, none⟩ = some (.int .i64 77777) := a0
 have Ka1 : w.cell? ⟨g, l.length * 6 + 1, none⟩ = some (.int .i64 0) := aj 1 (by decide) (by decide)
 have Ka2 : w.cell? ⟨g, l.length * 6 + 2, none⟩ = some (.int .i64 0) := aj 2 (by decide) (by decide)
 have Ka3 : w.cell? ⟨g, l.length * 6 + 3, none⟩ = some (.int .i64 0) := aj 3 (by decide) (by decide)
 have Ka4 : w.cell? ⟨g, l.length * 6 + 4, none⟩ = some (.int .i64 0) := aj 4 (by decide) (by decide)
 have Ka5 : w.cell? ⟨g, l.length * 6 + 5, none⟩ = some (.int .i64 0) := aj 5 (by decide) (by decide)
 have Kb0 : w.cell? ⟨g, (l.length + 1) * 6, none⟩ = some (.int .i64 77777) := b0
 have Kb1 : w.cell? ⟨g, (l.length + 1) * 6 + 1, none⟩ = some (.int .i64 0) := bj 1 (by decide) (by decide)
 have Kb2 : w.cell? ⟨g, (l.length + 1) * 6 + 2, none⟩ = some (.int .i64 0) := bj 2 (by decide) (by decide)
 have Kb3 : w.cell? ⟨g, (l.length + 1) * 6 + 3, none⟩ = some (.int .i64 0) := bj 3 (by decide) (by decide)
 have Kb4 : w.cell? ⟨g, (l.length + 1) * 6 + 4, none⟩ = some (.int .i64 0) := bj 4 (by decide) (by decide)
 have Kb5 : w.cell? ⟨g, (l.length + 1) * 6 + 5, none⟩ = some (.int .i64 0) := bj 5 (by decide) (by decide)
 have KK := Lib.hid (And.intro Ka0 ( And.intro Ka1 ( And.intro Ka2 ( And.intro Ka3 ( And.intro Ka4 ( And.intro Ka5 ( And.intro Kb0 ( And.intro Kb1 ( And.intro Kb2 ( And.intro Kb3 ( And.intro Kb4 (Kb5))))))))))))
 clear hr ha e hcell a0 aj b0 bj Ka0 Ka1 Ka2 Ka3 Ka4 Ka5 Kb0 Kb1 Kb2 Kb3 Kb4 Kb5
 go_enter Tryz.func53, Tryz.ntmps53
 go_wp2_with fail
 refine HS.out.mono ?_
 rintro e w1 ⟨rfl, hb⟩
 obtain ⟨Ka0, Ka1, Ka2, Ka3, Ka4, Ka5, Kb0, Kb1, Kb2, Kb3, Kb4, Kb5⟩ := KK.out
 have ka0 : w1.cell? ⟨g, l.length * 6, none⟩ = some (.int .i64 77777) := (hb.cell (p := ⟨g, _, none⟩) hg).trans Ka0
 have ka1 : w1.cell? ⟨g, l.length * 6 + 1, none⟩ = some (.int .i64 0) := (hb.cell (p := ⟨g, _, none⟩) hg).trans Ka1
 have ka2 : w1.cell? ⟨g, l.length * 6 + 2, none⟩ = some (.int .i64 0) := (hb.cell (p := ⟨g, _, none⟩) hg).trans Ka2
 have ka3 : w1.cell? ⟨g, l.length * 6 + 3, none⟩ = some (.int .i64 0) := (hb.cell (p := ⟨g, _, none⟩) hg).trans Ka3
 have ka4 : w1.cell? ⟨g, l.length * 6 + 4, none⟩ = some (.int .i64 0) := (hb.cell (p := ⟨g, _, none⟩) hg).trans Ka4
 have ka5 : w1.cell? ⟨g, l.length * 6 + 5, none⟩ = some (.int .i64 0) := (hb.cell (p := ⟨g, _, none⟩) hg).trans Ka5
 have kb0 : w1.cell? ⟨g, (l.length + 1) * 6, none⟩ = some (.int .i64 77777) := (hb.cell (p := ⟨g, _, none⟩) hg).trans Kb0
 have kb1 : w1.cell? ⟨g, (l.length + 1) * 6 + 1, none⟩ = some (.int .i64 0) := (hb.cell (p := ⟨g, _, none⟩) hg).trans Kb1
 have kb2 : w1.cell? ⟨g, (l.length + 1) * 6 + 2, none⟩ = some (.int .i64 0) := (hb.cell (p := ⟨g, _, none⟩) hg).trans Kb2
 have kb3 : w1.cell? ⟨g, (l.length + 1) * 6 + 3, none⟩ = some (.int .i64 0) := (hb.cell (p := ⟨g, _, none⟩) hg).trans Kb3
 have kb4 : w1.cell? ⟨g, (l.length + 1) * 6 + 4, none⟩ = some (.int .i64 0) := (hb.cell (p := ⟨g, _, none⟩) hg).trans Kb4
 have kb5 : w1.cell? ⟨g, (l.length + 1) * 6 + 5, none⟩ = some (.int .i64 0) := (hb.cell (p := ⟨g, _, none⟩) hg).trans Kb5
 clear Ka0 Ka1 Ka2 Ka3 Ka4 Ka5 Kb0 Kb1 Kb2 Kb3 Kb4 Kb5
 have HB := Lib.hid hb
 clear hb KK
 go_wp2_with fail
 go_ret
 exact ⟨rfl, HB.out⟩
theorem oneMo (l : List Mo) : ∀ u ∈ cellsL 3 moF l, u.oneCell' = true := fun u hu => by
 unfold cellsL at hu
 obtain ⟨x, _, hx⟩ := List.mem_flatMap.1 hu
 obtain ⟨j, _, rfl⟩ := List.mem_map.1 hx
 unfold moF
 split <;> rfl
set_option maxRecDepth 100000 in
set_option maxHeartbeats 1600000 in
theorem copyMo_any (l : List Mo) (A : Option Addr) (c : Nat) (w : World) (h : RwAt w w.heap.size A 3 moF l) (h0 : A = none → l.length = 0 ∧ c = 0) (hn : l.length * 24 ≤ 140737488355328) :
  Calls Tryz.prog 67 #[.slice A l.length c] w fun e w' => ∃ v, e = .returned v ∧ w'.ownsRow w.heap.size 118 3 v l.length (cellsL 3 moF l) ∧ Below w.heap.size w w' := by
 obtain ⟨i0, hi, hz0, hz1, hz2⟩ := info_parts Mo_info
 have hl := World.ownsRow_lit (base := w.heap.size) (e := 118) (size := 3) w #[] 0 (Nat.le_refl _) (Nat.zero_le _) rfl
 have HC := Lib.hid (fun (h1 : 0 < l.length) => (h.past (.cells #[] 118)).news (by decide) h1)
 clear h
 go_enter Tryz.func67, Tryz.ntmps67
 go_wp2_with (at_builtin; refine wpList_append_rows _ rfl _ _ 24 rfl w.heap.size 118 i0 _ 3 24 Tryz.underlying24 hi hz0 hz1 hz2 rfl (by decide) _ 0 _ rfl hl A l.length c (cellsL 3 moF l) rfl (cellsL_len l) HC.out h0 (oneMo l) (by unfold maxLen; omega) (by omega) (by simp) ?_; intro v' w1 hown1 hg1)
 go_ret
 refine ⟨v', rfl, by simpa using hown1, ?_⟩
 exact ((Below.refl _ _).alloc (Nat.le_refl _) _).grown hg1 (by simp) (fun k hk => (hl.lt k hk).1)
set_option maxRecDepth 100000 in
set_option maxHeartbeats 1600000 in
theorem lendMo_any (l : List Mo) (A : Option Addr) (c : Nat) (w : World) (h : RwAt w w.heap.size A 3 moF l) (h0 : A = none → l.length = 0 ∧ c = 0) (hn : (l.length + 2) * 24 ≤ 140737488355328) :
  Calls Tryz.prog 30 #[.slice A l.length c] w fun e w' => ∃ A' c', e = .returned (.slice A' l.length c') ∧ LentR w' w.heap.size A' c' 3 moF l Mo.mark ∧ Below w.heap.size w w' := by
 obtain ⟨i0, hi, hz0, hz1, hz2⟩ := info_parts Mo_info
 have HC := Lib.hid (copyMo_any l A c w h h0 (by omega))
 clear h h0
 go_enter Tryz.func30, Tryz.ntmps30
 go_wp2_with fail
 refine HC.out.mono ?_
 rintro e w1 ⟨v, rfl, hown, hb⟩
 have hs := hb.size
 clear HC
 go_wp2_with (at_builtin; refine wpList_append_own _ rfl _ _ 24 rfl w.heap.size 118 i0 _ 3 24 Tryz.underlying24 hi hz0 hz1 hz2 rfl (by decide) _ l.length _ rfl (hown.alloc _) ⟨w1.heap.size, 0, none⟩ 2 2 (cellsL 3 moF [Mo.mark, Mo.mark]) rfl rfl ?c1 (oneMo _) (by unfold maxLen; omega) (by omega) (by simp; omega) ?_)
 case c1 =>
  intro j u hj
  rw [add_new]
  have hj' : ([.int .i64 77777, .int .i64 0, .int .i64 0, .int .i64 77777, .int .i64 0, .int .i64 0] : List Value)[j]? = some u := hj
  match j, hj' with
  | 0, hj => simp at hj; subst hj; simp
  | 1, hj => simp at hj; subst hj; simp
  | 2, hj => simp at hj; subst hj; simp
  | 3, hj => simp at hj; subst hj; simp
  | 4, hj => simp at hj; subst hj; simp
  | 5, hj => simp at hj; subst hj; simp
 intro v' w2 hown2 hg2 _
 rw [← cellsL_append] at hown2
 obtain ⟨g, cap, hv, hnc, hcm, hbg, hgl⟩ := own_formC hown2 (by omega)
 have hb2 : Below w.heap.size w w2 := ((hb.alloc hs _).grown hg2 (by simp; omega) (fun k hk => (hown.lt k hk).1))
 subst hv
 have hrd := RwAt.of_row (by decide) hown2 hgl
 clear hown2 hg2 hown
 have HB := Lib.hid hb2
 have HR := Lib.hid hrd
 clear hb2 hrd hb
 have hn0 : (0 : Int) ≤ (l.length : Int) := Int.natCast_nonneg _
 have hn1 : (l.length : Int) ≤ (cap : Int) := by omega
 go_wp2_with fail
 go_ret
 exact ⟨_, _, rfl, ⟨g, rfl, hnc, hcm, hbg, hgl, HR.out⟩, HB.out⟩
set_option maxRecDepth 100000 in
set_option maxHeartbeats 3200000 in
theorem keptMo_yes (l : List Mo) (A' : Option Addr) (c' B : Nat) (A : Option Addr) (c : Nat) (w : World) (hl : LentR w B A' c' 3 moF l Mo.mark) (ha : RwAt w w.heap.size A 3 moF l) (hn : l.length ≤ 281474976710656) :
  Calls Tryz.prog 54 #[.slice A' l.length c', .slice A l.length c] w fun e w' => e = .returned (.bool true) ∧ Below w.heap.size w w' := by
 obtain ⟨g, rfl, hc, hc', _, hg, hr⟩ := hl
 unfold maxLen at hc'
 have hn0 : (0 : Int) ≤ (l.length : Int) := Int.natCast_nonneg _
 have hn1 : (l.length : Int) + 2 ≤ (c' : Int) := by omega
 have hn2 : (l.length : Int) ≤ 281474976710656 := by omega
 have HS := Lib.hid (sameOps_yes l (some ⟨g, 0, none⟩) A c' c w hr.front ha (by omega))
 obtain ⟨ad, e, _, hcell⟩ := hr (by simp)
 obtain rfl : (⟨g, 0, none⟩ : Addr) = ad := by injection e
 have q1 := hcell l.length (by simp)
 have q2 := hcell (l.length + 1) (by simp)
 rw [List.getElem_append_right (by omega)] at q1 q2
 simp only [Nat.sub_self, Nat.add_sub_cancel_left, List.getElem_cons_zero, List.getElem_cons_succ, add_new] at q1 q2
 obtain ⟨a0, aj⟩ := q1
 obtain ⟨b0, bj⟩ := q2
 have Ka0 : w.cell? ⟨g, l.length * 3, none⟩ = some (.int .i64 77777) := a0
 have Ka1 : w.cell? ⟨g, l.length * 3 + 1, none⟩ = some (.int .i64 0) := aj 1 (by decide) (by decide)
 have Ka2 : w.cell? ⟨g, l.length * 3 + 2, none⟩ = some (.int .i64 0) := aj 2 (by decide) (by decide)
 have Kb0 : w.cell? ⟨g, (l.length + 1) * 3, none⟩ = some (.int .i64 77777) := b0
 have Kb1 : w.cell? ⟨g, (l.length + 1) * 3 + 1, none⟩ = some (.int .i64 0) := bj 1 (by decide) (by decide)
 have Kb2 : w.cell? ⟨g, (l.length + 1) * 3 + 2, none⟩ = some (.int .i64 0) := bj 2 (by decide) (by decide)
 have KK := Lib.hid (And.intro Ka0 ( And.intro Ka1 ( And.intro Ka2 ( And.intro Kb0 ( And.intro Kb1 (Kb2))))))
 clear hr ha e hcell a0 aj b0 bj Ka0 Ka1 Ka2 Kb0 Kb1 Kb2
 go_enter Tryz.func54, Tryz.ntmps54
 go_wp2_with fail
 refine HS.out.mono ?_
 rintro e w1 ⟨rfl, hb⟩
 obtain ⟨Ka0, Ka1, Ka2, Kb0, Kb1, Kb2⟩ := KK.out
 have ka0 : w1.cell? ⟨g, l.length * 3, none⟩ = some (.int .i64 77777) := (hb.cell (p := ⟨g, _, none⟩) hg).trans Ka0
 have ka1 : w1.cell? ⟨g, l.length * 3 + 1, none⟩ = some (.int .i64 0) := (hb.cell (p := ⟨g, _, none⟩) hg).trans Ka1
 have ka2 : w1.cell? ⟨g, l.length * 3 + 2, none⟩ = some (.int .i64 0) := (hb.cell (p := ⟨g, _, none⟩) hg).trans Ka2
 have kb0 : w1.cell? ⟨g, (l.length + 1) * 3, none⟩ = some (.int .i64 77777) := (hb.cell (p := ⟨g, _, none⟩) hg).trans Kb0
 have kb1 : w1.cell? ⟨g, (l.length + 1) * 3 + 1, none⟩ = some (.int .i64 0) := (hb.cell (p := ⟨g, _, none⟩) hg).trans Kb1
 have kb2 : w1.cell? ⟨g, (l.length + 1) * 3 + 2, none⟩ = some (.int .i64 0) := (hb.cell (p := ⟨g, _, none⟩) hg).trans Kb2
 clear Ka0 Ka1 Ka2 Kb0 Kb1 Kb2
 have HB := Lib.hid hb
 clear hb KK
 go_wp2_with fail
 go_ret
 exact ⟨rfl, HB.out⟩
/-- a header that was lent -/
structure LentH (w : World) (B : Nat) (h : Hd) (q : Ha) : Prop where
 m0 : LentR w B q.m0 q.cm0 2 mdF h.m0 Md.mark
 m1 : LentR w B q.m1 q.cm1 2 mdF h.m1 Md.mark
 w0 : LentR w B q.w0 q.cw0 6 wtF h.w0 Wt.mark
 w1 : LentR w B q.w1 q.cw1 6 wtF h.w1 Wt.mark
 ops : LentR w B q.ops q.cops 3 moF h.ops Mo.mark
theorem LentH.go {w w' : World} {B : Nat} {h : Hd} {q : Ha} (H : LentH w B h q) (hb : Below w.heap.size w w') : LentH w' B h q := ⟨H.m0.go hb, H.m1.go hb, H.w0.go hb, H.w1.go hb, H.ops.go hb⟩
theorem LentR.rw {α : Type} {w : World} {B c C : Nat} {A : Option Addr} {f : α → Nat → Value} {l : List α} {m : α} (h : LentR w B A c C f l m) : RwAt w w.heap.size A C f l := by
 obtain ⟨g, e, h1, h2, h3, h4, h5⟩ := h
 exact h5.front
theorem LentH.hd {w : World} {B : Nat} {h : Hd} {q : Ha} (H : LentH w B h q) : HdAt w w.heap.size h q := ⟨H.m0.rw, H.m1.rw, H.w0.rw, H.w1.rw, H.ops.rw⟩
theorem LentH.lt {w : World} {B : Nat} {h : Hd} {q : Ha} (H : LentH w B h q) : ∀ A, A = q.m0 ∨ A = q.m1 ∨ A = q.w0 ∨ A = q.w1 ∨ A = q.ops → ∀ ad, A = some ad → ad.block < w.heap.size := by
 have key : ∀ {α : Type} {c C : Nat} {A : Option Addr} {f : α → Nat → Value} {l : List α} {m : α}, LentR w B A c C f l m → ∀ ad, A = some ad → ad.block < w.heap.size := fun h ad e => by
  obtain ⟨g, e', _, _, _, h4, _⟩ := h
  rw [e'] at e
  injection e with e
  rw [← e]
  exact h4
 rintro A (rfl | rfl | rfl | rfl | rfl) ad e
 ·exact key H.m0 ad e
 ·exact key H.m1 ad e
 ·exact key H.w0 ad e
 ·exact key H.w1 ad e
 ·exact key H.ops ad e
/-- rows that may be lent: none leads nowhere, and there is room -/
structure HdGive (h : Hd) (q : Ha) : Prop where
 m0 : (q.m0 = none → h.m0.length = 0 ∧ q.cm0 = 0) ∧ (h.m0.length + 2) * 16 ≤ 140737488355328
 m1 : (q.m1 = none → h.m1.length = 0 ∧ q.cm1 = 0) ∧ (h.m1.length + 2) * 16 ≤ 140737488355328
 w0 : (q.w0 = none → h.w0.length = 0 ∧ q.cw0 = 0) ∧ (h.w0.length + 2) * 48 ≤ 140737488355328
 w1 : (q.w1 = none → h.w1.length = 0 ∧ q.cw1 = 0) ∧ (h.w1.length + 2) * 48 ≤ 140737488355328
 ops : (q.ops = none → h.ops.length = 0 ∧ q.cops = 0) ∧ (h.ops.length + 2) * 24 ≤ 140737488355328
end Go.Proofs.YtjokibagciehlaaGreat

namespace Go.Proofs.YtjokibagciehlaaGreat
open Go.RowKit
set_option linter.unusedVariables false
set_option linter.unusedSimpArgs false

theorem LentR.less {α : Type} {w : World} {B B' c C : Nat} {A : Option Addr} {f : α → Nat → Value} {l : List α} {m : α} (h : LentR w B A c C f l m) (hB : B' ≤ B) : LentR w B' A c C f l m := by
 obtain ⟨g, e, h1, h2, h3, h4, h5⟩ := h
 exact ⟨g, e, h1, h2, Nat.le_trans hB h3, h4, h5⟩
theorem LentR.far {α : Type} {w : World} {B c C : Nat} {A : Option Addr} {f : α → Nat → Value} {l : List α} {m : α} (h : LentR w B A c C f l m) {p : Addr} (hp : p.block < B) (u : Value) : LentR (w.setCell p u) B A c C f l m := by
 obtain ⟨g, e, h1, h2, h3, h4, h5⟩ := h
 refine ⟨g, e, h1, h2, h3, by simpa [World.setCell] using h4, fun hn => ?_⟩
 obtain ⟨ad, e', hb, hc⟩ := h5 hn
 obtain rfl : (⟨g, 0, none⟩ : Addr) = ad := by rw [e] at e'; injection e'
 refine ⟨⟨g, 0, none⟩, e', by simpa [World.setCell] using hb, fun k hk => ?_⟩
 have hne : g ≠ p.block := by omega
 have key : ∀ i, (w.setCell p u).cell? ⟨g, i, none⟩ = w.cell? ⟨g, i, none⟩ := fun i => World.cell?_of_block (Below.heap_setCell w p u g hne)
 obtain ⟨c0, cj⟩ := hc k hk
 rw [add_new] at c0 cj ⊢
 exact ⟨(key _).trans c0, fun j h0 hj => (key _).trans (cj j h0 hj)⟩
theorem lendhd_results (a : Act) (w : World) (B : Nat) (cs : Array Value) (h2 : a.tmps.getD 2 undef = .pointer (some ⟨B, 0, none⟩)) (hg : Bk w B 26 cs) (hs : cs.size = 21) :
  (results Tryz.f5 a.tmps).run Tryz.prog w = .ok (.agg cs) w := by
 have h2' : a.tmps[2]?.getD undef = .pointer (some ⟨B, 0, none⟩) := by simpa using h2
 have hl := run_loadVar_row (P := Tryz.prog) w B 26 26 cs (0, 0) _ hg Tryz.underlying26 rfl (by rw [hs]; kernel_rfl)
 simp [results, Tryz.results5, h2', asAddr, hl, Sem.run_bind]
set_option maxRecDepth 100000 in
set_option maxHeartbeats 6400000 in
theorem lendhd_any (h : Hd) (q : Ha) (w : World) (H : HdAt w w.heap.size h q) (G : HdGive h q) :
  Calls Tryz.prog 5 #[.agg (hdV h q)] w fun e w' => ∃ q', e = .returned (.agg (hdV h q')) ∧ LentH w' w.heap.size h q' ∧ Below w.heap.size w w' := by
 have hb1 : Below w.heap.size w (w.alloc (.cells (hdV h q) 26)) := (Below.refl _ _).alloc (Nat.le_refl _) _
 have hb2 : Below w.heap.size w ((w.alloc (.cells (hdV h q) 26)).alloc (.cells (hdV Hd.zero Ha.zero) 26)) := hb1.alloc hb1.size _
 have k1 := (Bk.new w 26 (hdV h q)).alloc (.cells (hdV Hd.zero Ha.zero) 26)
 have k2 := Bk.new (w.alloc (.cells (hdV h q) 26)) 26 (hdV Hd.zero Ha.zero)
 rw [World.size_alloc] at k2
 obtain ⟨w0, hw0⟩ : ∃ w0, w0 = (w.alloc (.cells (hdV h q) 26)).alloc (.cells (hdV Hd.zero Ha.zero) 26) := ⟨_, rfl⟩
 have hsz : w.heap.size + 2 ≤ w0.heap.size := by rw [hw0]; simp
 rw [← hw0] at hb2 k1 k2
 have HD := Lib.hid H
 have HGv := Lib.hid G
 have HB := Lib.hid hb2
 have K1 := Lib.hid k1
 have K2 := Lib.hid k2
 have HS := Lib.hid hsz
 obtain ⟨n, hn⟩ : ∃ n, n = w.heap.size := ⟨_, rfl⟩
 clear hb1 hb2 k1 k2 hsz H G hn
 simp only [hdV, Hd.zero, Ha.zero, List.length_nil] at hw0 ⊢
 go_enter Tryz.func5, Tryz.ntmps5
 go_upto_region 1 with fail
 rw [← hw0]
 clear hw0
 have c9 := K1.out.cell 9
 have f9 := K1.out.frozen 9
 simp [hdV] at c9
 go_wp2_with fail
 refine (lendMd_any h.m0 q.m0 q.cm0 _ ((HD.out.m0.below HB.out (Nat.le_refl _)).more HB.out.size) HGv.out.m0.1 HGv.out.m0.2).mono ?_
 rintro e u0 ⟨A0, z0, rfl, hL, hb⟩
 have hL2 := hL.less HS.out
 replace HB := Lib.hid (HB.out.trans (hb.mono HB.out.size))
 replace K1 := Lib.hid (K1.out.go hb)
 replace K2 := Lib.hid (K2.out.go hb)
 have hs2 : w.heap.size + 2 ≤ u0.heap.size := Nat.le_trans HS.out hb.size
 clear hL hb c9 f9 HS
 have c9 := K1.out.cell 9
 have f9 := K1.out.frozen 9
 simp [hdV] at c9
 have HS2 := Lib.hid hs2
 clear hs2
 go_upto_region 2 with fail
 clear c9 f9
 obtain ⟨v0, hv⟩ : ∃ v, u0.setCell ⟨w.heap.size, 9, none⟩ (.slice A0 h.m0.length z0) = v := ⟨_, rfl⟩
 have L0 := Lib.hid (hv ▸ hL2.far (p := ⟨w.heap.size, 9, none⟩) (by show w.heap.size < _; omega) (.slice A0 h.m0.length z0))
 clear hL2
 have k1 : Bk v0 w.heap.size 26 (hdV h { q with m0 := A0, cm0 := z0 }) := hv ▸ K1.out.set_ 9 (.slice A0 h.m0.length z0)
 replace K1 := Lib.hid k1
 replace K2 := Lib.hid (hv ▸ K2.out.far (p := ⟨w.heap.size, 9, none⟩) (by show w.heap.size + 1 ≠ w.heap.size; omega) (.slice A0 h.m0.length z0))
 replace HB := Lib.hid (hv ▸ HB.out.setCell (p := ⟨w.heap.size, 9, none⟩) (Nat.le_refl _) (.slice A0 h.m0.length z0))
 have HS := Lib.hid (show w.heap.size + 2 ≤ v0.heap.size from hv ▸ (by simpa [World.setCell] using HS2.out))
 rw [hv]
 clear hv k1 HS2
 have c10 := K1.out.cell 10
 have f10 := K1.out.frozen 10
 simp [hdV] at c10
 go_wp2_with fail
 refine (lendMd_any h.m1 q.m1 q.cm1 _ ((HD.out.m1.below HB.out (Nat.le_refl _)).more HB.out.size) HGv.out.m1.1 HGv.out.m1.2).mono ?_
 rintro e u1 ⟨A1, z1, rfl, hL, hb⟩
 have hL2 := hL.less HS.out
 replace HB := Lib.hid (HB.out.trans (hb.mono HB.out.size))
 replace K1 := Lib.hid (K1.out.go hb)
 replace K2 := Lib.hid (K2.out.go hb)
 replace L0 := Lib.hid (L0.out.go hb)
 have hs2 : w.heap.size + 2 ≤ u1.heap.size := Nat.le_trans HS.out hb.size
 clear hL hb c10 f10 HS
 have c10 := K1.out.cell 10
 have f10 := K1.out.frozen 10
 simp [hdV] at c10
 have HS2 := Lib.hid hs2
 clear hs2
 go_upto_region 3 with fail
 clear c10 f10
 obtain ⟨v1, hv⟩ : ∃ v, u1.setCell ⟨w.heap.size, 10, none⟩ (.slice A1 h.m1.length z1) = v := ⟨_, rfl⟩
 have L1 := Lib.hid (hv ▸ hL2.far (p := ⟨w.heap.size, 10, none⟩) (by show w.heap.size < _; omega) (.slice A1 h.m1.length z1))
 clear hL2
 replace L0 := Lib.hid (hv ▸ L0.out.far (p := ⟨w.heap.size, 10, none⟩) (by show w.heap.size < _; omega) (.slice A1 h.m1.length z1))
 have k1 : Bk v1 w.heap.size 26 (hdV h { { q with m0 := A0, cm0 := z0 } with m1 := A1, cm1 := z1 }) := hv ▸ K1.out.set_ 10 (.slice A1 h.m1.length z1)
 replace K1 := Lib.hid k1
 replace K2 := Lib.hid (hv ▸ K2.out.far (p := ⟨w.heap.size, 10, none⟩) (by show w.heap.size + 1 ≠ w.heap.size; omega) (.slice A1 h.m1.length z1))
 replace HB := Lib.hid (hv ▸ HB.out.setCell (p := ⟨w.heap.size, 10, none⟩) (Nat.le_refl _) (.slice A1 h.m1.length z1))
 have HS := Lib.hid (show w.heap.size + 2 ≤ v1.heap.size from hv ▸ (by simpa [World.setCell] using HS2.out))
 rw [hv]
 clear hv k1 HS2
 have c13 := K1.out.cell 13
 have f13 := K1.out.frozen 13
 simp [hdV] at c13
 go_wp2_with fail
 refine (lendWt_any h.w0 q.w0 q.cw0 _ ((HD.out.w0.below HB.out (Nat.le_refl _)).more HB.out.size) HGv.out.w0.1 HGv.out.w0.2).mono ?_
 rintro e u2 ⟨A2, z2, rfl, hL, hb⟩
 have hL2 := hL.less HS.out
 replace HB := Lib.hid (HB.out.trans (hb.mono HB.out.size))
 replace K1 := Lib.hid (K1.out.go hb)
 replace K2 := Lib.hid (K2.out.go hb)
 replace L0 := Lib.hid (L0.out.go hb)
 replace L1 := Lib.hid (L1.out.go hb)
 have hs2 : w.heap.size + 2 ≤ u2.heap.size := Nat.le_trans HS.out hb.size
 clear hL hb c13 f13 HS
 have c13 := K1.out.cell 13
 have f13 := K1.out.frozen 13
 simp [hdV] at c13
 have HS2 := Lib.hid hs2
 clear hs2
 go_upto_region 4 with fail
 clear c13 f13
 obtain ⟨v2, hv⟩ : ∃ v, u2.setCell ⟨w.heap.size, 13, none⟩ (.slice A2 h.w0.length z2) = v := ⟨_, rfl⟩
 have L2 := Lib.hid (hv ▸ hL2.far (p := ⟨w.heap.size, 13, none⟩) (by show w.heap.size < _; omega) (.slice A2 h.w0.length z2))
 clear hL2
 replace L0 := Lib.hid (hv ▸ L0.out.far (p := ⟨w.heap.size, 13, none⟩) (by show w.heap.size < _; omega) (.slice A2 h.w0.length z2))
 replace L1 := Lib.hid (hv ▸ L1.out.far (p := ⟨w.heap.size, 13, none⟩) (by show w.heap.size < _; omega) (.slice A2 h.w0.length z2))
 have k1 : Bk v2 w.heap.size 26 (hdV h { { { q with m0 := A0, cm0 := z0 } with m1 := A1, cm1 := z1 } with w0 := A2, cw0 := z2 }) := hv ▸ K1.out.set_ 13 (.slice A2 h.w0.length z2)
 replace K1 := Lib.hid k1
 replace K2 := Lib.hid (hv ▸ K2.out.far (p := ⟨w.heap.size, 13, none⟩) (by show w.heap.size + 1 ≠ w.heap.size; omega) (.slice A2 h.w0.length z2))
 replace HB := Lib.hid (hv ▸ HB.out.setCell (p := ⟨w.heap.size, 13, none⟩) (Nat.le_refl _) (.slice A2 h.w0.length z2))
 have HS := Lib.hid (show w.heap.size + 2 ≤ v2.heap.size from hv ▸ (by simpa [World.setCell] using HS2.out))
 rw [hv]
 clear hv k1 HS2
 have c14 := K1.out.cell 14
 have f14 := K1.out.frozen 14
 simp [hdV] at c14
 go_wp2_with fail
 refine (lendWt_any h.w1 q.w1 q.cw1 _ ((HD.out.w1.below HB.out (Nat.le_refl _)).more HB.out.size) HGv.out.w1.1 HGv.out.w1.2).mono ?_
 rintro e u3 ⟨A3, z3, rfl, hL, hb⟩
 have hL2 := hL.less HS.out
 replace HB := Lib.hid (HB.out.trans (hb.mono HB.out.size))
 replace K1 := Lib.hid (K1.out.go hb)
 replace K2 := Lib.hid (K2.out.go hb)
 replace L0 := Lib.hid (L0.out.go hb)
 replace L1 := Lib.hid (L1.out.go hb)
 replace L2 := Lib.hid (L2.out.go hb)
 have hs2 : w.heap.size + 2 ≤ u3.heap.size := Nat.le_trans HS.out hb.size
 clear hL hb c14 f14 HS
 have c14 := K1.out.cell 14
 have f14 := K1.out.frozen 14
 simp [hdV] at c14
 have HS2 := Lib.hid hs2
 clear hs2
 go_upto_region 5 with fail
 clear c14 f14
 obtain ⟨v3, hv⟩ : ∃ v, u3.setCell ⟨w.heap.size, 14, none⟩ (.slice A3 h.w1.length z3) = v := ⟨_, rfl⟩
 have L3 := Lib.hid (hv ▸ hL2.far (p := ⟨w.heap.size, 14, none⟩) (by show w.heap.size < _; omega) (.slice A3 h.w1.length z3))
 clear hL2
 replace L0 := Lib.hid (hv ▸ L0.out.far (p := ⟨w.heap.size, 14, none⟩) (by show w.heap.size < _; omega) (.slice A3 h.w1.length z3))
 replace L1 := Lib.hid (hv ▸ L1.out.far (p := ⟨w.heap.size, 14, none⟩) (by show w.heap.size < _; omega) (.slice A3 h.w1.length z3))
 replace L2 := Lib.hid (hv ▸ L2.out.far (p := ⟨w.heap.size, 14, none⟩) (by show w.heap.size < _; omega) (.slice A3 h.w1.length z3))
 have k1 : Bk v3 w.heap.size 26 (hdV h { { { { q with m0 := A0, cm0 := z0 } with m1 := A1, cm1 := z1 } with w0 := A2, cw0 := z2 } with w1 := A3, cw1 := z3 }) := hv ▸ K1.out.set_ 14 (.slice A3 h.w1.length z3)
 replace K1 := Lib.hid k1
 replace K2 := Lib.hid (hv ▸ K2.out.far (p := ⟨w.heap.size, 14, none⟩) (by show w.heap.size + 1 ≠ w.heap.size; omega) (.slice A3 h.w1.length z3))
 replace HB := Lib.hid (hv ▸ HB.out.setCell (p := ⟨w.heap.size, 14, none⟩) (Nat.le_refl _) (.slice A3 h.w1.length z3))
 have HS := Lib.hid (show w.heap.size + 2 ≤ v3.heap.size from hv ▸ (by simpa [World.setCell] using HS2.out))
 rw [hv]
 clear hv k1 HS2
 have c16 := K1.out.cell 16
 have f16 := K1.out.frozen 16
 simp [hdV] at c16
 go_wp2_with fail
 refine (lendMo_any h.ops q.ops q.cops _ ((HD.out.ops.below HB.out (Nat.le_refl _)).more HB.out.size) HGv.out.ops.1 HGv.out.ops.2).mono ?_
 rintro e u4 ⟨A4, z4, rfl, hL, hb⟩
 have hL2 := hL.less HS.out
 replace HB := Lib.hid (HB.out.trans (hb.mono HB.out.size))
 replace K1 := Lib.hid (K1.out.go hb)
 replace K2 := Lib.hid (K2.out.go hb)
 replace L0 := Lib.hid (L0.out.go hb)
 replace L1 := Lib.hid (L1.out.go hb)
 replace L2 := Lib.hid (L2.out.go hb)
 replace L3 := Lib.hid (L3.out.go hb)
 have hs2 : w.heap.size + 2 ≤ u4.heap.size := Nat.le_trans HS.out hb.size
 clear hL hb c16 f16 HS
 have c16 := K1.out.cell 16
 have f16 := K1.out.frozen 16
 simp [hdV] at c16
 have HS2 := Lib.hid hs2
 clear hs2
 go_upto_region 6 with fail
 clear c16 f16
 obtain ⟨v4, hv⟩ : ∃ v, u4.setCell ⟨w.heap.size, 16, none⟩ (.slice A4 h.ops.length z4) = v := ⟨_, rfl⟩
 have L4 := Lib.hid (hv ▸ hL2.far (p := ⟨w.heap.size, 16, none⟩) (by show w.heap.size < _; omega) (.slice A4 h.ops.length z4))
 clear hL2
 replace L0 := Lib.hid (hv ▸ L0.out.far (p := ⟨w.heap.size, 16, none⟩) (by show w.heap.size < _; omega) (.slice A4 h.ops.length z4))
 replace L1 := Lib.hid (hv ▸ L1.out.far (p := ⟨w.heap.size, 16, none⟩) (by show w.heap.size < _; omega) (.slice A4 h.ops.length z4))
 replace L2 := Lib.hid (hv ▸ L2.out.far (p := ⟨w.heap.size, 16, none⟩) (by show w.heap.size < _; omega) (.slice A4 h.ops.length z4))
 replace L3 := Lib.hid (hv ▸ L3.out.far (p := ⟨w.heap.size, 16, none⟩) (by show w.heap.size < _; omega) (.slice A4 h.ops.length z4))
 have k1 : Bk v4 w.heap.size 26 (hdV h { { { { { q with m0 := A0, cm0 := z0 } with m1 := A1, cm1 := z1 } with w0 := A2, cw0 := z2 } with w1 := A3, cw1 := z3 } with ops := A4, cops := z4 }) := hv ▸ K1.out.set_ 16 (.slice A4 h.ops.length z4)
 replace K1 := Lib.hid k1
 replace K2 := Lib.hid (hv ▸ K2.out.far (p := ⟨w.heap.size, 16, none⟩) (by show w.heap.size + 1 ≠ w.heap.size; omega) (.slice A4 h.ops.length z4))
 replace HB := Lib.hid (hv ▸ HB.out.setCell (p := ⟨w.heap.size, 16, none⟩) (Nat.le_refl _) (.slice A4 h.ops.length z4))
 have HS := Lib.hid (show w.heap.size + 2 ≤ v4.heap.size from hv ▸ (by simpa [World.setCell] using HS2.out))
 rw [hv]
 clear hv k1 HS2
 refine wp_region_lit ?_
 refine wpl_val rfl (run_load_row rfl rfl (load_head K1.out)) ?_
 refine wpList_store_row rfl _ _ _ rfl (w.heap.size + 1) (hdV h { { { { { q with m0 := A0, cm0 := z0 } with m1 := A1, cm1 := z1 } with w0 := A2, cw0 := z2 } with w1 := A3, cw1 := z3 } with ops := A4, cops := z4 }) rfl rfl _ _ K2.out (by kernel_rfl) rfl (hd_one _ _) ?_
 have hT : Touch (fun k => k = w.heap.size + 1) v4 (v4.setRow (w.heap.size + 1) (hdV h { { { { { q with m0 := A0, cm0 := z0 } with m1 := A1, cm1 := z1 } with w0 := A2, cw0 := z2 } with w1 := A3, cw1 := z3 } with ops := A4, cops := z4 })) := touch_setRow (Touch.refl _ _) _ _ (fun _ => rfl)
 have key : ∀ {α : Type} {c C : Nat} {A : Option Addr} {f : α → Nat → Value} {l : List α} {m : α}, LentR v4 (w.heap.size + 2) A c C f l m → LentR (v4.setRow (w.heap.size + 1) (hdV h { { { { { q with m0 := A0, cm0 := z0 } with m1 := A1, cm1 := z1 } with w0 := A2, cw0 := z2 } with w1 := A3, cw1 := z3 } with ops := A4, cops := z4 })) w.heap.size A c C f l m := fun hl => by
  obtain ⟨g, e, h1, h2, h3, h4, h5⟩ := hl
  refine ⟨g, e, h1, h2, by omega, Nat.lt_of_lt_of_le h4 hT.size, fun hn => ?_⟩
  obtain ⟨ad, e', hb, hc⟩ := h5 hn
  obtain rfl : (⟨g, 0, none⟩ : Addr) = ad := by rw [e] at e'; injection e'
  refine ⟨⟨g, 0, none⟩, e', Nat.lt_of_lt_of_le hb hT.size, fun k hk => ?_⟩
  obtain ⟨c0, cj⟩ := hc k hk
  rw [add_new] at c0 cj ⊢
  have hq : ∀ i, (v4.setRow (w.heap.size + 1) (hdV h { { { { { q with m0 := A0, cm0 := z0 } with m1 := A1, cm1 := z1 } with w0 := A2, cw0 := z2 } with w1 := A3, cw1 := z3 } with ops := A4, cops := z4 })).cell? ⟨g, i, none⟩ = v4.cell? ⟨g, i, none⟩ := fun i => hT.cell h4 (by show ¬ g = _; omega)
  exact ⟨(hq _).trans c0, fun j h0 hj => (hq _).trans (cj j h0 hj)⟩
 have HR := Lib.hid (LentH.mk (h := h) (q := { { { { { q with m0 := A0, cm0 := z0 } with m1 := A1, cm1 := z1 } with w0 := A2, cw0 := z2 } with w1 := A3, cw1 := z3 } with ops := A4, cops := z4 }) (key L0.out) (key L1.out) (key L2.out) (key L3.out) (key L4.out))
 have HK := Lib.hid (bk_setRow (cs := hdV h { { { { { q with m0 := A0, cm0 := z0 } with m1 := A1, cm1 := z1 } with w0 := A2, cw0 := z2 } with w1 := A3, cw1 := z3 } with ops := A4, cops := z4 }) K2.out)
 have HBB := Lib.hid (Below.touch HB.out hT (fun i hi e => by omega) (Nat.le_refl _))
 clear key hT
 go_wp2_with fail
 exact bodyPost_ret (lendhd_results _ _ (w.heap.size + 1) _ rfl HK.out rfl) rfl ⟨_, rfl, HR.out, HBB.out⟩
set_option maxRecDepth 100000 in
set_option maxHeartbeats 6400000 in
theorem kepthd_yes (h : Hd) (q' q : Ha) (B : Nat) (w : World) (H' : LentH w B h q') (H : HdAt w w.heap.size h q) (L : HdLen h) :
  Calls Tryz.prog 17 #[.agg (hdV h q'), .agg (hdV h q)] w fun e w' => e = .returned (.bool true) ∧ Below w.heap.size w w' := by
 have hb1 : Below w.heap.size w (w.alloc (.cells (hdV h q') 26)) := (Below.refl _ _).alloc (Nat.le_refl _) _
 have hb2 : Below w.heap.size w ((w.alloc (.cells (hdV h q') 26)).alloc (.cells (hdV h q) 26)) := hb1.alloc hb1.size _
 have k1 := (Bk.new w 26 (hdV h q')).alloc (.cells (hdV h q) 26)
 have k2 := Bk.new (w.alloc (.cells (hdV h q') 26)) 26 (hdV h q)
 rw [World.size_alloc] at k2
 obtain ⟨w0, hw0⟩ : ∃ w0, w0 = (w.alloc (.cells (hdV h q') 26)).alloc (.cells (hdV h q) 26) := ⟨_, rfl⟩
 rw [← hw0] at hb2 k1 k2
 have HL := Lib.hid (H'.go hb2)
 have HD := Lib.hid (H.go hb2)
 have HLn := Lib.hid L
 have HB := Lib.hid hb2
 have K1 := Lib.hid k1
 have K2 := Lib.hid k2
 clear hb1 hb2 k1 k2 H H' L
 simp only [hdV] at hw0 ⊢
 go_enter Tryz.func17, Tryz.ntmps17
 go_upto_region 1 with fail
 rw [← hw0]
 clear hw0
 have c := K1.out.cell 9
 have d := K2.out.cell 9
 have hl1 := K1.out.lt
 have hl2 := K2.out.lt
 simp [hdV] at c d
 go_wp2_with fail
 refine (keptMd_yes h.m0 q'.m0 q'.cm0 B q.m0 q.cm0 _ HL.out.m0 HD.out.m0 HLn.out.m0).mono ?_
 rintro e u0 ⟨rfl, hb⟩
 replace HB := Lib.hid (HB.out.trans (hb.mono HB.out.size))
 replace K1 := Lib.hid (K1.out.go hb)
 replace K2 := Lib.hid (K2.out.go hb)
 replace HL := Lib.hid (HL.out.go hb)
 replace HD := Lib.hid (HD.out.go hb)
 clear hb c d hl1 hl2
 have c := K1.out.cell 10
 have d := K2.out.cell 10
 have hl1 := K1.out.lt
 have hl2 := K2.out.lt
 simp [hdV] at c d
 go_wp2_with fail
 refine (keptMd_yes h.m1 q'.m1 q'.cm1 B q.m1 q.cm1 _ HL.out.m1 HD.out.m1 HLn.out.m1).mono ?_
 rintro e u1 ⟨rfl, hb⟩
 replace HB := Lib.hid (HB.out.trans (hb.mono HB.out.size))
 replace K1 := Lib.hid (K1.out.go hb)
 replace K2 := Lib.hid (K2.out.go hb)
 replace HL := Lib.hid (HL.out.go hb)
 replace HD := Lib.hid (HD.out.go hb)
 clear hb c d hl1 hl2
 have c := K1.out.cell 13
 have d := K2.out.cell 13
 have hl1 := K1.out.lt
 have hl2 := K2.out.lt
 simp [hdV] at c d
 go_wp2_with fail
 refine (keptWt_yes h.w0 q'.w0 q'.cw0 B q.w0 q.cw0 _ HL.out.w0 HD.out.w0 HLn.out.w0).mono ?_
 rintro e u2 ⟨rfl, hb⟩
 replace HB := Lib.hid (HB.out.trans (hb.mono HB.out.size))
 replace K1 := Lib.hid (K1.out.go hb)
 replace K2 := Lib.hid (K2.out.go hb)
 replace HL := Lib.hid (HL.out.go hb)
 replace HD := Lib.hid (HD.out.go hb)
 clear hb c d hl1 hl2
 have c := K1.out.cell 14
 have d := K2.out.cell 14
 have hl1 := K1.out.lt
 have hl2 := K2.out.lt
 simp [hdV] at c d
 go_wp2_with fail
 refine (keptWt_yes h.w1 q'.w1 q'.cw1 B q.w1 q.cw1 _ HL.out.w1 HD.out.w1 HLn.out.w1).mono ?_
 rintro e u3 ⟨rfl, hb⟩
 replace HB := Lib.hid (HB.out.trans (hb.mono HB.out.size))
 replace K1 := Lib.hid (K1.out.go hb)
 replace K2 := Lib.hid (K2.out.go hb)
 replace HL := Lib.hid (HL.out.go hb)
 replace HD := Lib.hid (HD.out.go hb)
 clear hb c d hl1 hl2
 have c := K1.out.cell 16
 have d := K2.out.cell 16
 have hl1 := K1.out.lt
 have hl2 := K2.out.lt
 simp [hdV] at c d
 go_wp2_with fail
 refine (keptMo_yes h.ops q'.ops q'.cops B q.ops q.cops _ HL.out.ops HD.out.ops HLn.out.ops).mono ?_
 rintro e u4 ⟨rfl, hb⟩
 replace HB := Lib.hid (HB.out.trans (hb.mono HB.out.size))
 replace K1 := Lib.hid (K1.out.go hb)
 replace K2 := Lib.hid (K2.out.go hb)
 replace HL := Lib.hid (HL.out.go hb)
 replace HD := Lib.hid (HD.out.go hb)
 clear hb c d hl1 hl2
 go_wp2_with fail
 go_ret
 exact ⟨rfl, HB.out⟩
end Go.Proofs.YtjokibagciehlaaGreat

namespace Go.Proofs.YtjokibagciehlaaGreat
open Go.RowKit
set_option linter.unusedVariables false
set_option linter.unusedSimpArgs false

set_option maxRecDepth 100000 in
set_option maxHeartbeats 25600000 in
theorem may2_A (h : Hd) (q : Ha) (s : Sp) (A : Option Addr) (c : Nat) (p : Pp) (ref : Int) (key : Bool) (w : World) (H : HdAt w w.heap.size h q) (L : HdLen h) (hs : SpAt w w.heap.size s A) (hn : s.cy.length ≤ 1152921504606846976) (hm2a : m2a h s p ref = false) :
  Calls Tryz.prog 12 #[.agg (hdV h q), .agg (spV s A c), .agg (ppV p), .int .i64 ref, .bool key] w fun e w' => e = .returned (.bool (may2 h s p ref key)) ∧ Below w.heap.size w w' := by
 have HM := Lib.hid (MayAt.start (c := c) (p := p) H hs)
 obtain ⟨b0, hb0⟩ : ∃ b, maySp s = b := ⟨_, rfl⟩
 obtain ⟨b1, hb1⟩ : ∃ b, mayPp p = b := ⟨_, rfl⟩
 obtain ⟨b2, hb2⟩ : ∃ b, inR 0 3 ref = b := ⟨_, rfl⟩
 obtain ⟨b3, hb3⟩ : ∃ b, inR 0 (s.wide * s.high - 1) h.first = b := ⟨_, rfl⟩
 obtain ⟨b4, hb4⟩ : ∃ b, inR 1 (s.wide * s.high - h.first) h.count = b := ⟨_, rfl⟩
 obtain ⟨b5, hb5⟩ : ∃ b, inR 0 2 h.type = b := ⟨_, rfl⟩
 obtain ⟨b6, hb6⟩ : ∃ b, inR 0 (2 ^ s.fb.toNat - 1) h.fn = b := ⟨_, rfl⟩
 obtain ⟨b7, hb7⟩ : ∃ b, inR 0 255 h.id = b := ⟨_, rfl⟩
 obtain ⟨b8, hb8⟩ : ∃ b, inR 0 (2 ^ s.pb.toNat - 1) h.poc = b := ⟨_, rfl⟩
 obtain ⟨z1, hz1⟩ : ∃ b, (h.fn == 0) = b := ⟨_, rfl⟩
 obtain ⟨z2, hz2⟩ : ∃ b, (h.id == 0) = b := ⟨_, rfl⟩
 obtain ⟨z3, hz3⟩ : ∃ b, (s.pt == 0) = b := ⟨_, rfl⟩
 obtain ⟨z4, hz4⟩ : ∃ b, (h.poc == 0) = b := ⟨_, rfl⟩
 obtain ⟨t2, ht2⟩ : ∃ b, (h.type == 2) = b := ⟨_, rfl⟩
 obtain ⟨t1, ht1⟩ : ∃ b, (h.type == 1) = b := ⟨_, rfl⟩
 obtain ⟨n2, hn2⟩ : ∃ b, (h.type != 2) = b := ⟨_, rfl⟩
 obtain ⟨b13, hb13⟩ : ∃ b, inR 0 7 h.log = b := ⟨_, rfl⟩
 obtain ⟨b14, hb14⟩ : ∃ b, inR 0 7 h.logC = b := ⟨_, rfl⟩
 obtain ⟨z5, hz5⟩ : ∃ b, (h.log == 0) = b := ⟨_, rfl⟩
 obtain ⟨z6, hz6⟩ : ∃ b, (h.logC == 0) = b := ⟨_, rfl⟩
 obtain ⟨z7, hz7⟩ : ∃ b, ((h.w0.length : Int) == 0) = b := ⟨_, rfl⟩
 obtain ⟨z8, hz8⟩ : ∃ b, ((h.w1.length : Int) == 0) = b := ⟨_, rfl⟩
 obtain ⟨r0, hr0⟩ : ∃ b, decide (0 < ref) = b := ⟨_, rfl⟩
 obtain ⟨z9, hz9⟩ : ∃ b, ((h.ops.length : Int) == 0) = b := ⟨_, rfl⟩
 obtain ⟨b18, hb18⟩ : ∃ b, inR 0 51 h.qp = b := ⟨_, rfl⟩
 obtain ⟨b19, hb19⟩ : ∃ b, inR (-6) 6 h.a = b := ⟨_, rfl⟩
 obtain ⟨b20, hb20⟩ : ∃ b, inR (-6) 6 h.b = b := ⟨_, rfl⟩
 obtain ⟨z10, hz10⟩ : ∃ b, (h.a == 0) = b := ⟨_, rfl⟩
 obtain ⟨z11, hz11⟩ : ∃ b, (h.b == 0) = b := ⟨_, rfl⟩
 obtain ⟨wg, hwg⟩ : ∃ b, wgt h.type p = b := ⟨_, rfl⟩
 obtain ⟨b17, hb17⟩ : ∃ b, mayMos h.ops = b := ⟨_, rfl⟩
 obtain ⟨b15, hb15⟩ : ∃ b, mayWts h.w0 h.a0 = b := ⟨_, rfl⟩
 obtain ⟨b16, hb16⟩ : ∃ b, mayWts h.w1 h.a1 = b := ⟨_, rfl⟩
 obtain ⟨lk, hlk⟩ : ∃ b, h.longKey = b := ⟨_, rfl⟩
 obtain ⟨sl, hsl⟩ : ∃ b, h.spatial = b := ⟨_, rfl⟩
 obtain ⟨of, hof⟩ : ∃ b, h.off = b := ⟨_, rfl⟩
 obtain ⟨db, hdb⟩ : ∃ b, p.deb = b := ⟨_, rfl⟩
 obtain ⟨b9, hb9⟩ : ∃ b, actB h.a0 n2 = b := ⟨_, rfl⟩
 obtain ⟨b10, hb10⟩ : ∃ b, actB h.a1 t1 = b := ⟨_, rfl⟩
 obtain ⟨b11, hb11⟩ : ∃ b, mayMds h.m0 n2 = b := ⟨_, rfl⟩
 obtain ⟨b12, hb12⟩ : ∃ b, mayMds h.m1 t1 = b := ⟨_, rfl⟩
 have HF1 := Lib.hid (show false = (b0 && b1 && b2 && b3 && b4 && b5) by rw [← hm2a]; unfold m2a; rw [hb0, hb1, hb2, hb3, hb4, hb5])
 have HF := Lib.hid (show may2 h s p ref key = false by unfold may2; rw [hm2a]; simp)
 clear hm2a
 have HSP := Lib.hid (fun e : b0 = true => (maySp_iff s).1 (hb0.trans e))
 have HB3 := Lib.hid (fun e : b3 = true => inR_iff.1 (hb3.trans e))
 have D0 : Hid (∀ w, SpAt w w.heap.size s A → Calls Tryz.prog 45 #[.agg (spV s A c)] w fun e w' => e = .returned (.bool b0) ∧ Below w.heap.size w w') := Lib.hid (fun w hs => hb0 ▸ maysp2_any s A c w hs hn)
 have D1 : Hid (∀ w, Calls Tryz.prog 46 #[.agg (ppV p)] w fun e w' => e = .returned (.bool b1) ∧ Below w.heap.size w w') := Lib.hid (fun w => hb1 ▸ maypp2_any p w)
 have D2 := Lib.hid (fun w => hb2 ▸ in2R_any ref 0 3 w)
 have D5 := Lib.hid (fun w => hb5 ▸ in2R_any h.type 0 2 w)
 have D9 := Lib.hid (fun w => hb9 ▸ act2_any h.a0 n2 w)
 have D10 := Lib.hid (fun w => hb10 ▸ act2_any h.a1 t1 w)
 have D11 := Lib.hid (fun (w3 : World) (hd : HdAt w3 w3.heap.size h q) => hb11 ▸ mds2_any h.m0 n2 q.m0 q.cm0 w3 hd.m0 (by have := L.m0; omega))
 have D12 := Lib.hid (fun (w3 : World) (hd : HdAt w3 w3.heap.size h q) => hb12 ▸ mds2_any h.m1 t1 q.m1 q.cm1 w3 hd.m1 (by have := L.m1; omega))
 have D13 := Lib.hid (fun w => hb13 ▸ in2R_any h.log 0 7 w)
 have D14 := Lib.hid (fun w => hb14 ▸ in2R_any h.logC 0 7 w)
 have D15 := Lib.hid (fun (w3 : World) (hd : HdAt w3 w3.heap.size h q) => hb15 ▸ wts2_any h.w0 h.a0 q.w0 q.cw0 w3 hd.w0 (by have := L.w0; omega))
 have D16 := Lib.hid (fun (w3 : World) (hd : HdAt w3 w3.heap.size h q) => hb16 ▸ wts2_any h.w1 h.a1 q.w1 q.cw1 w3 hd.w1 (by have := L.w1; omega))
 have D17 := Lib.hid (fun (w3 : World) (hd : HdAt w3 w3.heap.size h q) => hb17 ▸ mos2_any h.ops q.ops q.cops w3 hd.ops (by have := L.ops; omega))
 have D18 := Lib.hid (fun w => hb18 ▸ in2R_any h.qp 0 51 w)
 have D19 := Lib.hid (fun w => hb19 ▸ in2R_any h.a (-6) 6 w)
 have D20 := Lib.hid (fun w => hb20 ▸ in2R_any h.b (-6) 6 w)
 have DW := Lib.hid (fun w => hwg ▸ wgt2_any h.type p w)
 have HL7 := Lib.hid (show (h.w0.length ≤ 281474976710656 ∧ h.w1.length ≤ 281474976710656) ∧ h.ops.length ≤ 281474976710656 from ⟨⟨L.w0, L.w1⟩, L.ops⟩)
 have HB6 := Lib.hid hb6
 have HB7 := Lib.hid hb7
 have HB8 := Lib.hid hb8
 have HB9 := Lib.hid hb9
 have HB10 := Lib.hid hb10
 have HT := Lib.hid (And.intro ht2 (And.intro ht1 hn2))
 have HZA := Lib.hid (And.intro hz1 hz2)
 have HZB := Lib.hid (And.intro hz3 hz4)
 have HZC := Lib.hid (And.intro hz5 (And.intro hz6 (And.intro hz7 hz8)))
 have HZD := Lib.hid (And.intro hr0 hz9)
 have HZE := Lib.hid (And.intro hz10 hz11)
 have HLS := Lib.hid (And.intro hlk (And.intro hsl (And.intro hof hdb)))
 clear hb0 hb1 hb2 hb5 hb6 hb7 hb8 hz1 hz2 hz3 hz4 ht2 ht1 hn2 hb13 hb14 hz5 hz6 hz7 hz8 hr0 hz9 hb18 hb19 hb20 hz10 hz11 hwg hb17 hb15 hb16 hlk hsl hof hdb hb9 hb10 hb11 hb12 hs H L hn
 unfold hdV spV ppV at HM
 simp only [hdV, spV, ppV] at D0 D1 DW ⊢
 cases b0
 ·skip
  go_enter Tryz.func12, Tryz.ntmps12
  go_wp2_with fail
  refine (D0.out _ HM.out.sp).mono ?_
  rintro e wa ⟨rfl, hb⟩
  replace HM : Hid (MayAt w wa h q s A c p) := Lib.hid (HM.out.go hb)
  clear hb
  go_wp2_with fail
  go_ret
  exact ⟨by rw [HF.out]; try rfl, HM.out.below⟩
 ·skip
  cases b1
  ·skip
   go_enter Tryz.func12, Tryz.ntmps12
   go_wp2_with fail
   refine (D0.out _ HM.out.sp).mono ?_
   rintro e wa ⟨rfl, hb⟩
   replace HM : Hid (MayAt w wa h q s A c p) := Lib.hid (HM.out.go hb)
   clear hb
   have g0 := HM.out.k3.cell 0
   have g1 := HM.out.k3.cell 1
   have g2 := HM.out.k3.cell 2
   have g3 := HM.out.k3.cell 3
   have g4 := HM.out.k3.cell 4
   have g5 := HM.out.k3.cell 5
   have g6 := HM.out.k3.cell 6
   have g7 := HM.out.k3.cell 7
   have g8 := HM.out.k3.cell 8
   simp [ppV] at g0 g1 g2 g3 g4 g5 g6 g7 g8
   go_wp2_with fail
   clear g0 g1 g2 g3 g4 g5 g6 g7 g8
   refine (D1.out _).mono ?_
   rintro e wb ⟨rfl, hb⟩
   replace HM : Hid (MayAt w wb h q s A c p) := Lib.hid (HM.out.go hb)
   clear hb
   go_wp2_with fail
   go_ret
   exact ⟨by rw [HF.out]; try rfl, HM.out.below⟩
  ·skip
   cases b2
   ·skip
    go_enter Tryz.func12, Tryz.ntmps12
    go_wp2_with fail
    refine (D0.out _ HM.out.sp).mono ?_
    rintro e wa ⟨rfl, hb⟩
    replace HM : Hid (MayAt w wa h q s A c p) := Lib.hid (HM.out.go hb)
    clear hb
    have g0 := HM.out.k3.cell 0
    have g1 := HM.out.k3.cell 1
    have g2 := HM.out.k3.cell 2
    have g3 := HM.out.k3.cell 3
    have g4 := HM.out.k3.cell 4
    have g5 := HM.out.k3.cell 5
    have g6 := HM.out.k3.cell 6
    have g7 := HM.out.k3.cell 7
    have g8 := HM.out.k3.cell 8
    simp [ppV] at g0 g1 g2 g3 g4 g5 g6 g7 g8
    go_wp2_with fail
    clear g0 g1 g2 g3 g4 g5 g6 g7 g8
    refine (D1.out _).mono ?_
    rintro e wb ⟨rfl, hb⟩
    replace HM : Hid (MayAt w wb h q s A c p) := Lib.hid (HM.out.go hb)
    clear hb
    go_wp2_with (go_at_call 47; first | (with_reducible refine (D2.out _).mono ?_; rintro e w' ⟨rfl, rfl⟩))
    go_ret
    exact ⟨by rw [HF.out]; try rfl, HM.out.below⟩
   ·skip
    cases b3
    ·skip
     go_enter Tryz.func12, Tryz.ntmps12
     go_wp2_with fail
     refine (D0.out _ HM.out.sp).mono ?_
     rintro e wa ⟨rfl, hb⟩
     replace HM : Hid (MayAt w wa h q s A c p) := Lib.hid (HM.out.go hb)
     clear hb
     have g0 := HM.out.k3.cell 0
     have g1 := HM.out.k3.cell 1
     have g2 := HM.out.k3.cell 2
     have g3 := HM.out.k3.cell 3
     have g4 := HM.out.k3.cell 4
     have g5 := HM.out.k3.cell 5
     have g6 := HM.out.k3.cell 6
     have g7 := HM.out.k3.cell 7
     have g8 := HM.out.k3.cell 8
     simp [ppV] at g0 g1 g2 g3 g4 g5 g6 g7 g8
     go_wp2_with fail
     clear g0 g1 g2 g3 g4 g5 g6 g7 g8
     refine (D1.out _).mono ?_
     rintro e wb ⟨rfl, hb⟩
     replace HM : Hid (MayAt w wb h q s A c p) := Lib.hid (HM.out.go hb)
     clear hb
     have hall : 1 ≤ s.wide * s.high ∧ s.wide * s.high ≤ 64 := by
      obtain ⟨⟨q1, q2⟩, ⟨q3, q4⟩, _⟩ := HSP.out (by simp)
      have hw : s.wide = 1 ∨ s.wide = 2 ∨ s.wide = 3 ∨ s.wide = 4 ∨ s.wide = 5 ∨ s.wide = 6 ∨ s.wide = 7 ∨ s.wide = 8 := by omega
      rcases hw with e | e | e | e | e | e | e | e <;> rw [e] <;> omega
     obtain ⟨all, hAll⟩ : ∃ x, x = s.wide * s.high := ⟨_, rfl⟩
     have hwr : IntKind.i64.wrap (s.wide * s.high) = all := by rw [hAll]; exact IntWalk.i64_in _ (by omega)
     rw [← hAll] at hall hb3 hb4
     obtain ⟨hal1, hal2⟩ := hall
     have D3 := Lib.hid (fun w => hb3 ▸ in2R_any h.first 0 (all - 1) w)
     have D4 := Lib.hid (fun w => hb4 ▸ in2R_any h.count 1 (all - h.first) w)
     clear hAll hb3 hb4
     have c0 := HM.out.k1.cell 0
     have c1 := HM.out.k1.cell 1
     have c2 := HM.out.k1.cell 2
     simp [hdV] at c0 c1 c2
     have d0 := HM.out.k2.cell 0
     have d1 := HM.out.k2.cell 1
     simp [spV] at d0 d1
     go_wp2_with (go_at_call 47; first | (with_reducible refine (D2.out _).mono ?_; rintro e w' ⟨rfl, rfl⟩) | (with_reducible refine (D3.out _).mono ?_; rintro e w' ⟨rfl, rfl⟩) | (with_reducible refine (D4.out _).mono ?_; rintro e w' ⟨rfl, rfl⟩) | (with_reducible refine (D5.out _).mono ?_; rintro e w' ⟨rfl, rfl⟩))
     go_ret
     exact ⟨by rw [HF.out]; try rfl, HM.out.below⟩
    ·skip
     cases b4
     ·skip
      go_enter Tryz.func12, Tryz.ntmps12
      go_wp2_with fail
      refine (D0.out _ HM.out.sp).mono ?_
      rintro e wa ⟨rfl, hb⟩
      replace HM : Hid (MayAt w wa h q s A c p) := Lib.hid (HM.out.go hb)
      clear hb
      have g0 := HM.out.k3.cell 0
      have g1 := HM.out.k3.cell 1
      have g2 := HM.out.k3.cell 2
      have g3 := HM.out.k3.cell 3
      have g4 := HM.out.k3.cell 4
      have g5 := HM.out.k3.cell 5
      have g6 := HM.out.k3.cell 6
      have g7 := HM.out.k3.cell 7
      have g8 := HM.out.k3.cell 8
      simp [ppV] at g0 g1 g2 g3 g4 g5 g6 g7 g8
      go_wp2_with fail
      clear g0 g1 g2 g3 g4 g5 g6 g7 g8
      refine (D1.out _).mono ?_
      rintro e wb ⟨rfl, hb⟩
      replace HM : Hid (MayAt w wb h q s A c p) := Lib.hid (HM.out.go hb)
      clear hb
      have hall : 1 ≤ s.wide * s.high ∧ s.wide * s.high ≤ 64 := by
       obtain ⟨⟨q1, q2⟩, ⟨q3, q4⟩, _⟩ := HSP.out (by simp)
       have hw : s.wide = 1 ∨ s.wide = 2 ∨ s.wide = 3 ∨ s.wide = 4 ∨ s.wide = 5 ∨ s.wide = 6 ∨ s.wide = 7 ∨ s.wide = 8 := by omega
       rcases hw with e | e | e | e | e | e | e | e <;> rw [e] <;> omega
      obtain ⟨all, hAll⟩ : ∃ x, x = s.wide * s.high := ⟨_, rfl⟩
      have hwr : IntKind.i64.wrap (s.wide * s.high) = all := by rw [hAll]; exact IntWalk.i64_in _ (by omega)
      rw [← hAll] at hall hb3 hb4
      obtain ⟨hal1, hal2⟩ := hall
      have D3 := Lib.hid (fun w => hb3 ▸ in2R_any h.first 0 (all - 1) w)
      have D4 := Lib.hid (fun w => hb4 ▸ in2R_any h.count 1 (all - h.first) w)
      obtain ⟨hf1, hf2⟩ := HB3.out (by simp)
      rw [← hAll] at hf2
      clear hAll hb3 hb4
      have c0 := HM.out.k1.cell 0
      have c1 := HM.out.k1.cell 1
      have c2 := HM.out.k1.cell 2
      simp [hdV] at c0 c1 c2
      have d0 := HM.out.k2.cell 0
      have d1 := HM.out.k2.cell 1
      simp [spV] at d0 d1
      go_wp2_with (go_at_call 47; first | (with_reducible refine (D2.out _).mono ?_; rintro e w' ⟨rfl, rfl⟩) | (with_reducible refine (D3.out _).mono ?_; rintro e w' ⟨rfl, rfl⟩) | (with_reducible refine (D4.out _).mono ?_; rintro e w' ⟨rfl, rfl⟩) | (with_reducible refine (D5.out _).mono ?_; rintro e w' ⟨rfl, rfl⟩))
      go_ret
      exact ⟨by rw [HF.out]; try rfl, HM.out.below⟩
     ·skip
      cases b5
      ·skip
       go_enter Tryz.func12, Tryz.ntmps12
       go_wp2_with fail
       refine (D0.out _ HM.out.sp).mono ?_
       rintro e wa ⟨rfl, hb⟩
       replace HM : Hid (MayAt w wa h q s A c p) := Lib.hid (HM.out.go hb)
       clear hb
       have g0 := HM.out.k3.cell 0
       have g1 := HM.out.k3.cell 1
       have g2 := HM.out.k3.cell 2
       have g3 := HM.out.k3.cell 3
       have g4 := HM.out.k3.cell 4
       have g5 := HM.out.k3.cell 5
       have g6 := HM.out.k3.cell 6
       have g7 := HM.out.k3.cell 7
       have g8 := HM.out.k3.cell 8
       simp [ppV] at g0 g1 g2 g3 g4 g5 g6 g7 g8
       go_wp2_with fail
       clear g0 g1 g2 g3 g4 g5 g6 g7 g8
       refine (D1.out _).mono ?_
       rintro e wb ⟨rfl, hb⟩
       replace HM : Hid (MayAt w wb h q s A c p) := Lib.hid (HM.out.go hb)
       clear hb
       have hall : 1 ≤ s.wide * s.high ∧ s.wide * s.high ≤ 64 := by
        obtain ⟨⟨q1, q2⟩, ⟨q3, q4⟩, _⟩ := HSP.out (by simp)
        have hw : s.wide = 1 ∨ s.wide = 2 ∨ s.wide = 3 ∨ s.wide = 4 ∨ s.wide = 5 ∨ s.wide = 6 ∨ s.wide = 7 ∨ s.wide = 8 := by omega
        rcases hw with e | e | e | e | e | e | e | e <;> rw [e] <;> omega
       obtain ⟨all, hAll⟩ : ∃ x, x = s.wide * s.high := ⟨_, rfl⟩
       have hwr : IntKind.i64.wrap (s.wide * s.high) = all := by rw [hAll]; exact IntWalk.i64_in _ (by omega)
       rw [← hAll] at hall hb3 hb4
       obtain ⟨hal1, hal2⟩ := hall
       have D3 := Lib.hid (fun w => hb3 ▸ in2R_any h.first 0 (all - 1) w)
       have D4 := Lib.hid (fun w => hb4 ▸ in2R_any h.count 1 (all - h.first) w)
       obtain ⟨hf1, hf2⟩ := HB3.out (by simp)
       rw [← hAll] at hf2
       clear hAll hb3 hb4
       have c0 := HM.out.k1.cell 0
       have c1 := HM.out.k1.cell 1
       have c2 := HM.out.k1.cell 2
       simp [hdV] at c0 c1 c2
       have d0 := HM.out.k2.cell 0
       have d1 := HM.out.k2.cell 1
       simp [spV] at d0 d1
       go_wp2_with (go_at_call 47; first | (with_reducible refine (D2.out _).mono ?_; rintro e w' ⟨rfl, rfl⟩) | (with_reducible refine (D3.out _).mono ?_; rintro e w' ⟨rfl, rfl⟩) | (with_reducible refine (D4.out _).mono ?_; rintro e w' ⟨rfl, rfl⟩) | (with_reducible refine (D5.out _).mono ?_; rintro e w' ⟨rfl, rfl⟩))
       go_ret
       exact ⟨by rw [HF.out]; try rfl, HM.out.below⟩
      ·skip
       exact absurd HF1.out (by simp)
end Go.Proofs.YtjokibagciehlaaGreat

namespace Go.Proofs.YtjokibagciehlaaGreat
open Go.RowKit
set_option linter.unusedVariables false
theorem may2_any (h : Hd) (q : Ha) (s : Sp) (A : Option Addr) (c : Nat) (p : Pp) (ref : Int) (key : Bool) (w : World) (H : HdAt w w.heap.size h q) (L : HdLen h) (hs : SpAt w w.heap.size s A) (hn : s.cy.length ≤ 1152921504606846976) :
  Calls Tryz.prog 12 #[.agg (hdV h q), .agg (spV s A c), .agg (ppV p), .int .i64 ref, .bool key] w fun e w' => e = .returned (.bool (mayHd h s p ref key)) ∧ Below w.heap.size w w' := by
 rw [← may2_eq]
 cases ha : m2a h s p ref
 ·exact may2_A h q s A c p ref key w H L hs hn ha
 cases hb : m2b h s key
 ·exact may2_B h q s A c p ref key w H L hs hn ha hb
 cases hc : m2c h s
 ·exact may2_C h q s A c p ref key w H L hs hn ha hb hc
 cases hd : m2d h
 ·exact may2_D h q s A c p ref key w H L hs hn ha hb hc hd
 cases he : m2e h p
 ·exact may2_E h q s A c p ref key w H L hs hn ha hb hc hd he
 cases hf : m2f h ref key
 ·exact may2_F h q s A c p ref key w H L hs hn ha hb hc hd he hf
 ·exact may2_G h q s A c p ref key w H L hs hn ha hb hc hd he hf
end Go.Proofs.YtjokibagciehlaaGreat

namespace Go.Proofs.YtjokibagciehlaaGreat
open Go.RowKit
set_option linter.unusedVariables false
set_option linter.unusedSimpArgs false

theorem digI {x n : Int} (h0 : 0 ≤ x) (h1 : x ≤ 9223372036854775807) (h2 : 0 ≤ n) (h3 : n ≤ 1000) (w : World) : Calls Tryz.prog 10 #[.int .i64 x, .int .i64 n] w (BRow w (dig x.toNat n.toNat)) := by
 have := digits_any x.toNat n.toNat w (by omega) (by omega)
 rwa [show ((x.toNat : Nat) : Int) = x by omega, show ((n.toNat : Nat) : Int) = n by omega] at this
theorem HdAt.kept {w w' : World} {B : Nat} {h : Hd} {q : Ha} (H : HdAt w B h q) (hb : Below B w w') : HdAt w' B h q := H.below hb (Nat.le_refl _)
theorem HdAt.full {w : World} {B : Nat} {h : Hd} {q : Ha} (H : HdAt w B h q) (hB : B ≤ w.heap.size) : HdAt w w.heap.size h q := ⟨H.m0.more hB, H.m1.more hB, H.w0.more hB, H.w1.more hB, H.ops.more hB⟩

set_option maxRecDepth 100000 in
set_option maxHeartbeats 6400000 in
theorem put2_no (base : Nat) (v : Value) (b : List Bool) (w : World) (h : Hd) (q : Ha) (s : Sp) (A : Option Addr) (c : Nat) (p : Pp) (ref : Int) (key : Bool) (ho : w.ownsRow base 5 1 v b.length (bitsV b)) (hbs : base ≤ w.heap.size) (hb : b.length ≤ 1000) (H : HdAt w base h q) (L : HdLen h) (hs : SpAt w base s A) (hn : s.cy.length ≤ 1152921504606846976) (hm : mayHd h s p ref key = false) :
  Calls Tryz.prog 9 #[v, .agg (hdV h q), .agg (spV s A c), .agg (ppV p), .int .i64 ref, .bool key] w fun e w' => e = .returned (.tuple #[v, .int .i64 401]) ∧ BGrow w base v b v w' := by
 obtain ⟨w3, hw3⟩ : ∃ w3, w3 = (((w.alloc (.cells (hdV h q) 26)).alloc (.cells (spV s A c) 29)).alloc (.cells (ppV p) 31)) := ⟨_, rfl⟩
 have HX := Lib.hid (Bx.new w h q s A c p)
 rw [← hw3] at HX
 have HM := Lib.hid (fun (w3 : World) (hb : Below w.heap.size w w3) => hm ▸ may2_any h q s A c p ref key w3 ((H.full hbs).go hb) L (Rd.go (hs.more hbs) hb) hn)
 have HD := Lib.hid H
 have HO := Lib.hid ho
 clear H L hs hn ho hm
 simp only [hdV, spV, ppV] at hw3 ⊢
 go_enter Tryz.func9, Tryz.ntmps9
 go_upto_region 1 with fail
 rw [← hw3]
 clear hw3
 refine wp_region_lit ?_
 refine wpList_load_row rfl _ _ rfl w.heap.size rfl _ _ (0, 0) _ HX.out.k1 Tryz.underlying26 rfl (by kernel_rfl) ?_
 refine wpList_load_row rfl _ _ rfl (w.heap.size + 1) rfl _ _ (0, 0) _ HX.out.k2 Tryz.underlying29 rfl (by kernel_rfl) ?_
 refine wpList_load_row rfl _ _ rfl (w.heap.size + 1 + 1) rfl _ _ (0, 0) _ HX.out.k3 Tryz.underlying31 rfl (by kernel_rfl) ?_
 go_wp2_with fail
 refine (HM.out w3 HX.out.below).mono ?_
 rintro e w4 ⟨rfl, hb4⟩
 replace HX := Lib.hid (HX.out.go hb4)
 clear hb4 HM
 have HF := Lib.hid ((BGrow.refl HO.out).go HX.out.below)
 go_wp2_with fail
 go_ret2
 exact ⟨rfl, HF.out⟩
set_option maxRecDepth 100000 in
set_option maxHeartbeats 25600000 in
theorem put2_yes (base : Nat) (v : Value) (b : List Bool) (w : World) (h : Hd) (q : Ha) (s : Sp) (A : Option Addr) (c : Nat) (p : Pp) (ref : Int) (key : Bool) (ho : w.ownsRow base 5 1 v b.length (bitsV b)) (hbs : base ≤ w.heap.size) (hb : b.length ≤ 1000) (H : HdAt w base h q) (L : HdLen h) (hs : SpAt w base s A) (hn : s.cy.length ≤ 1152921504606846976) (hm : mayHd h s p ref key = true) :
  Calls Tryz.prog 9 #[v, .agg (hdV h q), .agg (spV s A c), .agg (ppV p), .int .i64 ref, .bool key] w fun e w' => ∃ v', e = .returned (.tuple #[v', .int .i64 0]) ∧ BGrow w base v (b ++ hdL h s p ref key) v' w' := by
 have ok := mayHd_iff hm
 have HOK := Lib.hid ok
 obtain ⟨w3, hw3⟩ : ∃ w3, w3 = (((w.alloc (.cells (hdV h q) 26)).alloc (.cells (spV s A c) 29)).alloc (.cells (ppV p) 31)) := ⟨_, rfl⟩
 have HX := Lib.hid (Bx.new w h q s A c p)
 rw [← hw3] at HX
 have HM := Lib.hid (fun (w3 : World) (hb : Below w.heap.size w w3) => hm ▸ may2_any h q s A c p ref key w3 ((H.full hbs).go hb) L (Rd.go (hs.more hbs) hb) hn)
 have HD := Lib.hid H
 have HO := Lib.hid ho
 clear H L hs hn ho hm ok
 simp only [hdV, spV, ppV] at hw3 ⊢
 go_enter Tryz.func9, Tryz.ntmps9
 go_upto_region 1 with fail
 rw [← hw3]
 clear hw3
 refine wp_region_lit ?_
 refine wpList_load_row rfl _ _ rfl w.heap.size rfl _ _ (0, 0) _ HX.out.k1 Tryz.underlying26 rfl (by kernel_rfl) ?_
 refine wpList_load_row rfl _ _ rfl (w.heap.size + 1) rfl _ _ (0, 0) _ HX.out.k2 Tryz.underlying29 rfl (by kernel_rfl) ?_
 refine wpList_load_row rfl _ _ rfl (w.heap.size + 1 + 1) rfl _ _ (0, 0) _ HX.out.k3 Tryz.underlying31 rfl (by kernel_rfl) ?_
 go_wp2_with fail
 refine (HM.out w3 HX.out.below).mono ?_
 rintro e w4 ⟨rfl, hb4⟩
 replace HX := Lib.hid (HX.out.go hb4)
 clear hb4 HM
 have hG0 : BGrow w base v b v w4 := (BGrow.refl HO.out).go HX.out.below
 have HG0 := Lib.hid hG0
 have hs4 : w.heap.size ≤ w4.heap.size := HX.out.below.size
 have hbs4 : base ≤ w4.heap.size := by omega
 have HBS := Lib.hid hbs4
 have HG : Hid (BGrow w4 base v b v w4) := Lib.hid (BGrow.refl hG0.1)
 have HT : Hid (∀ w', Touch (fun k => v.ownBlock = some k) w4 w' → Bk w' w.heap.size 26 (hdV h q) ∧ Bk w' (w.heap.size + 1) 29 (spV s A c) ∧ Bk w' (w.heap.size + 1 + 1) 31 (ppV p)) := Lib.hid (fun w' ht => by
  have hlt : ∀ k, v.ownBlock = some k → k < w.heap.size := fun k e => (HO.out.lt _ e).2
  exact ⟨HX.out.k1.touch ht (fun e => by have := hlt _ e; omega), HX.out.k2.touch ht (fun e => by have := hlt _ e; omega), HX.out.k3.touch ht (fun e => by have := hlt _ e; omega)⟩)
 have HW : Hid (∀ (b' : List Bool) (v1 : Value) (w2 : World), BGrow w4 base v b' v1 w2 → HdAt w2 base h q) := Lib.hid (fun b' v1 w2 g => HD.out.kept ((HX.out.below.mono hbs).trans (g.below hG0.1 hbs4)))
 obtain ⟨B, hB⟩ : ∃ B, B = b := ⟨_, rfl⟩
 have hlB : B.length ≤ 1000 := by rw [hB]; exact hb
 rw [← hB] at HG
 have HB0 := Lib.hid hB
 have hw4 := w4
 clear hw4 hG0 hs4 hbs4 HX HO HD hB hb
 obtain ⟨B1, hB1⟩ : ∃ X, X = B ++ (ueL h.first.toNat) := ⟨_, rfl⟩
 have hlP1 : (ueL h.first.toNat).length ≤ 61 := ue_le (by have := HOK.out.first; have := HOK.out.area; omega)
 have hlB1 : B1.length ≤ 1061 := by rw [hB1, List.length_append]; omega
 have HB1 := Lib.hid hB1
 clear hB1
 have c0 := (HT.out _ HG.out.2.1).1.cell 0
 simp [hdV] at c0
 go_wp2_with fail
 refine (ue2I (x := h.first) (by have := HOK.out.first; omega) (by have := HOK.out.first; have := HOK.out.area; omega) _).mono ?_
 rintro e wc ⟨vd, rfl, hvd, hbd⟩
 clear c0
 go_upto_region 4 with (at_builtin; refine wpList_app rfl _ _ rfl base v _ vd (B) (ueL h.first.toNat) rfl rfl HG.out (Nat.le_trans HBS.out HG.out.2.1.size) hbd hvd (by omega) ?_; intro v9 w9 hG)
 rw [← HB1.out] at hG
 replace HG := Lib.hid hG
 clear hG hvd hbd hlP1 hlB
 have hcn : 1 ≤ h.count ∧ h.count ≤ 64 := by have h1 := HOK.out.count; have h2 := HOK.out.first; have h3 := HOK.out.area; omega
 obtain ⟨hcn1, hcn2⟩ := hcn
 obtain ⟨B2, hB2⟩ : ∃ X, X = B1 ++ (ueL (h.count - 1).toNat) := ⟨_, rfl⟩
 have hlP2 : (ueL (h.count - 1).toNat).length ≤ 61 := ue_le (by omega)
 have hlB2 : B2.length ≤ 1122 := by rw [hB2, List.length_append]; omega
 have HB2 := Lib.hid hB2
 clear hB2
 have c1 := (HT.out _ HG.out.2.1).1.cell 1
 simp [hdV] at c1
 go_wp2_with fail
 refine (ue2I (x := h.count - 1) (by omega) (by omega) _).mono ?_
 rintro e wc ⟨vd, rfl, hvd, hbd⟩
 clear c1
 go_upto_region 5 with (at_builtin; refine wpList_app rfl _ _ rfl base v _ vd (B1) (ueL (h.count - 1).toNat) rfl rfl HG.out (Nat.le_trans HBS.out HG.out.2.1.size) hbd hvd (by omega) ?_; intro v9 w9 hG)
 rw [← HB2.out] at hG
 replace HG := Lib.hid hG
 clear hG hvd hbd hlP2 hlB1
 clear hcn1 hcn2
 obtain ⟨B3, hB3⟩ : ∃ X, X = B2 ++ (ueL h.type.toNat) := ⟨_, rfl⟩
 have hlP3 : (ueL h.type.toNat).length ≤ 61 := ue_le (by have := HOK.out.type; omega)
 have hlB3 : B3.length ≤ 1183 := by rw [hB3, List.length_append]; omega
 have HB3 := Lib.hid hB3
 clear hB3
 have c2 := (HT.out _ HG.out.2.1).1.cell 2
 simp [hdV] at c2
 go_wp2_with fail
 refine (ue2I (x := h.type) (by have := HOK.out.type; omega) (by have := HOK.out.type; omega) _).mono ?_
 rintro e wc ⟨vd, rfl, hvd, hbd⟩
 clear c2
 go_upto_region 6 with (at_builtin; refine wpList_app rfl _ _ rfl base v _ vd (B2) (ueL h.type.toNat) rfl rfl HG.out (Nat.le_trans HBS.out HG.out.2.1.size) hbd hvd (by omega) ?_; intro v9 w9 hG)
 rw [← HB3.out] at hG
 replace HG := Lib.hid hG
 clear hG hvd hbd hlP3 hlB2
 have hfb : 4 ≤ s.fb ∧ s.fb ≤ 8 := by obtain ⟨_, _, ⟨a1, a2⟩, ⟨a3, a4⟩, _⟩ := HOK.out.sp; omega
 have hfn : 0 ≤ h.fn ∧ h.fn ≤ 300 := by have h1 := HOK.out.fn; have h2 := two_pow_bd hfb; omega
 have HFB := Lib.hid (And.intro hfb hfn)
 clear hfb hfn
 obtain ⟨B4, hB4⟩ : ∃ X, X = B3 ++ (dig h.fn.toNat s.fb.toNat) := ⟨_, rfl⟩
 have hlP4 : (dig h.fn.toNat s.fb.toNat).length ≤ 61 := by rw [dig_len]; have := HFB.out; omega
 have hlB4 : B4.length ≤ 1244 := by rw [hB4, List.length_append]; omega
 have HB4 := Lib.hid hB4
 clear hB4
 have c3 := (HT.out _ HG.out.2.1).1.cell 3
 simp [hdV] at c3
 have d2 := (HT.out _ HG.out.2.1).2.1.cell 2
 simp [spV] at d2
 go_wp2_with fail
 refine (digI (x := h.fn) (n := s.fb) HFB.out.2.1 (by have := HFB.out; omega) (by have := HFB.out; omega) (by have := HFB.out; omega) _).mono ?_
 rintro e wc ⟨vd, rfl, hvd, hbd⟩
 clear c3 d2
 go_upto_if 45 with (at_builtin; refine wpList_app rfl _ _ rfl base v _ vd (B3) (dig h.fn.toNat s.fb.toNat) rfl rfl HG.out (Nat.le_trans HBS.out HG.out.2.1.size) hbd hvd (by omega) ?_; intro v9 w9 hG)
 rw [← HB4.out] at hG
 replace HG := Lib.hid hG
 clear hG hvd hbd hlP4 hlB3
 obtain ⟨B5, hB5⟩ : ∃ X, X = B4 ++ (if key = true then ueL h.id.toNat else []) := ⟨_, rfl⟩
 have hlP5 : (if key = true then ueL h.id.toNat else []).length ≤ 61 := ite_le (ue_le (by have := HOK.out.id; omega)) (by simp)
 have hlB5 : B5.length ≤ 1305 := by rw [hB5, List.length_append]; omega
 have HB5 := Lib.hid hB5
 clear hB5
 go_cut [0] (fun s_ wx => BGrow w4 base v B5 s_ wx)
 case first => as_aux_lemma =>
  cases key
  ·have e : B5 = B4 := by rw [HB5.out, if_neg (by simp), List.append_nil]
   rw [← e] at HG
   clear e
   go_wp2_with fail
   go_meet
   exact HG.out
  ·skip
   rw [if_pos rfl] at HB5 hlP5
   have c4 := (HT.out _ HG.out.2.1).1.cell 4
   simp [hdV] at c4
   go_wp2_with fail
   refine (ue2I (x := h.id) (by have := HOK.out.id; omega) (by have := HOK.out.id; omega) _).mono ?_
   rintro e wc ⟨vd, rfl, hvd, hbd⟩
   clear c4
   go_wp2_with (at_builtin; refine wpList_app rfl _ _ rfl base v _ vd (B4) (ueL h.id.toNat) rfl rfl HG.out (Nat.le_trans HBS.out HG.out.2.1.size) hbd hvd (by omega) ?_; intro v9 w9 hG)
   rw [← HB5.out] at hG
   replace HG := Lib.hid hG
   clear hG hvd hbd
   go_meet
   exact HG.out
 case rest => as_aux_lemma =>
  replace HG := Lib.hid hcut
  clear hcut hlP5 hlB4
  obtain ⟨zp, hzp⟩ : ∃ x, (s.pt == 0) = x := ⟨_, rfl⟩
  have d3 := (HT.out _ HG.out.2.1).2.1.cell 3
  simp [spV] at d3
  go_upto_if 53 with fail
  clear d3
  have HZP := Lib.hid hzp
  clear hzp
  have hpb : 4 ≤ s.pb ∧ s.pb ≤ 8 := by obtain ⟨_, _, ⟨a1, a2⟩, ⟨a3, a4⟩, _⟩ := HOK.out.sp; omega
  have hpo : 0 ≤ h.poc ∧ h.poc ≤ 300 := by have h1 := HOK.out.poc; have h2 := two_pow_bd hpb; omega
  have HPB := Lib.hid (And.intro hpb hpo)
  clear hpb hpo
  obtain ⟨B6, hB6⟩ : ∃ X, X = B5 ++ (if s.pt = 0 then dig h.poc.toNat s.pb.toNat else []) := ⟨_, rfl⟩
  have hlP6 : (if s.pt = 0 then dig h.poc.toNat s.pb.toNat else []).length ≤ 61 := ite_le (by rw [dig_len]; have := HPB.out; omega) (by simp)
  have hlB6 : B6.length ≤ 1366 := by rw [hB6, List.length_append]; omega
  have HB6 := Lib.hid hB6
  clear hB6
  go_cut [0] (fun s_ wx => BGrow w4 base v B6 s_ wx)
  case first => as_aux_lemma =>
   cases zp
   ·have e : B6 = B5 := by rw [HB6.out, if_neg (beq_eq_false_iff_ne.1 HZP.out), List.append_nil]
    rw [← e] at HG
    clear e
    go_wp2_with fail
    go_meet
    exact HG.out
   ·skip
    have hc := beq_iff_eq.1 HZP.out
    rw [if_pos hc] at HB6 hlP6
    clear hc
    have c5 := (HT.out _ HG.out.2.1).1.cell 5
    simp [hdV] at c5
    have d4 := (HT.out _ HG.out.2.1).2.1.cell 4
    simp [spV] at d4
    go_wp2_with fail
    refine (digI (x := h.poc) (n := s.pb) HPB.out.2.1 (by have := HPB.out; omega) (by have := HPB.out; omega) (by have := HPB.out; omega) _).mono ?_
    rintro e wc ⟨vd, rfl, hvd, hbd⟩
    clear c5 d4
    go_wp2_with (at_builtin; refine wpList_app rfl _ _ rfl base v _ vd (B5) (dig h.poc.toNat s.pb.toNat) rfl rfl HG.out (Nat.le_trans HBS.out HG.out.2.1.size) hbd hvd (by omega) ?_; intro v9 w9 hG)
    rw [← HB6.out] at hG
    replace HG := Lib.hid hG
    clear hG hvd hbd
    go_meet
    exact HG.out
  case rest => as_aux_lemma =>
   replace HG := Lib.hid hcut
   clear hcut hlP6 hlB5
   obtain ⟨t1, ht1⟩ : ∃ x, (h.type == 1) = x := ⟨_, rfl⟩
   obtain ⟨n2, hn2⟩ : ∃ x, (h.type != 2) = x := ⟨_, rfl⟩
   have HT1 := Lib.hid ht1
   have HN2 := Lib.hid hn2
   clear ht1 hn2
   have ht := HT1.out
   have c2 := (HT.out _ HG.out.2.1).1.cell 2
   simp [hdV] at c2
   go_upto_if 63 with fail
   clear c2 ht
   obtain ⟨B7, hB7⟩ : ∃ X, X = B6 ++ (if h.type = 1 then [h.spatial] else []) := ⟨_, rfl⟩
   have hlP7 : (if h.type = 1 then [h.spatial] else []).length ≤ 1 := ite_le (by simp) (by simp)
   have hlB7 : B7.length ≤ 1367 := by rw [hB7, List.length_append]; omega
   have HB7 := Lib.hid hB7
   clear hB7
   go_cut [0] (fun s_ wx => BGrow w4 base v B7 s_ wx)
   case first => as_aux_lemma =>
    cases t1
    ·have e : B7 = B6 := by rw [HB7.out, if_neg (beq_eq_false_iff_ne.1 HT1.out), List.append_nil]
     rw [← e] at HG
     clear e
     go_wp2_with fail
     go_meet
     exact HG.out
    ·skip
     have hc := beq_iff_eq.1 HT1.out
     rw [if_pos hc] at HB7 hlP7
     clear hc
     obtain ⟨sl, hsl⟩ : ∃ x, h.spatial = x := ⟨_, rfl⟩
     have c6 := (HT.out _ HG.out.2.1).1.cell 6
     simp [hdV] at c6
     rw [hsl] at c6
     have HV := Lib.hid hsl
     clear hsl
     obtain ⟨wz, hwz⟩ : ∃ x, x = wc := ⟨_, rfl⟩
     rw [← hwz] at HG c6 ⊢
     clear hwz
     have hu := bu_u8 sl
     have HOB := Lib.hid (own_bit wz sl)
     have HBB : Hid (Below wz.heap.size wz (wz.alloc (.cells #[.int .u8 (bu sl)] 5))) := Lib.hid ((Below.refl _ _).alloc (Nat.le_refl _) _)
     go_wp2_with (first | (go_at_call 34; refine (flag2_any _ _).mono ?_; rintro e w' ⟨rfl, rfl⟩) | (at_builtin; refine wpList_app rfl _ _ rfl base v _ (.slice (some ⟨wz.heap.size, 0, none⟩) 1 1) (B6) [sl] rfl rfl HG.out (Nat.le_trans HBS.out HG.out.2.1.size) HBB.out HOB.out (by show _ + 1 ≤ _; omega) ?_; intro v9 w9 hG))
     have e : B7 = B6 ++ [sl] := by rw [HB7.out, HV.out]
     rw [← e] at hG
     replace HG := Lib.hid hG
     clear hG e HOB HBB c6 hu
     go_meet
     exact HG.out
   case rest => as_aux_lemma =>
    replace HG := Lib.hid hcut
    clear hcut hlP7 hlB6
    have ht := HN2.out
    have c2 := (HT.out _ HG.out.2.1).1.cell 2
    simp [hdV] at c2
    go_upto_if 73 with fail
    clear c2 ht
    obtain ⟨B8, hB8⟩ : ∃ X, X = B7 ++ (if h.type ≠ 2 then ueL (h.a0 - 1).toNat else []) := ⟨_, rfl⟩
    have hlP8 : (if h.type ≠ 2 then ueL (h.a0 - 1).toNat else []).length ≤ 61 := ite_le (ue_le (by have := HOK.out.a0; omega)) (by simp)
    have hlB8 : B8.length ≤ 1428 := by rw [hB8, List.length_append]; omega
    have HB8 := Lib.hid hB8
    clear hB8
    go_cut [0] (fun s_ wx => BGrow w4 base v B8 s_ wx)
    case first => as_aux_lemma =>
     cases n2
     ·have e : B8 = B7 := by rw [HB8.out, if_neg (fun q => q (bne_ff.1 HN2.out)), List.append_nil]
      rw [← e] at HG
      clear e
      go_wp2_with fail
      go_meet
      exact HG.out
     ·skip
      have hc := bne_tt.1 HN2.out
      rw [if_pos hc] at HB8 hlP8
      clear hc
      have hq : 1 ≤ h.a0 ∧ h.a0 ≤ 8 := by have h1 := HOK.out.a0; have h2 := bne_tt.1 HN2.out; omega
      obtain ⟨hq1, hq2⟩ := hq
      have c7 := (HT.out _ HG.out.2.1).1.cell 7
      simp [hdV] at c7
      go_wp2_with fail
      refine (ue2I (x := h.a0 - 1) (by omega) (by omega) _).mono ?_
      rintro e wc ⟨vd, rfl, hvd, hbd⟩
      clear c7
      go_wp2_with (at_builtin; refine wpList_app rfl _ _ rfl base v _ vd (B7) (ueL (h.a0 - 1).toNat) rfl rfl HG.out (Nat.le_trans HBS.out HG.out.2.1.size) hbd hvd (by omega) ?_; intro v9 w9 hG)
      rw [← HB8.out] at hG
      replace HG := Lib.hid hG
      clear hG hvd hbd
      go_meet
      exact HG.out
    case rest => as_aux_lemma =>
     replace HG := Lib.hid hcut
     clear hcut hlP8 hlB7
     have ht := HT1.out
     have c2 := (HT.out _ HG.out.2.1).1.cell 2
     simp [hdV] at c2
     go_upto_if 82 with fail
     clear c2 ht
     obtain ⟨B9, hB9⟩ : ∃ X, X = B8 ++ (if h.type = 1 then ueL (h.a1 - 1).toNat else []) := ⟨_, rfl⟩
     have hlP9 : (if h.type = 1 then ueL (h.a1 - 1).toNat else []).length ≤ 61 := ite_le (ue_le (by have := HOK.out.a1; omega)) (by simp)
     have hlB9 : B9.length ≤ 1489 := by rw [hB9, List.length_append]; omega
     have HB9 := Lib.hid hB9
     clear hB9
     go_cut [0] (fun s_ wx => BGrow w4 base v B9 s_ wx)
     case first => as_aux_lemma =>
      cases t1
      ·have e : B9 = B8 := by rw [HB9.out, if_neg (beq_eq_false_iff_ne.1 HT1.out), List.append_nil]
       rw [← e] at HG
       clear e
       go_wp2_with fail
       go_meet
       exact HG.out
      ·skip
       have hc := beq_iff_eq.1 HT1.out
       rw [if_pos hc] at HB9 hlP9
       clear hc
       have hq : 1 ≤ h.a1 ∧ h.a1 ≤ 8 := by have h1 := HOK.out.a1; have h2 := beq_iff_eq.1 HT1.out; omega
       obtain ⟨hq1, hq2⟩ := hq
       have c8 := (HT.out _ HG.out.2.1).1.cell 8
       simp [hdV] at c8
       go_wp2_with fail
       refine (ue2I (x := h.a1 - 1) (by omega) (by omega) _).mono ?_
       rintro e wc ⟨vd, rfl, hvd, hbd⟩
       clear c8
       go_wp2_with (at_builtin; refine wpList_app rfl _ _ rfl base v _ vd (B8) (ueL (h.a1 - 1).toNat) rfl rfl HG.out (Nat.le_trans HBS.out HG.out.2.1.size) hbd hvd (by omega) ?_; intro v9 w9 hG)
       rw [← HB9.out] at hG
       replace HG := Lib.hid hG
       clear hG hvd hbd
       go_meet
       exact HG.out
     case rest => as_aux_lemma =>
      replace HG := Lib.hid hcut
      clear hcut hlP9 hlB8
      have ht := HN2.out
      have c2 := (HT.out _ HG.out.2.1).1.cell 2
      simp [hdV] at c2
      go_upto_if 91 with fail
      clear c2 ht
      obtain ⟨B10, hB10⟩ : ∃ X, X = B9 ++ (if h.type ≠ 2 then mdsL h.m0 else []) := ⟨_, rfl⟩
      have hlP10 : (if h.type ≠ 2 then mdsL h.m0 else []).length ≤ 3000 := ite_le (mdsL_le HOK.out.m0) (by simp)
      have hlB10 : B10.length ≤ 4489 := by rw [hB10, List.length_append]; omega
      have HB10 := Lib.hid hB10
      clear hB10
      go_cut [0] (fun s_ wx => BGrow w4 base v B10 s_ wx)
      case first => as_aux_lemma =>
       cases n2
       ·have e : B10 = B9 := by rw [HB10.out, if_neg (fun q => q (bne_ff.1 HN2.out)), List.append_nil]
        rw [← e] at HG
        clear e
        go_wp2_with fail
        go_meet
        exact HG.out
       ·skip
        have hc := bne_tt.1 HN2.out
        rw [if_pos hc] at HB10 hlP10
        clear hc
        have c9 := (HT.out _ HG.out.2.1).1.cell 9
        simp [hdV] at c9
        go_wp2_with fail
        refine (putmds2_any h.m0 q.m0 q.cm0 base _ _ _ HG.out.1 (Nat.le_trans HBS.out HG.out.2.1.size) (by omega) (HW.out _ _ _ HG.out).m0 HOK.out.m0).mono ?_
        rintro e wd ⟨v9, rfl, hG⟩
        replace HG := Lib.hid (BGrow.trans HG.out hG)
        rw [← HB10.out] at HG
        clear hG c9
        go_wp2_with fail
        go_meet
        exact HG.out
      case rest => as_aux_lemma =>
       replace HG := Lib.hid hcut
       clear hcut hlP10 hlB9
       have ht := HT1.out
       have c2 := (HT.out _ HG.out.2.1).1.cell 2
       simp [hdV] at c2
       go_upto_if 98 with fail
       clear c2 ht
       obtain ⟨B11, hB11⟩ : ∃ X, X = B10 ++ (if h.type = 1 then mdsL h.m1 else []) := ⟨_, rfl⟩
       have hlP11 : (if h.type = 1 then mdsL h.m1 else []).length ≤ 3000 := ite_le (mdsL_le HOK.out.m1) (by simp)
       have hlB11 : B11.length ≤ 7489 := by rw [hB11, List.length_append]; omega
       have HB11 := Lib.hid hB11
       clear hB11
       go_cut [0] (fun s_ wx => BGrow w4 base v B11 s_ wx)
       case first => as_aux_lemma =>
        cases t1
        ·have e : B11 = B10 := by rw [HB11.out, if_neg (beq_eq_false_iff_ne.1 HT1.out), List.append_nil]
         rw [← e] at HG
         clear e
         go_wp2_with fail
         go_meet
         exact HG.out
        ·skip
         have hc := beq_iff_eq.1 HT1.out
         rw [if_pos hc] at HB11 hlP11
         clear hc
         have c10 := (HT.out _ HG.out.2.1).1.cell 10
         simp [hdV] at c10
         go_wp2_with fail
         refine (putmds2_any h.m1 q.m1 q.cm1 base _ _ _ HG.out.1 (Nat.le_trans HBS.out HG.out.2.1.size) (by omega) (HW.out _ _ _ HG.out).m1 HOK.out.m1).mono ?_
         rintro e wd ⟨v9, rfl, hG⟩
         replace HG := Lib.hid (BGrow.trans HG.out hG)
         rw [← HB11.out] at HG
         clear hG c10
         go_wp2_with fail
         go_meet
         exact HG.out
       case rest => as_aux_lemma =>
        replace HG := Lib.hid hcut
        clear hcut hlP11 hlB10
        obtain ⟨wg, hwg⟩ : ∃ x, wgt h.type p = x := ⟨_, rfl⟩
        have HWG := Lib.hid hwg
        have DW := Lib.hid (fun w => hwg ▸ wgt2_any h.type p w)
        clear hwg
        have c2 := (HT.out _ HG.out.2.1).1.cell 2
        simp [hdV] at c2
        go_wp2_with (refine wpList_load_rowG (by rfl) _ _ rfl (w.heap.size + 1 + 1) rfl _ _ (0, 0) _ (HT.out _ HG.out.2.1).2.2 Tryz.underlying31 rfl (by kernel_rfl) ?_)
        refine (DW.out _).mono ?_
        rintro e wg_ ⟨rfl, hbg⟩
        replace HG := Lib.hid (HG.out.go hbg)
        clear hbg c2 DW
        go_upto_if 106 with fail
        have hWL : (if wgt h.type p = true then ueL h.log.toNat ++ (ueL h.logC.toNat ++ (wtsL h.w0 ++ wtsL h.w1)) else []).length ≤ 7000 := by
         by_cases hw : wgt h.type p = true
         ·rw [if_pos hw]
          obtain ⟨w1, w2, w3, w4⟩ := HOK.out.wy hw
          have h0 := HOK.out.a0
          have h1 := HOK.out.a1
          have c1 := ue_le (x := h.log) (by omega)
          have c2 := ue_le (x := h.logC) (by omega)
          have c3 := wtsL_le w3 (by omega)
          have c4 := wtsL_le w4 (by omega)
          simp only [List.length_append]
          omega
         ·rw [if_neg hw]; simp
        obtain ⟨B12, hB12⟩ : ∃ X, X = B11 ++ (if wgt h.type p = true then ueL h.log.toNat ++ (ueL h.logC.toNat ++ (wtsL h.w0 ++ wtsL h.w1)) else []) := ⟨_, rfl⟩
        have hlP12 : (if wgt h.type p = true then ueL h.log.toNat ++ (ueL h.logC.toNat ++ (wtsL h.w0 ++ wtsL h.w1)) else []).length ≤ 7000 := hWL
        have hlB12 : B12.length ≤ 14489 := by rw [hB12, List.length_append]; omega
        have HB12 := Lib.hid hB12
        clear hB12
        go_cut [0] (fun s_ wx => BGrow w4 base v B12 s_ wx)
        case first => as_aux_lemma =>
         cases wg
         ·have e : B12 = B11 := by rw [HB12.out, if_neg (by rw [HWG.out]; simp), List.append_nil]
          rw [← e] at HG
          clear e
          go_wp2_with fail
          go_meet
          exact HG.out
         ·skip
          rw [if_pos HWG.out] at HB12 hlP12
          obtain ⟨q1, q2, q3, q4⟩ := HOK.out.wy HWG.out
          have h0 := HOK.out.a0
          have h1 := HOK.out.a1
          have hl0 : h.w0.length ≤ 16 := HOK.out.lens.2.2.1
          have hl1 : h.w1.length ≤ 16 := HOK.out.lens.2.2.2.1
          have HQ := Lib.hid (And.intro q1 q2)
          have HQ3 := Lib.hid q3
          have HQ4 := Lib.hid q4
          have lg := ue_le (x := h.log) (by omega)
          have lgc := ue_le (x := h.logC) (by omega)
          have lw0 := wtsL_le q3 (by omega)
          clear q1 q2 q3 q4 h0 h1
          have c11 := (HT.out _ HG.out.2.1).1.cell 11
          simp [hdV] at c11
          go_wp2_with fail
          refine (ue2I (x := h.log) HQ.out.1.1 (by have := HQ.out; omega) _).mono ?_
          rintro e wc ⟨vd, rfl, hvd, hbd⟩
          clear c11
          go_upto_region 23 with (at_builtin; refine wpList_app rfl _ _ rfl base v _ vd (B11) (ueL h.log.toNat) rfl rfl HG.out (Nat.le_trans HBS.out HG.out.2.1.size) hbd hvd (by omega) ?_; intro v9 w9 hG)
          replace HG := Lib.hid hG
          clear hG hvd hbd
          have c12 := (HT.out _ HG.out.2.1).1.cell 12
          simp [hdV] at c12
          go_wp2_with fail
          refine (ue2I (x := h.logC) HQ.out.2.1 (by have := HQ.out; omega) _).mono ?_
          rintro e wc ⟨vd, rfl, hvd, hbd⟩
          clear c12
          go_upto_region 24 with (at_builtin; refine wpList_app rfl _ _ rfl base v _ vd (B11 ++ ueL h.log.toNat) (ueL h.logC.toNat) rfl rfl HG.out (Nat.le_trans HBS.out HG.out.2.1.size) hbd hvd (by simp only [List.length_append]; omega) ?_; intro v9 w9 hG)
          replace HG := Lib.hid hG
          clear hG hvd hbd
          have c13 := (HT.out _ HG.out.2.1).1.cell 13
          simp [hdV] at c13
          go_wp2_with fail
          refine (putwts2_any h.w0 q.w0 q.cw0 base _ (B11 ++ ueL h.log.toNat ++ ueL h.logC.toNat) _ HG.out.1 (Nat.le_trans HBS.out HG.out.2.1.size) (by simp only [List.length_append]; omega) (HW.out _ _ _ HG.out).w0 HQ3.out (by omega)).mono ?_
          rintro e wd0 ⟨v9, rfl, hG⟩
          replace HG := Lib.hid (BGrow.trans HG.out hG)
          clear hG c13
          go_upto_region 25 with fail
          have c14 := (HT.out _ HG.out.2.1).1.cell 14
          simp [hdV] at c14
          go_wp2_with fail
          refine (putwts2_any h.w1 q.w1 q.cw1 base _ (B11 ++ ueL h.log.toNat ++ ueL h.logC.toNat ++ wtsL h.w0) _ HG.out.1 (Nat.le_trans HBS.out HG.out.2.1.size) (by simp only [List.length_append]; omega) (HW.out _ _ _ HG.out).w1 HQ4.out (by omega)).mono ?_
          rintro e wd1 ⟨v9, rfl, hG⟩
          replace HG := Lib.hid (BGrow.trans HG.out hG)
          clear hG c14
          have e : B12 = B11 ++ ueL h.log.toNat ++ ueL h.logC.toNat ++ wtsL h.w0 ++ wtsL h.w1 := by rw [HB12.out]; simp only [List.append_assoc]
          rw [← e] at HG
          clear e
          go_wp2_with fail
          go_meet
          exact HG.out
        case rest => as_aux_lemma =>
         replace HG := Lib.hid hcut
         clear hcut hlP12 hlB11
         clear hWL
         obtain ⟨r0, hr0⟩ : ∃ x, decide (0 < ref) = x := ⟨_, rfl⟩
         go_upto_if 126 with fail
         have HR0 := Lib.hid hr0
         clear hr0
         obtain ⟨B13, hB13⟩ : ∃ X, X = B12 ++ (if 0 < ref then (if key = true then [h.longKey] else mosL h.ops) else []) := ⟨_, rfl⟩
         have hlP13 : (if 0 < ref then (if key = true then [h.longKey] else mosL h.ops) else []).length ≤ 3100 := ite_le (ite_le (by simp) (mosL_le HOK.out.ops)) (by simp)
         have hlB13 : B13.length ≤ 17589 := by rw [hB13, List.length_append]; omega
         have HB13 := Lib.hid hB13
         clear hB13
         go_cut [0] (fun s_ wx => BGrow w4 base v B13 s_ wx)
         case first => as_aux_lemma =>
          cases r0
          ·have e : B13 = B12 := by rw [HB13.out, if_neg (of_decide_eq_false HR0.out), List.append_nil]
           rw [← e] at HG
           clear e
           go_wp2_with fail
           go_meet
           exact HG.out
          ·skip
           rw [if_pos (of_decide_eq_true HR0.out)] at HB13 hlP13
           go_wp2_with (refine wpList_load_rowG (by rfl) _ _ rfl w.heap.size rfl _ _ (0, 0) _ (HT.out _ HG.out.2.1).1 Tryz.underlying26 rfl (by kernel_rfl) ?_)
           refine (putmarks2_any h q key base _ _ _ HG.out.1 (Nat.le_trans HBS.out HG.out.2.1.size) (by omega) (HW.out _ _ _ HG.out).ops HOK.out.ops).mono ?_
           rintro e wd ⟨v9, rfl, hG⟩
           replace HG := Lib.hid (BGrow.trans HG.out hG)
           rw [← HB13.out] at HG
           clear hG
           go_wp2_with fail
           go_meet
           exact HG.out
         case rest => as_aux_lemma =>
          replace HG := Lib.hid hcut
          clear hcut hlP13 hlB12
          obtain ⟨B14, hB14⟩ : ∃ X, X = B13 ++ (ueL h.qp.toNat) := ⟨_, rfl⟩
          have hlP14 : (ueL h.qp.toNat).length ≤ 61 := ue_le (by have := HOK.out.qp; omega)
          have hlB14 : B14.length ≤ 17650 := by rw [hB14, List.length_append]; omega
          have HB14 := Lib.hid hB14
          clear hB14
          have c17 := (HT.out _ HG.out.2.1).1.cell 17
          simp [hdV] at c17
          go_wp2_with fail
          refine (ue2I (x := h.qp) (by have := HOK.out.qp; omega) (by have := HOK.out.qp; omega) _).mono ?_
          rintro e wc ⟨vd, rfl, hvd, hbd⟩
          clear c17
          go_upto_region 29 with (at_builtin; refine wpList_app rfl _ _ rfl base v _ vd (B13) (ueL h.qp.toNat) rfl rfl HG.out (Nat.le_trans HBS.out HG.out.2.1.size) hbd hvd (by omega) ?_; intro v9 w9 hG)
          rw [← HB14.out] at hG
          replace HG := Lib.hid hG
          clear hG hvd hbd hlP14 hlB13
          obtain ⟨db, hdb⟩ : ∃ x, p.deb = x := ⟨_, rfl⟩
          have g6 := (HT.out _ HG.out.2.1).2.2.cell 6
          simp [ppV] at g6
          rw [hdb] at g6
          go_upto_if 137 with fail
          clear g6
          have HDB := Lib.hid hdb
          clear hdb
          have hOL : (if h.off = true then [] else seL h.a ++ seL h.b).length ≤ 122 := by
           refine ite_le (by simp) ?_
           have h1 := HOK.out.oa
           have h2 := HOK.out.ob
           have d1 := seL_le (x := h.a) (by omega) (by omega)
           have d2 := seL_le (x := h.b) (by omega) (by omega)
           rw [List.length_append]
           omega
          obtain ⟨B15, hB15⟩ : ∃ X, X = B14 ++ (if p.deb = true then [h.off] ++ (if h.off = true then [] else seL h.a ++ seL h.b) else []) := ⟨_, rfl⟩
          have hlP15 : (if p.deb = true then [h.off] ++ (if h.off = true then [] else seL h.a ++ seL h.b) else []).length ≤ 200 := ite_le (by rw [List.length_append, List.length_singleton]; omega) (by simp)
          have hlB15 : B15.length ≤ 17850 := by rw [hB15, List.length_append]; omega
          have HB15 := Lib.hid hB15
          clear hB15
          go_cut [0] (fun s_ wx => BGrow w4 base v B15 s_ wx)
          case first => as_aux_lemma =>
           cases db
           ·have e : B15 = B14 := by rw [HB15.out, if_neg (by rw [HDB.out]; simp), List.append_nil]
            rw [← e] at HG
            clear e
            go_wp2_with fail
            go_meet
            exact HG.out
           ·skip
            rw [if_pos HDB.out] at HB15 hlP15
            obtain ⟨of, hof⟩ : ∃ x, h.off = x := ⟨_, rfl⟩
            have c18 := (HT.out _ HG.out.2.1).1.cell 18
            simp [hdV] at c18
            rw [hof] at c18
            have HV := Lib.hid hof
            clear hof
            obtain ⟨wz, hwz⟩ : ∃ x, x = w9 := ⟨_, rfl⟩
            rw [← hwz] at HG c18 ⊢
            clear hwz
            have hu := bu_u8 of
            have HOB := Lib.hid (own_bit wz of)
            have HBB : Hid (Below wz.heap.size wz (wz.alloc (.cells #[.int .u8 (bu of)] 5))) := Lib.hid ((Below.refl _ _).alloc (Nat.le_refl _) _)
            go_upto_region 31 with (first | (go_at_call 34; refine (flag2_any _ _).mono ?_; rintro e w' ⟨rfl, rfl⟩) | (at_builtin; refine wpList_app rfl _ _ rfl base v _ (.slice (some ⟨wz.heap.size, 0, none⟩) 1 1) (B14) [of] rfl rfl HG.out (Nat.le_trans HBS.out HG.out.2.1.size) HBB.out HOB.out (by show _ + 1 ≤ _; omega) ?_; intro v9 w9 hG))
            replace HG := Lib.hid hG
            clear hG HOB HBB c18 hu
            have c18 := (HT.out _ HG.out.2.1).1.cell 18
            simp [hdV] at c18
            rw [HV.out] at c18
            rw [HV.out] at HB15 hOL
            cases of
            ·skip
             clear hOL
             have hoa := HOK.out.oa
             have hob := HOK.out.ob
             have la := seL_le (x := h.a) (by omega) (by omega)
             have lb := seL_le (x := h.b) (by omega) (by omega)
             have HAB := Lib.hid (And.intro hoa hob)
             clear hoa hob
             have c19 := (HT.out _ HG.out.2.1).1.cell 19
             simp [hdV] at c19
             go_wp2_with fail
             refine (se2_any h.a _ (by have := HAB.out; omega)).mono ?_
             rintro e wc ⟨vd, rfl, hvd, hbd⟩
             clear c18 c19
             go_upto_region 33 with (at_builtin; refine wpList_app rfl _ _ rfl base v _ vd (B14 ++ [false]) (seL h.a) rfl rfl HG.out (Nat.le_trans HBS.out HG.out.2.1.size) hbd hvd (by simp only [List.length_append, List.length_cons, List.length_nil]; omega) ?_; intro v9 w9 hG)
             replace HG := Lib.hid hG
             clear hG hvd hbd
             have c20 := (HT.out _ HG.out.2.1).1.cell 20
             simp [hdV] at c20
             go_wp2_with fail
             refine (se2_any h.b _ (by have := HAB.out; omega)).mono ?_
             rintro e wc ⟨vd, rfl, hvd, hbd⟩
             clear c20
             go_wp2_with (at_builtin; refine wpList_app rfl _ _ rfl base v _ vd (B14 ++ [false] ++ seL h.a) (seL h.b) rfl rfl HG.out (Nat.le_trans HBS.out HG.out.2.1.size) hbd hvd (by simp only [List.length_append, List.length_cons, List.length_nil]; omega) ?_; intro v9 w9 hG)
             have e : B15 = B14 ++ [false] ++ seL h.a ++ seL h.b := by rw [HB15.out, if_neg (by simp)]; simp only [List.append_assoc]
             rw [← e] at hG
             replace HG := Lib.hid hG
             clear hG hvd hbd e
             go_meet
             exact HG.out
            ·skip
             have e : B15 = B14 ++ [true] := by rw [HB15.out, if_pos rfl, List.append_nil]
             rw [← e] at HG
             clear e
             go_wp2_with fail
             go_meet
             exact HG.out
          case rest => as_aux_lemma =>
           replace HG := Lib.hid hcut
           clear hcut hlP15 hlB14
           have e : B15 = b ++ hdL h s p ref key := by
            rw [HB15.out, HB14.out, HB13.out, HB12.out, HB11.out, HB10.out, HB9.out, HB8.out, HB7.out, HB6.out, HB5.out, HB4.out, HB3.out, HB2.out, HB1.out, HB0.out]
            unfold hdL hdL1 hdL2 hdL3
            simp only [List.append_assoc]
           rw [e] at HG
           have HF := Lib.hid (BGrow.trans HG0.out HG.out)
           clear e
           go_wp2_with fail
           go_ret2
           exact ⟨_, rfl, HF.out⟩
end Go.Proofs.YtjokibagciehlaaGreat

namespace Go.Proofs.YtjokibagciehlaaGreat
open Go.RowKit
set_option linter.unusedVariables false
set_option linter.unusedSimpArgs false

attribute [local go_sem] and_15

theorem md_in {n : Nat} {V : Nat → Nat → Value} {zk zv : Nat → Int} (h0 : ∀ k, k < n → V k 0 = .int .i64 (zk k)) (h1 : ∀ k, k < n → V k 1 = .int .i64 (zv k)) : ∀ k, k < n → ∀ j, j < 2 → V k j = mdF ⟨zk k, zv k⟩ j := fun k hk j hj => by
 rcases (by omega : j = 0 ∨ j = 1) with rfl | rfl
 ·exact h0 k hk
 ·exact h1 k hk
theorem mo_in {n : Nat} {V : Nat → Nat → Value} {zk za zb : Nat → Int} (h0 : ∀ k, k < n → V k 0 = .int .i64 (zk k)) (h1 : ∀ k, k < n → V k 1 = .int .i64 (za k)) (h2 : ∀ k, k < n → V k 2 = .int .i64 (zb k)) : ∀ k, k < n → ∀ j, j < 3 → V k j = moF ⟨zk k, za k, zb k⟩ j := fun k hk j hj => by
 rcases (by omega : j = 0 ∨ j = 1 ∨ j = 2) with rfl | rfl | rfl
 ·exact h0 k hk
 ·exact h1 k hk
 ·exact h2 k hk
theorem wt_in {n : Nat} {V : Nat → Nat → Value} {z0 z1 z2 z3 z4 z5 : Nat → Int} (h0 : ∀ k, k < n → V k 0 = .int .i64 (z0 k)) (h1 : ∀ k, k < n → V k 1 = .int .i64 (z1 k)) (h2 : ∀ k, k < n → V k 2 = .int .i64 (z2 k)) (h3 : ∀ k, k < n → V k 3 = .int .i64 (z3 k)) (h4 : ∀ k, k < n → V k 4 = .int .i64 (z4 k)) (h5 : ∀ k, k < n → V k 5 = .int .i64 (z5 k)) :
  ∀ k, k < n → ∀ j, j < 6 → V k j = wtF ⟨z0 k, z1 k, z2 k, z3 k, z4 k, z5 k⟩ j := fun k hk j hj => by
 rcases (by omega : j = 0 ∨ j = 1 ∨ j = 2 ∨ j = 3 ∨ j = 4 ∨ j = 5) with rfl | rfl | rfl | rfl | rfl | rfl
 ·exact h0 k hk
 ·exact h1 k hk
 ·exact h2 k hk
 ·exact h3 k hk
 ·exact h4 k hk
 ·exact h5 k hk
theorem SpAt.arg {w : World} {A : Option Addr} {n : Nat} {z : Nat → Int} {p : Sp} (h : Ri w w.heap.size A n z) (hp : p.cy = (List.range n).map z) : SpAt w w.heap.size p A := by
 unfold SpAt
 rw [hp]
 have e : ((List.range n).map z).length = n := by simp
 rw [e]
 exact Rd.congr h fun k hk => by simp [hk]

/-- what has been done in the region that puts the document's bits -/
structure PF (B0 : Nat) (K : Int) (h : Hd) (q : Ha) (s : Sp) (A : Option Addr) (c : Nat) (p : Pp) (ref : Int) (key : Bool) (b1 X : List Bool) (E : Int) (L : Array Bool) (a : Act) (w : World) (v1 v2 : Value) : Prop where
 f0 : L.getD 0 false = true → a.eval (.tmp 36) = .int .i64 K
 f1 : L.getD 1 false = true → a.eval (.tmp 37) = .int .i64 (K + 1)
 f2 : L.getD 2 false = true → a.eval (.tmp 38) = v1
 f3 : L.getD 3 false = true → a.eval (.tmp 39) = .agg (hdV h q)
 f4 : L.getD 4 false = true → a.eval (.tmp 40) = .agg (spV s A c)
 f5 : L.getD 5 false = true → a.eval (.tmp 41) = .agg (ppV p)
 f6 : L.getD 6 false = true → a.eval (.tmp 42) = .int .i64 ref
 f7 : L.getD 7 false = true → a.eval (.tmp 43) = .bool key
 f8 : L.getD 8 false = true → a.eval (.tmp 44) = .tuple #[v2, .int .i64 E]
 f9 : L.getD 9 false = true → a.eval (.tmp 35) = .tuple #[v2, .int .i64 E]
 f10 : L.getD 10 false = true → a.eval (.tmp 45) = v2
 f11 : L.getD 11 false = true → a.eval (.tmp 46) = .int .i64 E
 f12 : L.getD 12 false = true → a.eval (.tmp 17) = v2
 f13 : L.getD 13 false = true → a.eval (.tmp 18) = .int .i64 E
 r2 : L.getD 2 false = true → L.getD 8 false = false → w.ownsRow B0 5 1 v1 b1.length (bitsV b1)
 r8 : L.getD 8 false = true → w.ownsRow B0 5 1 v2 X.length (bitsV X)
 c9 : L.getD 9 false = true → L.getD 8 false = true
 c10 : L.getD 10 false = true → L.getD 8 false = true
 c11 : L.getD 11 false = true → L.getD 8 false = true
 c12 : L.getD 12 false = true → L.getD 8 false = true
 c13 : L.getD 13 false = true → L.getD 8 false = true
def PI (w6 : World) (K : Int) (h : Hd) (q : Ha) (s : Sp) (A : Option Addr) (c : Nat) (p : Pp) (ref : Int) (key : Bool) (b1 X : List Bool) (E : Int) (a0 : Act) (L : Array Bool) (a : Act) (w : World) : Prop :=
 a.defers = [] ∧ a.tmps.size = 88 ∧ (∀ t, t ∉ [17, 18, 35, 36, 37, 38, 39, 40, 41, 42, 43, 44, 45, 46] → a.eval (.tmp t) = a0.eval (.tmp t)) ∧ Below w6.heap.size w6 w ∧ ∃ v1 v2, PF w6.heap.size K h q s A c p ref key b1 X E L a w v1 v2
theorem run_addk {ρ : Operand → Value} {w : World} {o : Oper} {x : Operand} {K : Int} (ho : o.op = .binOp .add 3 x (.const (.int .i64 1)) 3) (hx : ρ x = .int .i64 K) (h1 : ρ (.const (.int .i64 1)) = .int .i64 1) (h0 : 0 ≤ K) (h15 : K ≤ 15) : (execOp ρ o).run Tryz.prog w = .ok (.value (.int .i64 (K + 1))) w := by
 simp only [execOp, ho, hx, h1]
 have e : IntKind.i64.wrap (K + 1) = K + 1 := IntWalk.i64_in _ (by omega)
 go_simp
theorem en_digits {a : Act} {w : World} {t : Nat} {v : Value} {o : Oper} {ts : Array TypeId} (q : o.op = .call { callee := .value (.func 10), args := #[.const (.int .i64 1), .tmp t], argTypes := ts }) (ha : a.eval (.tmp t) = v) :
  (execOp a.eval o).run Tryz.prog w = .ok (.enter 10 #[.int .i64 1, v]) w := by
 have hc : a.eval (.const (.int .i64 1)) = .int .i64 1 := rfl
 simp only [execOp, q, resolve, List.map_toArray, List.map_cons, List.map_nil, ha, hc]
 go_simp
theorem en_put2 {a : Act} {w : World} {t0 t1 t2 t3 t4 t5 : Nat} {v0 v1 v2 v3 v4 v5 : Value} {o : Oper} {ts : Array TypeId} (q : o.op = .call { callee := .value (.func 9), args := #[.tmp t0, .tmp t1, .tmp t2, .tmp t3, .tmp t4, .tmp t5], argTypes := ts }) (h0 : a.eval (.tmp t0) = v0) (h1 : a.eval (.tmp t1) = v1) (h2 : a.eval (.tmp t2) = v2) (h3 : a.eval (.tmp t3) = v3) (h4 : a.eval (.tmp t4) = v4) (h5 : a.eval (.tmp t5) = v5) :
  (execOp a.eval o).run Tryz.prog w = .ok (.enter 9 #[v0, v1, v2, v3, v4, v5]) w := by
 simp only [execOp, q, resolve, List.map_toArray, List.map_cons, List.map_nil, h0, h1, h2, h3, h4, h5]
 go_simp
section
variable {w : World} (h : Hd) (q : Ha) (s : Sp) (A : Option Addr) (c : Nat) (p : Pp) (ref : Int) (key : Bool) (ahead : Int) (H : HdAt w w.heap.size h q) (L : HdLen h) (G : HdGive h q) (hsp : SpAt w w.heap.size s A) (hn : s.cy.length ≤ 1152921504606846976)
include H L G hsp hn
set_option maxRecDepth 100000 in
set_option maxHeartbeats 25600000 in
theorem puts_all (M : Bool) (hM : mayHd h s p ref key = M) :
  Calls Tryz.prog 3 #[.agg (hdV h q), .agg (spV s A c), .agg (ppV p), .int .i64 ref, .bool key, .int .i64 ahead] w fun e w' => e = .returned (.bool true) ∧ Below w.heap.size w w' := by
 obtain ⟨E, hE⟩ : ∃ E : Int, E = if M = true then 0 else 401 := ⟨_, rfl⟩
 have hK0 := Int.emod_nonneg ahead (show (16 : Int) ≠ 0 by decide)
 have hK1 := Int.emod_lt_of_pos ahead (show (0 : Int) < 16 by decide)
 obtain ⟨K, hK⟩ : ∃ K, ahead % 16 = K := ⟨_, rfl⟩
 rw [hK] at hK0 hK1
 obtain ⟨b1, hb1⟩ : ∃ b, b = dig (1 : Int).toNat (K + 1).toNat := ⟨_, rfl⟩
 have hb1l : b1.length ≤ 16 := by rw [hb1, dig_len]; omega
 obtain ⟨X, hX⟩ : ∃ X, X = if M = true then b1 ++ hdL h s p ref key else b1 := ⟨_, rfl⟩
 have hXl : X.length ≤ 50000 := by
  rw [hX]
  split
  ·rename_i hm
   have := hdL_len (mayHd_iff (hM.trans hm))
   rw [List.length_append]
   omega
  ·omega
 -- the program's Put, whatever may be
 have HPW := Lib.hid (fun (w3 : World) (q' : Ha) (wa : World) (g : Nat) (v : Value) (Mx : Nat) (hst : WStep wa w3 g v b1 Mx) (H' : HdAt w3 w3.heap.size h q') (hs' : SpAt w3 w3.heap.size s A) (away : ∀ A, A = q'.m0 ∨ A = q'.m1 ∨ A = q'.w0 ∨ A = q'.w1 ∨ A = q'.ops → ∀ ad, A = some ad → ad.block < wa.heap.size) =>
  (show Calls Tryz.prog 8 #[.pointer (some ⟨g, 0, none⟩), .agg (hdV h q'), .agg (spV s A c), .agg (ppV p), .int .i64 ref, .bool key] w3 fun e w' => e = .returned (.int .i64 E) ∧ ∃ v', WStep wa w' g v' X 60000 by
   have hX' := hX
   rw [hX', hE]
   cases M
   ·rw [if_neg (by simp), if_neg (by simp)]
    exact (put_no h q' s A c p ref key H' L hs' hn _ hM).mono fun e w' q1 => ⟨q1.1, v, ⟨(hst.go q1.2).1, (hst.go q1.2).2.1, (hst.go q1.2).2.2.1, by omega⟩⟩
   ·rw [if_pos rfl, if_pos rfl]
    rw [if_pos rfl] at hX
    refine (put_yes h q' s A c p ref key H' L hs' hn wa.heap.size v b1 hst.1 hst.size (by omega) hM (fun A hA ad e => ?_)).mono fun e w' q1 => ⟨q1.1, hst.put q1.2 (M' := 60000) (by rw [← hX]; omega)⟩
    have hlt := away A hA ad e
    exact ⟨fun hw => by have := Wr.ws hst.1 hst.2.1 hw; omega, Nat.lt_of_lt_of_le hlt hst.2.2.1.size⟩))
 have HP2 := Lib.hid (fun (w3 : World) (base : Nat) (v : Value) (ho : w3.ownsRow base 5 1 v b1.length (bitsV b1)) (hbs : base ≤ w3.heap.size) (H' : HdAt w3 base h q) (hs' : SpAt w3 base s A) =>
  (show Calls Tryz.prog 9 #[v, .agg (hdV h q), .agg (spV s A c), .agg (ppV p), .int .i64 ref, .bool key] w3 fun e w' => ∃ v', e = .returned (.tuple #[v', .int .i64 E]) ∧ BGrow w3 base v X v' w' by
   rw [hX, hE]
   cases M
   ·rw [if_neg (by simp), if_neg (by simp)]
    exact (put2_no base v b1 w3 h q s A c p ref key ho hbs (by omega) H' L hs' hn hM).mono fun e w' q1 => ⟨v, q1.1, q1.2⟩
   ·rw [if_pos rfl, if_pos rfl]
    exact put2_yes base v b1 w3 h q s A c p ref key ho hbs (by omega) H' L hs' hn hM))
 have HMY := Lib.hid (fun (w3 : World) (q' : Ha) (H' : HdAt w3 w3.heap.size h q') (hs' : SpAt w3 w3.heap.size s A) => hM ▸ mayhd_any h q' s A c p ref key w3 H' L hs' hn)
 have HM2 := Lib.hid (fun (w3 : World) (H' : HdAt w3 w3.heap.size h q) (hs' : SpAt w3 w3.heap.size s A) => hM ▸ may2_any h q s A c p ref key w3 H' L hs' hn)
 have HKP := Lib.hid (fun (w3 : World) (q' : Ha) (B : Nat) (H1 : LentH w3 B h q') (H' : HdAt w3 w3.heap.size h q) => kepthd_yes h q' q B w3 H1 H' L)
 have HLE := Lib.hid (fun (w3 : World) (H' : HdAt w3 w3.heap.size h q) => lendhd_any h q w3 H' G)
 have HH := Lib.hid H
 have HS := Lib.hid hsp
 have HX := Lib.hid (Bx.new w h q s A c p)
 have HKK := Lib.hid hK
 have HB1 := Lib.hid hb1
 clear H L G hsp hn hM hE hX hb1 hK
 obtain ⟨w3, hw3⟩ : ∃ w3, w3 = (((w.alloc (.cells (hdV h q) 26)).alloc (.cells (spV s A c) 29)).alloc (.cells (ppV p) 31)) := ⟨_, rfl⟩
 rw [← hw3] at HX
 simp only [hdV, spV, ppV] at hw3 ⊢
 go_enter Tryz.func3, Tryz.ntmps3
 go_upto_region 1 with fail
 rw [← hw3]
 clear hw3
 refine wp_region_lit ?_
 refine wpl_val rfl (run_load_row rfl rfl (load_head HX.out.k1)) ?_
 refine wpl_call rfl (f := 5) (args := #[.agg (hdV h q)]) (by kernel_rfl) ?_
 refine (HLE.out w3 (HH.out.go HX.out.below)).mono ?_
 rintro e w4 ⟨q', rfl, hL, hb⟩
 refine ⟨_, rfl, ?_⟩
 replace HX := Lib.hid (HX.out.go hb)
 have HL := Lib.hid hL
 clear hL hb HLE
 simp only [Act.put, List.setIfInBounds_toArray, List.set_cons_zero, List.set_cons_succ]
 refine wpl_val rfl (run_alloc_head _ _ _ rfl) ?_
 simp only [Act.put, List.setIfInBounds_toArray, List.set_cons_zero, List.set_cons_succ]
 refine wpList_store_row rfl _ _ _ rfl w4.heap.size (hdV h q') rfl rfl _ _ (Bk.new w4 _ _) (by kernel_rfl) rfl (hd_one _ _) ?_
 obtain ⟨wa, hwa⟩ : ∃ w8, (w4.alloc (.cells (hdV Hd.zero Ha.zero) 26)).setRow w4.heap.size (hdV h q') = w8 := ⟨_, rfl⟩
 have hb8 : Below w4.heap.size w4 wa := hwa ▸ (touch_setRow (Touch.of_new (S := fun _ => False) ((Below.refl _ _).alloc (Nat.le_refl _) _)) _ _ (by omega)).below (fun _ h => h.elim) (Nat.le_refl _)
 have KX := Lib.hid ((hwa ▸ bk_setRow (Bk.new w4 _ _)) : Bk wa w4.heap.size 26 (hdV h q'))
 rw [hwa]
 replace HX := Lib.hid (HX.out.go hb8)
 replace HL := Lib.hid (HL.out.go hb8)
 obtain ⟨bX, hbX⟩ : ∃ b, w4.heap.size = b := ⟨_, rfl⟩
 rw [hbX] at KX ⊢
 clear hb8 hwa hbX
 go_wp2_with fail
 refine (st_new wa).mono ?_
 rintro e wn ⟨rfl, hst⟩
 have HXA := HX
 have HLA := HL
 have KXA := KX
 have HW := Lib.hid hst
 obtain ⟨g, hg⟩ : ∃ g, wa.heap.size = g := ⟨_, rfl⟩
 rw [hg] at HW ⊢
 clear hst hg
 go_wp2_with fail
 have hkk := HKK.out
 rw [hkk]
 clear hkk
 have hpw : (1 : Int) < 2 ^ (K + 1).toNat := by
  have h3 : (2 : Nat) ^ 1 ≤ 2 ^ (K + 1).toNat := Nat.pow_le_pow_right (by decide) (by omega)
  have h4 : ((2 ^ (K + 1).toNat : Nat) : Int) = 2 ^ (K + 1).toNat := by simp
  omega
 ((with_reducible refine (st_bits HW.out (by omega) 1 (K + 1) (by omega) (by omega) (by omega) hpw).mono ?_))
 clear hpw
 rintro e w5 ⟨rfl, v5, hw⟩
 rw [List.nil_append, ← HB1.out] at hw
 have HW := Lib.hid hw
 replace HX := Lib.hid (HXA.out.go hw.2.2.1)
 replace HL := Lib.hid (HLA.out.go hw.2.2.1)
 clear hw
 go_upto_region 5 with fail
 have KX5 := Lib.hid (KXA.out.go HW.out.2.2.1)
 refine wp_region_lit ?_
 refine wpl_val rfl (run_move rfl rfl) ?_
 refine wpl_val rfl (run_load_row rfl rfl (load_head KX5.out)) ?_
 refine wpl_val rfl (run_load_row rfl rfl (load_sps HX.out.k2)) ?_
 refine wpl_val rfl (run_load_row rfl rfl (load_pps HX.out.k3)) ?_
 refine wpl_val rfl (run_move rfl rfl) ?_
 refine wpl_val rfl (run_move rfl rfl) ?_
 refine wpl_call rfl (f := 8) (args := #[.pointer (some ⟨g, 0, none⟩), .agg (hdV h q'), .agg (spV s A c), .agg (ppV p), .int .i64 ref, .bool key]) (by kernel_rfl) ?_
 refine (HPW.out w5 q' wa g v5 _ HW.out HL.out.hd (Rd.go HS.out HX.out.below) HLA.out.lt).mono ?_
 rintro e w6 ⟨rfl, v6, hw⟩
 refine ⟨_, rfl, ?_⟩
 have HW := Lib.hid hw
 replace HX := Lib.hid (HXA.out.go hw.2.2.1)
 replace HL := Lib.hid (HLA.out.go hw.2.2.1)
 have KX := Lib.hid (KXA.out.go hw.2.2.1)
 clear hw KX5 HPW
 go_upto_region 6 with fail
 clear KXA HLA HXA
 have HDI := Lib.hid (fun (wi : World) => (show Calls Tryz.prog 10 #[.int .i64 1, .int .i64 (K + 1)] wi (BRow wi b1) from HB1.out ▸ digI (x := 1) (n := K + 1) (by omega) (by omega) (by omega) (by omega) wi))
 have HK01 := Lib.hid (And.intro hK0 hK1)
 have HR6 := Lib.hid (And.intro (HH.out.go HX.out.below) (Rd.go HS.out HX.out.below : SpAt w6 w6.heap.size s A))
 refine wp_region_invA (by kernel_rfl) (PI w6 K h q s A c p ref key b1 X E) (down_of (by kernel_rfl)) ?_ ?_ ?_
 ·exact ⟨rfl, rfl, fun _ _ => rfl, (Below.refl _ _).drew, undef, undef, ⟨fun h => absurd h (by rw [getD_replicate_false]; simp), fun h => absurd h (by rw [getD_replicate_false]; simp), fun h => absurd h (by rw [getD_replicate_false]; simp), fun h => absurd h (by rw [getD_replicate_false]; simp), fun h => absurd h (by rw [getD_replicate_false]; simp), fun h => absurd h (by rw [getD_replicate_false]; simp), fun h => absurd h (by rw [getD_replicate_false]; simp), fun h => absurd h (by rw [getD_replicate_false]; simp), fun h => absurd h (by rw [getD_replicate_false]; simp), fun h => absurd h (by rw [getD_replicate_false]; simp), fun h => absurd h (by rw [getD_replicate_false]; simp), fun h => absurd h (by rw [getD_replicate_false]; simp), fun h => absurd h (by rw [getD_replicate_false]; simp), fun h => absurd h (by rw [getD_replicate_false]; simp), fun h => absurd h (by rw [getD_replicate_false]; simp), fun h => absurd h (by rw [getD_replicate_false]; simp), fun h => absurd h (by rw [getD_replicate_false]; simp), fun h => absurd h (by rw [getD_replicate_false]; simp), fun h => absurd h (by rw [getD_replicate_false]; simp), fun h => absurd h (by rw [getD_replicate_false]; simp), fun h => absurd h (by rw [getD_replicate_false]; simp)⟩⟩
 ·intro L a wi i o ho hs hu hd hI
  have hi : i < 14 := (Array.getElem?_eq_some_iff.1 ho).1
  have hL : L.size = 14 := hs
  obtain ⟨h0, h1, h2, h3, v1, v2, F⟩ := hI
  have hcs : i = 0 ∨ i = 1 ∨ i = 2 ∨ i = 3 ∨ i = 4 ∨ i = 5 ∨ i = 6 ∨ i = 7 ∨ i = 8 ∨ i = 9 ∨ i = 10 ∨ i = 11 ∨ i = 12 ∨ i = 13 := by omega
  have ho2 := ho
  rcases hcs with rfl | rfl | rfl | rfl | rfl | rfl | rfl | rfl | rfl | rfl | rfl | rfl | rfl | rfl
  ·simp at ho2
   subst ho2
   exact op_run ho rfl (run_move rfl (h2 15 (by decide))) ⟨h0, by rw [put_size]; exact h1, put_other (by omega) (by decide) h2, h3, v1, v2, ⟨newf (by omega), keepf F.f1 (by omega) (by omega) (by decide) (by decide), keepf F.f2 (by omega) (by omega) (by decide) (by decide), keepf F.f3 (by omega) (by omega) (by decide) (by decide), keepf F.f4 (by omega) (by omega) (by decide) (by decide), keepf F.f5 (by omega) (by omega) (by decide) (by decide), keepf F.f6 (by omega) (by omega) (by decide) (by decide), keepf F.f7 (by omega) (by omega) (by decide) (by decide), keepf F.f8 (by omega) (by omega) (by decide) (by decide), keepf F.f9 (by omega) (by omega) (by decide) (by decide), keepf F.f10 (by omega) (by omega) (by decide) (by decide), keepf F.f11 (by omega) (by omega) (by decide) (by decide), keepf F.f12 (by omega) (by omega) (by decide) (by decide), keepf F.f13 (by omega) (by omega) (by decide) (by decide), fun hl hm => F.r2 (other (by omega) (by decide) hl) (by rw [getD_done (by omega), if_neg (by decide)] at hm; exact hm), fun hl => F.r8 (other (by omega) (by decide) hl), fun hl => more (by omega) (F.c9 (other (by omega) (by decide) hl)), fun hl => more (by omega) (F.c10 (other (by omega) (by decide) hl)), fun hl => more (by omega) (F.c11 (other (by omega) (by decide) hl)), fun hl => more (by omega) (F.c12 (other (by omega) (by decide) hl)), fun hl => more (by omega) (F.c13 (other (by omega) (by decide) hl))⟩⟩
  ·simp at ho2
   subst ho2
   have p0 := hd ⟨0, .data⟩ (by simp) rfl
   exact op_run ho rfl (run_addk rfl (F.f0 p0) rfl HK01.out.1 (by have := HK01.out.2; omega)) ⟨h0, by rw [put_size]; exact h1, put_other (by omega) (by decide) h2, h3, v1, v2, ⟨keepf F.f0 (by omega) (by omega) (by decide) (by decide), newf (by omega), keepf F.f2 (by omega) (by omega) (by decide) (by decide), keepf F.f3 (by omega) (by omega) (by decide) (by decide), keepf F.f4 (by omega) (by omega) (by decide) (by decide), keepf F.f5 (by omega) (by omega) (by decide) (by decide), keepf F.f6 (by omega) (by omega) (by decide) (by decide), keepf F.f7 (by omega) (by omega) (by decide) (by decide), keepf F.f8 (by omega) (by omega) (by decide) (by decide), keepf F.f9 (by omega) (by omega) (by decide) (by decide), keepf F.f10 (by omega) (by omega) (by decide) (by decide), keepf F.f11 (by omega) (by omega) (by decide) (by decide), keepf F.f12 (by omega) (by omega) (by decide) (by decide), keepf F.f13 (by omega) (by omega) (by decide) (by decide), fun hl hm => F.r2 (other (by omega) (by decide) hl) (by rw [getD_done (by omega), if_neg (by decide)] at hm; exact hm), fun hl => F.r8 (other (by omega) (by decide) hl), fun hl => more (by omega) (F.c9 (other (by omega) (by decide) hl)), fun hl => more (by omega) (F.c10 (other (by omega) (by decide) hl)), fun hl => more (by omega) (F.c11 (other (by omega) (by decide) hl)), fun hl => more (by omega) (F.c12 (other (by omega) (by decide) hl)), fun hl => more (by omega) (F.c13 (other (by omega) (by decide) hl))⟩⟩
  ·simp at ho2
   subst ho2
   have p1 := hd ⟨1, .data⟩ (by simp) rfl
   refine wpOp_callE ho rfl (f := 10) (args := #[.int .i64 1, .int .i64 (K + 1)]) (en_digits rfl (F.f1 p1)) ?_
   refine (HDI.out wi).mono ?_
   rintro e w' ⟨v9, rfl, ho2, hb⟩
   exact ⟨_, rfl, ⟨h0, by rw [put_size]; exact h1, put_other (by omega) (by decide) h2, h3.trans (hb.mono h3.size), v9, v2, ⟨keepf F.f0 (by omega) (by omega) (by decide) (by decide), keepf F.f1 (by omega) (by omega) (by decide) (by decide), newf (by omega), keepf F.f3 (by omega) (by omega) (by decide) (by decide), keepf F.f4 (by omega) (by omega) (by decide) (by decide), keepf F.f5 (by omega) (by omega) (by decide) (by decide), keepf F.f6 (by omega) (by omega) (by decide) (by decide), keepf F.f7 (by omega) (by omega) (by decide) (by decide), keepf F.f8 (by omega) (by omega) (by decide) (by decide), keepf F.f9 (by omega) (by omega) (by decide) (by decide), keepf F.f10 (by omega) (by omega) (by decide) (by decide), keepf F.f11 (by omega) (by omega) (by decide) (by decide), keepf F.f12 (by omega) (by omega) (by decide) (by decide), keepf F.f13 (by omega) (by omega) (by decide) (by decide), fun _ _ => own_less ho2 h3.size, fun hl => own_go (F.r8 (other (by omega) (by decide) hl)) hb, fun hl => more (by omega) (F.c9 (other (by omega) (by decide) hl)), fun hl => more (by omega) (F.c10 (other (by omega) (by decide) hl)), fun hl => more (by omega) (F.c11 (other (by omega) (by decide) hl)), fun hl => more (by omega) (F.c12 (other (by omega) (by decide) hl)), fun hl => more (by omega) (F.c13 (other (by omega) (by decide) hl))⟩⟩⟩
  ·simp at ho2
   subst ho2
   exact op_run ho rfl (run_load_row rfl (h2 6 (by decide)) (load_head (HX.out.k1.go h3))) ⟨h0, by rw [put_size]; exact h1, put_other (by omega) (by decide) h2, h3, v1, v2, ⟨keepf F.f0 (by omega) (by omega) (by decide) (by decide), keepf F.f1 (by omega) (by omega) (by decide) (by decide), keepf F.f2 (by omega) (by omega) (by decide) (by decide), newf (by omega), keepf F.f4 (by omega) (by omega) (by decide) (by decide), keepf F.f5 (by omega) (by omega) (by decide) (by decide), keepf F.f6 (by omega) (by omega) (by decide) (by decide), keepf F.f7 (by omega) (by omega) (by decide) (by decide), keepf F.f8 (by omega) (by omega) (by decide) (by decide), keepf F.f9 (by omega) (by omega) (by decide) (by decide), keepf F.f10 (by omega) (by omega) (by decide) (by decide), keepf F.f11 (by omega) (by omega) (by decide) (by decide), keepf F.f12 (by omega) (by omega) (by decide) (by decide), keepf F.f13 (by omega) (by omega) (by decide) (by decide), fun hl hm => F.r2 (other (by omega) (by decide) hl) (by rw [getD_done (by omega), if_neg (by decide)] at hm; exact hm), fun hl => F.r8 (other (by omega) (by decide) hl), fun hl => more (by omega) (F.c9 (other (by omega) (by decide) hl)), fun hl => more (by omega) (F.c10 (other (by omega) (by decide) hl)), fun hl => more (by omega) (F.c11 (other (by omega) (by decide) hl)), fun hl => more (by omega) (F.c12 (other (by omega) (by decide) hl)), fun hl => more (by omega) (F.c13 (other (by omega) (by decide) hl))⟩⟩
  ·simp at ho2
   subst ho2
   exact op_run ho rfl (run_load_row rfl (h2 7 (by decide)) (load_sps (HX.out.k2.go h3))) ⟨h0, by rw [put_size]; exact h1, put_other (by omega) (by decide) h2, h3, v1, v2, ⟨keepf F.f0 (by omega) (by omega) (by decide) (by decide), keepf F.f1 (by omega) (by omega) (by decide) (by decide), keepf F.f2 (by omega) (by omega) (by decide) (by decide), keepf F.f3 (by omega) (by omega) (by decide) (by decide), newf (by omega), keepf F.f5 (by omega) (by omega) (by decide) (by decide), keepf F.f6 (by omega) (by omega) (by decide) (by decide), keepf F.f7 (by omega) (by omega) (by decide) (by decide), keepf F.f8 (by omega) (by omega) (by decide) (by decide), keepf F.f9 (by omega) (by omega) (by decide) (by decide), keepf F.f10 (by omega) (by omega) (by decide) (by decide), keepf F.f11 (by omega) (by omega) (by decide) (by decide), keepf F.f12 (by omega) (by omega) (by decide) (by decide), keepf F.f13 (by omega) (by omega) (by decide) (by decide), fun hl hm => F.r2 (other (by omega) (by decide) hl) (by rw [getD_done (by omega), if_neg (by decide)] at hm; exact hm), fun hl => F.r8 (other (by omega) (by decide) hl), fun hl => more (by omega) (F.c9 (other (by omega) (by decide) hl)), fun hl => more (by omega) (F.c10 (other (by omega) (by decide) hl)), fun hl => more (by omega) (F.c11 (other (by omega) (by decide) hl)), fun hl => more (by omega) (F.c12 (other (by omega) (by decide) hl)), fun hl => more (by omega) (F.c13 (other (by omega) (by decide) hl))⟩⟩
  ·simp at ho2
   subst ho2
   exact op_run ho rfl (run_load_row rfl (h2 8 (by decide)) (load_pps (HX.out.k3.go h3))) ⟨h0, by rw [put_size]; exact h1, put_other (by omega) (by decide) h2, h3, v1, v2, ⟨keepf F.f0 (by omega) (by omega) (by decide) (by decide), keepf F.f1 (by omega) (by omega) (by decide) (by decide), keepf F.f2 (by omega) (by omega) (by decide) (by decide), keepf F.f3 (by omega) (by omega) (by decide) (by decide), keepf F.f4 (by omega) (by omega) (by decide) (by decide), newf (by omega), keepf F.f6 (by omega) (by omega) (by decide) (by decide), keepf F.f7 (by omega) (by omega) (by decide) (by decide), keepf F.f8 (by omega) (by omega) (by decide) (by decide), keepf F.f9 (by omega) (by omega) (by decide) (by decide), keepf F.f10 (by omega) (by omega) (by decide) (by decide), keepf F.f11 (by omega) (by omega) (by decide) (by decide), keepf F.f12 (by omega) (by omega) (by decide) (by decide), keepf F.f13 (by omega) (by omega) (by decide) (by decide), fun hl hm => F.r2 (other (by omega) (by decide) hl) (by rw [getD_done (by omega), if_neg (by decide)] at hm; exact hm), fun hl => F.r8 (other (by omega) (by decide) hl), fun hl => more (by omega) (F.c9 (other (by omega) (by decide) hl)), fun hl => more (by omega) (F.c10 (other (by omega) (by decide) hl)), fun hl => more (by omega) (F.c11 (other (by omega) (by decide) hl)), fun hl => more (by omega) (F.c12 (other (by omega) (by decide) hl)), fun hl => more (by omega) (F.c13 (other (by omega) (by decide) hl))⟩⟩
  ·simp at ho2
   subst ho2
   exact op_run ho rfl (run_move rfl (h2 3 (by decide))) ⟨h0, by rw [put_size]; exact h1, put_other (by omega) (by decide) h2, h3, v1, v2, ⟨keepf F.f0 (by omega) (by omega) (by decide) (by decide), keepf F.f1 (by omega) (by omega) (by decide) (by decide), keepf F.f2 (by omega) (by omega) (by decide) (by decide), keepf F.f3 (by omega) (by omega) (by decide) (by decide), keepf F.f4 (by omega) (by omega) (by decide) (by decide), keepf F.f5 (by omega) (by omega) (by decide) (by decide), newf (by omega), keepf F.f7 (by omega) (by omega) (by decide) (by decide), keepf F.f8 (by omega) (by omega) (by decide) (by decide), keepf F.f9 (by omega) (by omega) (by decide) (by decide), keepf F.f10 (by omega) (by omega) (by decide) (by decide), keepf F.f11 (by omega) (by omega) (by decide) (by decide), keepf F.f12 (by omega) (by omega) (by decide) (by decide), keepf F.f13 (by omega) (by omega) (by decide) (by decide), fun hl hm => F.r2 (other (by omega) (by decide) hl) (by rw [getD_done (by omega), if_neg (by decide)] at hm; exact hm), fun hl => F.r8 (other (by omega) (by decide) hl), fun hl => more (by omega) (F.c9 (other (by omega) (by decide) hl)), fun hl => more (by omega) (F.c10 (other (by omega) (by decide) hl)), fun hl => more (by omega) (F.c11 (other (by omega) (by decide) hl)), fun hl => more (by omega) (F.c12 (other (by omega) (by decide) hl)), fun hl => more (by omega) (F.c13 (other (by omega) (by decide) hl))⟩⟩
  ·simp at ho2
   subst ho2
   exact op_run ho rfl (run_move rfl (h2 4 (by decide))) ⟨h0, by rw [put_size]; exact h1, put_other (by omega) (by decide) h2, h3, v1, v2, ⟨keepf F.f0 (by omega) (by omega) (by decide) (by decide), keepf F.f1 (by omega) (by omega) (by decide) (by decide), keepf F.f2 (by omega) (by omega) (by decide) (by decide), keepf F.f3 (by omega) (by omega) (by decide) (by decide), keepf F.f4 (by omega) (by omega) (by decide) (by decide), keepf F.f5 (by omega) (by omega) (by decide) (by decide), keepf F.f6 (by omega) (by omega) (by decide) (by decide), newf (by omega), keepf F.f8 (by omega) (by omega) (by decide) (by decide), keepf F.f9 (by omega) (by omega) (by decide) (by decide), keepf F.f10 (by omega) (by omega) (by decide) (by decide), keepf F.f11 (by omega) (by omega) (by decide) (by decide), keepf F.f12 (by omega) (by omega) (by decide) (by decide), keepf F.f13 (by omega) (by omega) (by decide) (by decide), fun hl hm => F.r2 (other (by omega) (by decide) hl) (by rw [getD_done (by omega), if_neg (by decide)] at hm; exact hm), fun hl => F.r8 (other (by omega) (by decide) hl), fun hl => more (by omega) (F.c9 (other (by omega) (by decide) hl)), fun hl => more (by omega) (F.c10 (other (by omega) (by decide) hl)), fun hl => more (by omega) (F.c11 (other (by omega) (by decide) hl)), fun hl => more (by omega) (F.c12 (other (by omega) (by decide) hl)), fun hl => more (by omega) (F.c13 (other (by omega) (by decide) hl))⟩⟩
  ·simp at ho2
   subst ho2
   have p2 := hd ⟨2, .data⟩ (by simp) rfl
   have p3 := hd ⟨3, .data⟩ (by simp) rfl
   have p4 := hd ⟨4, .data⟩ (by simp) rfl
   have p5 := hd ⟨5, .data⟩ (by simp) rfl
   have p6 := hd ⟨6, .data⟩ (by simp) rfl
   have p7 := hd ⟨7, .data⟩ (by simp) rfl
   have hu8 : L.getD 8 false = false := by
    rw [Array.getD_eq_getD_getElem?] at hu ⊢
    rw [Array.getElem?_eq_getElem (by omega)] at hu ⊢
    exact hu
   refine wpOp_callE ho rfl (f := 9) (args := #[v1, .agg (hdV h q), .agg (spV s A c), .agg (ppV p), .int .i64 ref, .bool key]) (en_put2 rfl (F.f2 p2) (F.f3 p3) (F.f4 p4) (F.f5 p5) (F.f6 p6) (F.f7 p7)) ?_
   have hown := F.r2 p2 hu8
   refine (HP2.out wi w6.heap.size v1 hown h3.size (HR6.out.1.below h3 (Nat.le_refl _)) (Rd.below HR6.out.2 h3 (Nat.le_refl _))).mono ?_
   rintro e w' ⟨v9, rfl, hq⟩
   exact ⟨_, rfl, ⟨h0, by rw [put_size]; exact h1, put_other (by omega) (by decide) h2, Below.touch h3 hq.2.1 (fun k hk e => by have := (hown.lt _ e).1; omega) (Nat.le_refl _), v1, v9, ⟨keepf F.f0 (by omega) (by omega) (by decide) (by decide), keepf F.f1 (by omega) (by omega) (by decide) (by decide), keepf F.f2 (by omega) (by omega) (by decide) (by decide), keepf F.f3 (by omega) (by omega) (by decide) (by decide), keepf F.f4 (by omega) (by omega) (by decide) (by decide), keepf F.f5 (by omega) (by omega) (by decide) (by decide), keepf F.f6 (by omega) (by omega) (by decide) (by decide), keepf F.f7 (by omega) (by omega) (by decide) (by decide), newf (by omega), fun hl => absurd (F.c9 (other (by omega) (by decide) hl)) (by rw [hu8]; simp), fun hl => absurd (F.c10 (other (by omega) (by decide) hl)) (by rw [hu8]; simp), fun hl => absurd (F.c11 (other (by omega) (by decide) hl)) (by rw [hu8]; simp), fun hl => absurd (F.c12 (other (by omega) (by decide) hl)) (by rw [hu8]; simp), fun hl => absurd (F.c13 (other (by omega) (by decide) hl)) (by rw [hu8]; simp), (fun _ hm => by rw [getD_done (by omega), if_pos rfl] at hm; cases hm), fun _ => hq.1, (fun _ => by rw [getD_done (by omega), if_pos rfl]), (fun _ => by rw [getD_done (by omega), if_pos rfl]), (fun _ => by rw [getD_done (by omega), if_pos rfl]), (fun _ => by rw [getD_done (by omega), if_pos rfl]), (fun _ => by rw [getD_done (by omega), if_pos rfl])⟩⟩⟩
  ·simp at ho2
   subst ho2
   have p8 := hd ⟨8, .data⟩ (by simp) rfl
   exact op_run ho rfl (run_move rfl (F.f8 p8)) ⟨h0, by rw [put_size]; exact h1, put_other (by omega) (by decide) h2, h3, v1, v2, ⟨keepf F.f0 (by omega) (by omega) (by decide) (by decide), keepf F.f1 (by omega) (by omega) (by decide) (by decide), keepf F.f2 (by omega) (by omega) (by decide) (by decide), keepf F.f3 (by omega) (by omega) (by decide) (by decide), keepf F.f4 (by omega) (by omega) (by decide) (by decide), keepf F.f5 (by omega) (by omega) (by decide) (by decide), keepf F.f6 (by omega) (by omega) (by decide) (by decide), keepf F.f7 (by omega) (by omega) (by decide) (by decide), keepf F.f8 (by omega) (by omega) (by decide) (by decide), newf (by omega), keepf F.f10 (by omega) (by omega) (by decide) (by decide), keepf F.f11 (by omega) (by omega) (by decide) (by decide), keepf F.f12 (by omega) (by omega) (by decide) (by decide), keepf F.f13 (by omega) (by omega) (by decide) (by decide), fun hl hm => F.r2 (other (by omega) (by decide) hl) (by rw [getD_done (by omega), if_neg (by decide)] at hm; exact hm), fun hl => F.r8 (other (by omega) (by decide) hl), fun _ => more (by omega) p8, fun hl => more (by omega) (F.c10 (other (by omega) (by decide) hl)), fun hl => more (by omega) (F.c11 (other (by omega) (by decide) hl)), fun hl => more (by omega) (F.c12 (other (by omega) (by decide) hl)), fun hl => more (by omega) (F.c13 (other (by omega) (by decide) hl))⟩⟩
  ·simp at ho2
   subst ho2
   have p9 := hd ⟨9, .data⟩ (by simp) rfl
   exact op_run ho rfl (run_ext0 rfl (F.f9 p9)) ⟨h0, by rw [put_size]; exact h1, put_other (by omega) (by decide) h2, h3, v1, v2, ⟨keepf F.f0 (by omega) (by omega) (by decide) (by decide), keepf F.f1 (by omega) (by omega) (by decide) (by decide), keepf F.f2 (by omega) (by omega) (by decide) (by decide), keepf F.f3 (by omega) (by omega) (by decide) (by decide), keepf F.f4 (by omega) (by omega) (by decide) (by decide), keepf F.f5 (by omega) (by omega) (by decide) (by decide), keepf F.f6 (by omega) (by omega) (by decide) (by decide), keepf F.f7 (by omega) (by omega) (by decide) (by decide), keepf F.f8 (by omega) (by omega) (by decide) (by decide), keepf F.f9 (by omega) (by omega) (by decide) (by decide), newf (by omega), keepf F.f11 (by omega) (by omega) (by decide) (by decide), keepf F.f12 (by omega) (by omega) (by decide) (by decide), keepf F.f13 (by omega) (by omega) (by decide) (by decide), fun hl hm => F.r2 (other (by omega) (by decide) hl) (by rw [getD_done (by omega), if_neg (by decide)] at hm; exact hm), fun hl => F.r8 (other (by omega) (by decide) hl), fun hl => more (by omega) (F.c9 (other (by omega) (by decide) hl)), fun _ => more (by omega) (F.c9 p9), fun hl => more (by omega) (F.c11 (other (by omega) (by decide) hl)), fun hl => more (by omega) (F.c12 (other (by omega) (by decide) hl)), fun hl => more (by omega) (F.c13 (other (by omega) (by decide) hl))⟩⟩
  ·simp at ho2
   subst ho2
   have p9 := hd ⟨9, .data⟩ (by simp) rfl
   exact op_run ho rfl (run_ext1 rfl (F.f9 p9)) ⟨h0, by rw [put_size]; exact h1, put_other (by omega) (by decide) h2, h3, v1, v2, ⟨keepf F.f0 (by omega) (by omega) (by decide) (by decide), keepf F.f1 (by omega) (by omega) (by decide) (by decide), keepf F.f2 (by omega) (by omega) (by decide) (by decide), keepf F.f3 (by omega) (by omega) (by decide) (by decide), keepf F.f4 (by omega) (by omega) (by decide) (by decide), keepf F.f5 (by omega) (by omega) (by decide) (by decide), keepf F.f6 (by omega) (by omega) (by decide) (by decide), keepf F.f7 (by omega) (by omega) (by decide) (by decide), keepf F.f8 (by omega) (by omega) (by decide) (by decide), keepf F.f9 (by omega) (by omega) (by decide) (by decide), keepf F.f10 (by omega) (by omega) (by decide) (by decide), newf (by omega), keepf F.f12 (by omega) (by omega) (by decide) (by decide), keepf F.f13 (by omega) (by omega) (by decide) (by decide), fun hl hm => F.r2 (other (by omega) (by decide) hl) (by rw [getD_done (by omega), if_neg (by decide)] at hm; exact hm), fun hl => F.r8 (other (by omega) (by decide) hl), fun hl => more (by omega) (F.c9 (other (by omega) (by decide) hl)), fun hl => more (by omega) (F.c10 (other (by omega) (by decide) hl)), fun _ => more (by omega) (F.c9 p9), fun hl => more (by omega) (F.c12 (other (by omega) (by decide) hl)), fun hl => more (by omega) (F.c13 (other (by omega) (by decide) hl))⟩⟩
  ·simp at ho2
   subst ho2
   have p10 := hd ⟨10, .data⟩ (by simp) rfl
   exact op_run ho rfl (run_assign rfl (F.f10 p10)) ⟨h0, by rw [put_size]; exact h1, put_other (by omega) (by decide) h2, h3, v1, v2, ⟨keepf F.f0 (by omega) (by omega) (by decide) (by decide), keepf F.f1 (by omega) (by omega) (by decide) (by decide), keepf F.f2 (by omega) (by omega) (by decide) (by decide), keepf F.f3 (by omega) (by omega) (by decide) (by decide), keepf F.f4 (by omega) (by omega) (by decide) (by decide), keepf F.f5 (by omega) (by omega) (by decide) (by decide), keepf F.f6 (by omega) (by omega) (by decide) (by decide), keepf F.f7 (by omega) (by omega) (by decide) (by decide), keepf F.f8 (by omega) (by omega) (by decide) (by decide), keepf F.f9 (by omega) (by omega) (by decide) (by decide), keepf F.f10 (by omega) (by omega) (by decide) (by decide), keepf F.f11 (by omega) (by omega) (by decide) (by decide), newf (by omega), keepf F.f13 (by omega) (by omega) (by decide) (by decide), fun hl hm => F.r2 (other (by omega) (by decide) hl) (by rw [getD_done (by omega), if_neg (by decide)] at hm; exact hm), fun hl => F.r8 (other (by omega) (by decide) hl), fun hl => more (by omega) (F.c9 (other (by omega) (by decide) hl)), fun hl => more (by omega) (F.c10 (other (by omega) (by decide) hl)), fun hl => more (by omega) (F.c11 (other (by omega) (by decide) hl)), fun _ => more (by omega) (F.c10 p10), fun hl => more (by omega) (F.c13 (other (by omega) (by decide) hl))⟩⟩
  ·simp at ho2
   subst ho2
   have p11 := hd ⟨11, .data⟩ (by simp) rfl
   exact op_run ho rfl (run_assign rfl (F.f11 p11)) ⟨h0, by rw [put_size]; exact h1, put_other (by omega) (by decide) h2, h3, v1, v2, ⟨keepf F.f0 (by omega) (by omega) (by decide) (by decide), keepf F.f1 (by omega) (by omega) (by decide) (by decide), keepf F.f2 (by omega) (by omega) (by decide) (by decide), keepf F.f3 (by omega) (by omega) (by decide) (by decide), keepf F.f4 (by omega) (by omega) (by decide) (by decide), keepf F.f5 (by omega) (by omega) (by decide) (by decide), keepf F.f6 (by omega) (by omega) (by decide) (by decide), keepf F.f7 (by omega) (by omega) (by decide) (by decide), keepf F.f8 (by omega) (by omega) (by decide) (by decide), keepf F.f9 (by omega) (by omega) (by decide) (by decide), keepf F.f10 (by omega) (by omega) (by decide) (by decide), keepf F.f11 (by omega) (by omega) (by decide) (by decide), keepf F.f12 (by omega) (by omega) (by decide) (by decide), newf (by omega), fun hl hm => F.r2 (other (by omega) (by decide) hl) (by rw [getD_done (by omega), if_neg (by decide)] at hm; exact hm), fun hl => F.r8 (other (by omega) (by decide) hl), fun hl => more (by omega) (F.c9 (other (by omega) (by decide) hl)), fun hl => more (by omega) (F.c10 (other (by omega) (by decide) hl)), fun hl => more (by omega) (F.c11 (other (by omega) (by decide) hl)), fun hl => more (by omega) (F.c12 (other (by omega) (by decide) hl)), fun _ => more (by omega) (F.c11 p11)⟩⟩
 ·intro L a w7 hs hl hI
  have hL : ∀ i, i < 14 → L.getD i false = true := fun i hi => by
   have h1 := hl i hi
   have h2 : i < L.size := by rw [hs]; exact hi
   simp [h2] at h1 ⊢
   exact h1
  obtain ⟨h0, h1, h2, h3, v1, v2, F⟩ := hI
  have e := fun ha hb => frame_back a _ [17, 18, 35, 36, 37, 38, 39, 40, 41, 42, 43, 44, 45, 46] ha hb h2
  replace e := e h1 h0
  simp only [List.foldl_cons, List.foldl_nil] at e
  rw [F.f12 (hL 12 (by omega)), F.f13 (hL 13 (by omega)), F.f9 (hL 9 (by omega)), F.f0 (hL 0 (by omega)), F.f1 (hL 1 (by omega)), F.f2 (hL 2 (by omega)), F.f3 (hL 3 (by omega)), F.f4 (hL 4 (by omega)), F.f5 (hL 5 (by omega)), F.f6 (hL 6 (by omega)), F.f7 (hL 7 (by omega)), F.f8 (hL 8 (by omega)), F.f10 (hL 10 (by omega)), F.f11 (hL 11 (by omega))] at e
  have hown := F.r8 (hL 8 (by omega))
  replace HX := Lib.hid (HX.out.go h3)
  replace HL := Lib.hid (HL.out.go h3)
  replace KX := Lib.hid (KX.out.go h3)
  replace HW := Lib.hid (HW.out.go h3)
  rw [e]
  clear e h0 h1 h2 h3 hL hl hs F HDI HP2 HR6
  obtain ⟨A2, c2, rfl, _, _, hrd⟩ := Rd.bits hown
  have HRD := Lib.hid hrd
  clear hown hrd
  have hXi : (X.length : Int) ≤ 50000 := by omega
  have HY1 := Lib.hid (fun (w' : World) (hw' : Below w7.heap.size w7 w') => HMY.out w' q' (HL.out.hd.go hw') (Rd.go HS.out (HX.out.below.trans (hw'.mono HX.out.below.size))))
  have HY2 := Lib.hid (fun (w' : World) (hw' : Below w7.heap.size w7 w') => HM2.out w' (HH.out.go (HX.out.below.trans (hw'.mono HX.out.below.size))) (Rd.go HS.out (HX.out.below.trans (hw'.mono HX.out.below.size))))
  have HY3 := Lib.hid (fun (w' : World) (hw' : Below w7.heap.size w7 w') => num_any E w')
  have HY4 := Lib.hid (fun (w' : World) (hw' : Below w7.heap.size w7 w') => st_len (HW.out.go hw') (n := X.length) rfl)
  have HY5 := Lib.hid (fun (w' : World) (hw' : Below w7.heap.size w7 w') => st_bytes (HW.out.go hw') (S := packS X) rfl)
  have HY6 := Lib.hid (fun (w' : World) (hw' : Below w7.heap.size w7 w') => pack_any A2 c2 w'.heap.size X w' (Rd.go HRD.out hw') (Nat.le_refl _) (by omega))
  have HY7 := Lib.hid (fun (w' : World) (hw' : Below w7.heap.size w7 w') => HKP.out w' q' _ (HL.out.go hw') (HH.out.go (HX.out.below.trans (hw'.mono HX.out.below.size))))
  have HY8 := Lib.hid (fun (w' : World) (hw' : Below w7.heap.size w7 w') => awake_any w')
  obtain ⟨PX, hPX⟩ : ∃ S, packS X = S := ⟨_, rfl⟩
  rw [hPX] at HY5 HY6
  clear hPX
  go_upto_region 7 with fail
  simp only [Act.put, List.setIfInBounds_toArray, List.set_cons_zero, List.set_cons_succ]
  refine wp_region_class (fun w' => Below w7.heap.size w7 w') (by kernel_rfl) (by kernel_rfl) ((Below.refl _ _).drew) ?_
  repeat (first
   | go_big_quiet_skip
   | (go_big_quiet_want; first
     | (refine qv_val (v := .agg (hdV h q')) ?_ ?_; (intro w' hw'; exact run_load_row (ty := 26) (x := .tmp 13) rfl rfl (load_head ((KX.out).go hw'))); (try simp only [Act.put, List.setIfInBounds_toArray, List.set_cons_zero, List.set_cons_succ]); go_big_quiet_on)
     | (refine qv_val (v := .agg (hdV h q)) ?_ ?_; (intro w' hw'; exact run_load_row (ty := 26) (x := .tmp 6) rfl rfl (load_head ((HX.out.k1).go hw'))); (try simp only [Act.put, List.setIfInBounds_toArray, List.set_cons_zero, List.set_cons_succ]); go_big_quiet_on)
     | (refine qv_val (v := .agg (spV s A c)) ?_ ?_; (intro w' hw'; exact run_load_row (ty := 29) (x := .tmp 7) rfl rfl (load_sps ((HX.out.k2).go hw'))); (try simp only [Act.put, List.setIfInBounds_toArray, List.set_cons_zero, List.set_cons_succ]); go_big_quiet_on)
     | (refine qv_val (v := .agg (ppV p)) ?_ ?_; (intro w' hw'; exact run_load_row (ty := 31) (x := .tmp 8) rfl rfl (load_pps ((HX.out.k3).go hw'))); (try simp only [Act.put, List.setIfInBounds_toArray, List.set_cons_zero, List.set_cons_succ]); go_big_quiet_on)
     | (go_big_quiet_op; go_big_quiet_on)
     | (refine qv_val (v := ?_) ?_ ?_; rotate_left 1; (intro w' hw'; clear hw'; go_simp; (try with_reducible rfl)); (try simp only [Act.put, List.setIfInBounds_toArray, List.set_cons_zero, List.set_cons_succ]); go_big_quiet_on)
     | (refine qv_call (v := ?_) (f := ?_) (args := ?_) ?_ ?_ ?_; rotate_left 3; (intro w' hw'; clear hw'; go_simp; (refine ⟨?_, ?_⟩ <;> rfl)); (first | (intro w' hw'; (with_reducible refine (HY1.out w' hw').mono ?_); rintro e wh ⟨rfl, hbh⟩; refine ⟨?_, Below.trans hw' (hbh.mono hw'.size)⟩; rfl) | (intro w' hw'; (with_reducible refine (HY2.out w' hw').mono ?_); rintro e wh ⟨rfl, hbh⟩; refine ⟨?_, Below.trans hw' (hbh.mono hw'.size)⟩; rfl) | (intro w' hw'; (with_reducible refine (HY3.out w' hw').mono ?_); rintro e w'' ⟨rfl, rfl⟩; refine ⟨?_, hw'⟩; rfl) | (intro w' hw'; (with_reducible refine (HY4.out w' hw').mono ?_); rintro e w'' ⟨rfl, rfl⟩; refine ⟨?_, hw'⟩; rfl) | (intro w' hw'; (with_reducible refine (HY5.out w' hw').mono ?_); rintro e w'' ⟨rfl, rfl⟩; refine ⟨?_, hw'⟩; rfl) | (intro w' hw'; (with_reducible refine (HY6.out w' hw').mono ?_); rintro e wh ⟨rfl, hbh⟩; refine ⟨?_, Below.trans hw' (hbh.mono hw'.size)⟩; rfl) | (intro w' hw'; (with_reducible refine (HY7.out w' hw').mono ?_); rintro e wh ⟨rfl, hbh⟩; refine ⟨?_, Below.trans hw' (hbh.mono hw'.size)⟩; rfl) | (intro w' hw'; (with_reducible refine (HY8.out w' hw').mono ?_); rintro e wh ⟨rfl, hbh⟩; refine ⟨?_, Below.trans hw' (hbh.mono hw'.size)⟩; rfl)); (try simp only [Act.put, List.setIfInBounds_toArray, List.set_cons_zero, List.set_cons_succ]); go_big_quiet_on)))
  with_reducible refine wpQuiet_nil ?_
  intro w8 hw
  have HF := Lib.hid (HX.out.below.trans (hw.mono HX.out.below.size))
  clear hw
  go_wp2_with fail
  go_ret
  exact ⟨rfl, HF.out⟩
end
theorem walk_HeadPuts (a0_First : Int) (a0_Count : Int) (a0_Type : Int) (a0_FrameNum : Int) (a0_Id : Int) (a0_Poc : Int) (a0_Spatial : Bool) (a0_Active0 : Int) (a0_Active1 : Int) (a0_Mods0 : Option Addr) (len_a0_Mods0 cap_a0_Mods0 : Nat) (V_a0_Mods0 : Nat → Nat → Value) (z_a0_Mods0_Kind : Nat → Int) (z_a0_Mods0_V : Nat → Int) (a0_Mods1 : Option Addr) (len_a0_Mods1 cap_a0_Mods1 : Nat) (V_a0_Mods1 : Nat → Nat → Value) (z_a0_Mods1_Kind : Nat → Int) (z_a0_Mods1_V : Nat → Int) (a0_Log : Int) (a0_LogC : Int) (a0_Weights0 : Option Addr) (len_a0_Weights0 cap_a0_Weights0 : Nat) (V_a0_Weights0 : Nat → Nat → Value) (z_a0_Weights0_Scale_0 : Nat → Int) (z_a0_Weights0_Scale_1 : Nat → Int) (z_a0_Weights0_Scale_2 : Nat → Int) (z_a0_Weights0_Offset_0 : Nat → Int) (z_a0_Weights0_Offset_1 : Nat → Int) (z_a0_Weights0_Offset_2 : Nat → Int) (a0_Weights1 : Option Addr) (len_a0_Weights1 cap_a0_Weights1 : Nat) (V_a0_Weights1 : Nat → Nat → Value) (z_a0_Weights1_Scale_0 : Nat → Int) (z_a0_Weights1_Scale_1 : Nat → Int) (z_a0_Weights1_Scale_2 : Nat → Int) (z_a0_Weights1_Offset_0 : Nat → Int) (z_a0_Weights1_Offset_1 : Nat → Int) (z_a0_Weights1_Offset_2 : Nat → Int) (a0_LongKey : Bool) (a0_Ops : Option Addr) (len_a0_Ops cap_a0_Ops : Nat) (V_a0_Ops : Nat → Nat → Value) (z_a0_Ops_Kind : Nat → Int) (z_a0_Ops_A : Nat → Int) (z_a0_Ops_B : Nat → Int) (a0_Qp : Int) (a0_Off : Bool) (a0_A : Int) (a0_B : Int) (a1_Wide : Int) (a1_High : Int) (a1_FrameBits : Int) (a1_PocType : Int) (a1_PocBits : Int) (a1_NonRef : Int) (a1_Cycle : Option Addr) (len_a1_Cycle cap_a1_Cycle : Nat) (z_a1_Cycle : Nat → Int) (a1_Refs : Int) (a1_Delay : Int) (a2_Cabac : Bool) (a2_Weighted : Bool) (a2_BiPred : Int) (a2_Qp : Int) (a2_ChromaQp : Int) (a2_Constrained : Bool) (a2_Deblock : Bool) (a2_Active0 : Int) (a2_Active1 : Int) (a3 : Int) (a4 : Bool) (a5 : Int) (w : World) (w_a0_First : (Lit.int .i64 a0_First).wf = true) (w_a0_Count : (Lit.int .i64 a0_Count).wf = true) (w_a0_Type : (Lit.int .i64 a0_Type).wf = true) (w_a0_FrameNum : (Lit.int .i64 a0_FrameNum).wf = true) (w_a0_Id : (Lit.int .i64 a0_Id).wf = true) (w_a0_Poc : (Lit.int .i64 a0_Poc).wf = true) (w_a0_Active0 : (Lit.int .i64 a0_Active0).wf = true) (w_a0_Active1 : (Lit.int .i64 a0_Active1).wf = true) (r_a0_Mods0 : RowsOf w a0_Mods0 len_a0_Mods0 cap_a0_Mods0 2 V_a0_Mods0) (e_a0_Mods0_Kind : ∀ k, k < len_a0_Mods0 → V_a0_Mods0 k 0 = .int .i64 (z_a0_Mods0_Kind k)) (w_a0_Mods0_Kind : ∀ k, (Lit.int .i64 (z_a0_Mods0_Kind k)).wf = true) (e_a0_Mods0_V : ∀ k, k < len_a0_Mods0 → V_a0_Mods0 k 1 = .int .i64 (z_a0_Mods0_V k)) (w_a0_Mods0_V : ∀ k, (Lit.int .i64 (z_a0_Mods0_V k)).wf = true) (s_a0_Mods0 : cap_a0_Mods0 * 16 ≤ 140737488351232) (lt_a0_Mods0 : ∀ ad, a0_Mods0 = some ad → ad.block < w.heap.size) (r_a0_Mods1 : RowsOf w a0_Mods1 len_a0_Mods1 cap_a0_Mods1 2 V_a0_Mods1) (e_a0_Mods1_Kind : ∀ k, k < len_a0_Mods1 → V_a0_Mods1 k 0 = .int .i64 (z_a0_Mods1_Kind k)) (w_a0_Mods1_Kind : ∀ k, (Lit.int .i64 (z_a0_Mods1_Kind k)).wf = true) (e_a0_Mods1_V : ∀ k, k < len_a0_Mods1 → V_a0_Mods1 k 1 = .int .i64 (z_a0_Mods1_V k)) (w_a0_Mods1_V : ∀ k, (Lit.int .i64 (z_a0_Mods1_V k)).wf = true) (s_a0_Mods1 : cap_a0_Mods1 * 16 ≤ 140737488351232) (lt_a0_Mods1 : ∀ ad, a0_Mods1 = some ad → ad.block < w.heap.size) (w_a0_Log : (Lit.int .i64 a0_Log).wf = true) (w_a0_LogC : (Lit.int .i64 a0_LogC).wf = true) (r_a0_Weights0 : RowsOf w a0_Weights0 len_a0_Weights0 cap_a0_Weights0 6 V_a0_Weights0) (e_a0_Weights0_Scale_0 : ∀ k, k < len_a0_Weights0 → V_a0_Weights0 k 0 = .int .i64 (z_a0_Weights0_Scale_0 k)) (w_a0_Weights0_Scale_0 : ∀ k, (Lit.int .i64 (z_a0_Weights0_Scale_0 k)).wf = true) (e_a0_Weights0_Scale_1 : ∀ k, k < len_a0_Weights0 → V_a0_Weights0 k 1 = .int .i64 (z_a0_Weights0_Scale_1 k)) (w_a0_Weights0_Scale_1 : ∀ k, (Lit.int .i64 (z_a0_Weights0_Scale_1 k)).wf = true) (e_a0_Weights0_Scale_2 : ∀ k, k < len_a0_Weights0 → V_a0_Weights0 k 2 = .int .i64 (z_a0_Weights0_Scale_2 k)) (w_a0_Weights0_Scale_2 : ∀ k, (Lit.int .i64 (z_a0_Weights0_Scale_2 k)).wf = true) (e_a0_Weights0_Offset_0 : ∀ k, k < len_a0_Weights0 → V_a0_Weights0 k 3 = .int .i64 (z_a0_Weights0_Offset_0 k)) (w_a0_Weights0_Offset_0 : ∀ k, (Lit.int .i64 (z_a0_Weights0_Offset_0 k)).wf = true) (e_a0_Weights0_Offset_1 : ∀ k, k < len_a0_Weights0 → V_a0_Weights0 k 4 = .int .i64 (z_a0_Weights0_Offset_1 k)) (w_a0_Weights0_Offset_1 : ∀ k, (Lit.int .i64 (z_a0_Weights0_Offset_1 k)).wf = true) (e_a0_Weights0_Offset_2 : ∀ k, k < len_a0_Weights0 → V_a0_Weights0 k 5 = .int .i64 (z_a0_Weights0_Offset_2 k)) (w_a0_Weights0_Offset_2 : ∀ k, (Lit.int .i64 (z_a0_Weights0_Offset_2 k)).wf = true) (s_a0_Weights0 : cap_a0_Weights0 * 48 ≤ 140737488351232) (lt_a0_Weights0 : ∀ ad, a0_Weights0 = some ad → ad.block < w.heap.size) (r_a0_Weights1 : RowsOf w a0_Weights1 len_a0_Weights1 cap_a0_Weights1 6 V_a0_Weights1) (e_a0_Weights1_Scale_0 : ∀ k, k < len_a0_Weights1 → V_a0_Weights1 k 0 = .int .i64 (z_a0_Weights1_Scale_0 k)) (w_a0_Weights1_Scale_0 : ∀ k, (Lit.int .i64 (z_a0_Weights1_Scale_0 k)).wf = true) (e_a0_Weights1_Scale_1 : ∀ k, k < len_a0_Weights1 → V_a0_Weights1 k 1 = .int .i64 (z_a0_Weights1_Scale_1 k)) (w_a0_Weights1_Scale_1 : ∀ k, (Lit.int .i64 (z_a0_Weights1_Scale_1 k)).wf = true) (e_a0_Weights1_Scale_2 : ∀ k, k < len_a0_Weights1 → V_a0_Weights1 k 2 = .int .i64 (z_a0_Weights1_Scale_2 k)) (w_a0_Weights1_Scale_2 : ∀ k, (Lit.int .i64 (z_a0_Weights1_Scale_2 k)).wf = true) (e_a0_Weights1_Offset_0 : ∀ k, k < len_a0_Weights1 → V_a0_Weights1 k 3 = .int .i64 (z_a0_Weights1_Offset_0 k)) (w_a0_Weights1_Offset_0 : ∀ k, (Lit.int .i64 (z_a0_Weights1_Offset_0 k)).wf = true) (e_a0_Weights1_Offset_1 : ∀ k, k < len_a0_Weights1 → V_a0_Weights1 k 4 = .int .i64 (z_a0_Weights1_Offset_1 k)) (w_a0_Weights1_Offset_1 : ∀ k, (Lit.int .i64 (z_a0_Weights1_Offset_1 k)).wf = true) (e_a0_Weights1_Offset_2 : ∀ k, k < len_a0_Weights1 → V_a0_Weights1 k 5 = .int .i64 (z_a0_Weights1_Offset_2 k)) (w_a0_Weights1_Offset_2 : ∀ k, (Lit.int .i64 (z_a0_Weights1_Offset_2 k)).wf = true) (s_a0_Weights1 : cap_a0_Weights1 * 48 ≤ 140737488351232) (lt_a0_Weights1 : ∀ ad, a0_Weights1 = some ad → ad.block < w.heap.size) (r_a0_Ops : RowsOf w a0_Ops len_a0_Ops cap_a0_Ops 3 V_a0_Ops) (e_a0_Ops_Kind : ∀ k, k < len_a0_Ops → V_a0_Ops k 0 = .int .i64 (z_a0_Ops_Kind k)) (w_a0_Ops_Kind : ∀ k, (Lit.int .i64 (z_a0_Ops_Kind k)).wf = true) (e_a0_Ops_A : ∀ k, k < len_a0_Ops → V_a0_Ops k 1 = .int .i64 (z_a0_Ops_A k)) (w_a0_Ops_A : ∀ k, (Lit.int .i64 (z_a0_Ops_A k)).wf = true) (e_a0_Ops_B : ∀ k, k < len_a0_Ops → V_a0_Ops k 2 = .int .i64 (z_a0_Ops_B k)) (w_a0_Ops_B : ∀ k, (Lit.int .i64 (z_a0_Ops_B k)).wf = true) (s_a0_Ops : cap_a0_Ops * 24 ≤ 140737488351232) (lt_a0_Ops : ∀ ad, a0_Ops = some ad → ad.block < w.heap.size) (w_a0_Qp : (Lit.int .i64 a0_Qp).wf = true) (w_a0_A : (Lit.int .i64 a0_A).wf = true) (w_a0_B : (Lit.int .i64 a0_B).wf = true) (w_a1_Wide : (Lit.int .i64 a1_Wide).wf = true) (w_a1_High : (Lit.int .i64 a1_High).wf = true) (w_a1_FrameBits : (Lit.int .i64 a1_FrameBits).wf = true) (w_a1_PocType : (Lit.int .i64 a1_PocType).wf = true) (w_a1_PocBits : (Lit.int .i64 a1_PocBits).wf = true) (w_a1_NonRef : (Lit.int .i64 a1_NonRef).wf = true) (w_a1_Cycle : IntsArg w a1_Cycle len_a1_Cycle cap_a1_Cycle z_a1_Cycle) (w_a1_Refs : (Lit.int .i64 a1_Refs).wf = true) (w_a1_Delay : (Lit.int .i64 a1_Delay).wf = true) (w_a2_BiPred : (Lit.int .i64 a2_BiPred).wf = true) (w_a2_Qp : (Lit.int .i64 a2_Qp).wf = true) (w_a2_ChromaQp : (Lit.int .i64 a2_ChromaQp).wf = true) (w_a2_Active0 : (Lit.int .i64 a2_Active0).wf = true) (w_a2_Active1 : (Lit.int .i64 a2_Active1).wf = true) (w_a3 : (Lit.int .i64 a3).wf = true) (w_a5 : (Lit.int .i64 a5).wf = true) :
  Calls Tryz.prog 3 #[.agg #[.int .i64 a0_First, .int .i64 a0_Count, .int .i64 a0_Type, .int .i64 a0_FrameNum, .int .i64 a0_Id, .int .i64 a0_Poc, .bool a0_Spatial, .int .i64 a0_Active0, .int .i64 a0_Active1, .slice a0_Mods0 len_a0_Mods0 cap_a0_Mods0, .slice a0_Mods1 len_a0_Mods1 cap_a0_Mods1, .int .i64 a0_Log, .int .i64 a0_LogC, .slice a0_Weights0 len_a0_Weights0 cap_a0_Weights0, .slice a0_Weights1 len_a0_Weights1 cap_a0_Weights1, .bool a0_LongKey, .slice a0_Ops len_a0_Ops cap_a0_Ops, .int .i64 a0_Qp, .bool a0_Off, .int .i64 a0_A, .int .i64 a0_B], .agg #[.int .i64 a1_Wide, .int .i64 a1_High, .int .i64 a1_FrameBits, .int .i64 a1_PocType, .int .i64 a1_PocBits, .int .i64 a1_NonRef, .slice a1_Cycle len_a1_Cycle cap_a1_Cycle, .int .i64 a1_Refs, .int .i64 a1_Delay], .agg #[.bool a2_Cabac, .bool a2_Weighted, .int .i64 a2_BiPred, .int .i64 a2_Qp, .int .i64 a2_ChromaQp, .bool a2_Constrained, .bool a2_Deblock, .int .i64 a2_Active0, .int .i64 a2_Active1], .int .i64 a3, .bool a4, .int .i64 a5] w fun e w' => e = .returned (.bool true) ∧ Below w.heap.size w w' := by
 have R_m0 := rows_rw (f := mdF) (by decide) r_a0_Mods0 (fun k => (⟨z_a0_Mods0_Kind k, z_a0_Mods0_V k⟩ : Md)) (md_in e_a0_Mods0_Kind e_a0_Mods0_V)
 have N_m0 := r_a0_Mods0.2.2
 have Z_m0 := r_a0_Mods0.2.1
 obtain ⟨l_m0, h_m0⟩ : ∃ l, (List.range len_a0_Mods0).map (fun k => (⟨z_a0_Mods0_Kind k, z_a0_Mods0_V k⟩ : Md)) = l := ⟨_, rfl⟩
 rw [h_m0] at R_m0
 have E_m0 : len_a0_Mods0 = l_m0.length := by rw [← h_m0]; simp
 have M_m0 : l_m0.length ≤ 281474976710656 := by omega
 clear r_a0_Mods0 h_m0 e_a0_Mods0_Kind e_a0_Mods0_V w_a0_Mods0_Kind w_a0_Mods0_V
 subst E_m0
 have R_m1 := rows_rw (f := mdF) (by decide) r_a0_Mods1 (fun k => (⟨z_a0_Mods1_Kind k, z_a0_Mods1_V k⟩ : Md)) (md_in e_a0_Mods1_Kind e_a0_Mods1_V)
 have N_m1 := r_a0_Mods1.2.2
 have Z_m1 := r_a0_Mods1.2.1
 obtain ⟨l_m1, h_m1⟩ : ∃ l, (List.range len_a0_Mods1).map (fun k => (⟨z_a0_Mods1_Kind k, z_a0_Mods1_V k⟩ : Md)) = l := ⟨_, rfl⟩
 rw [h_m1] at R_m1
 have E_m1 : len_a0_Mods1 = l_m1.length := by rw [← h_m1]; simp
 have M_m1 : l_m1.length ≤ 281474976710656 := by omega
 clear r_a0_Mods1 h_m1 e_a0_Mods1_Kind e_a0_Mods1_V w_a0_Mods1_Kind w_a0_Mods1_V
 subst E_m1
 have R_w0 := rows_rw (f := wtF) (by decide) r_a0_Weights0 (fun k => (⟨z_a0_Weights0_Scale_0 k, z_a0_Weights0_Scale_1 k, z_a0_Weights0_Scale_2 k, z_a0_Weights0_Offset_0 k, z_a0_Weights0_Offset_1 k, z_a0_Weights0_Offset_2 k⟩ : Wt)) (wt_in e_a0_Weights0_Scale_0 e_a0_Weights0_Scale_1 e_a0_Weights0_Scale_2 e_a0_Weights0_Offset_0 e_a0_Weights0_Offset_1 e_a0_Weights0_Offset_2)
 have N_w0 := r_a0_Weights0.2.2
 have Z_w0 := r_a0_Weights0.2.1
 obtain ⟨l_w0, h_w0⟩ : ∃ l, (List.range len_a0_Weights0).map (fun k => (⟨z_a0_Weights0_Scale_0 k, z_a0_Weights0_Scale_1 k, z_a0_Weights0_Scale_2 k, z_a0_Weights0_Offset_0 k, z_a0_Weights0_Offset_1 k, z_a0_Weights0_Offset_2 k⟩ : Wt)) = l := ⟨_, rfl⟩
 rw [h_w0] at R_w0
 have E_w0 : len_a0_Weights0 = l_w0.length := by rw [← h_w0]; simp
 have M_w0 : l_w0.length ≤ 281474976710656 := by omega
 clear r_a0_Weights0 h_w0 e_a0_Weights0_Scale_0 e_a0_Weights0_Scale_1 e_a0_Weights0_Scale_2 e_a0_Weights0_Offset_0 e_a0_Weights0_Offset_1 e_a0_Weights0_Offset_2 w_a0_Weights0_Scale_0 w_a0_Weights0_Scale_1 w_a0_Weights0_Scale_2 w_a0_Weights0_Offset_0 w_a0_Weights0_Offset_1 w_a0_Weights0_Offset_2
 subst E_w0
 have R_w1 := rows_rw (f := wtF) (by decide) r_a0_Weights1 (fun k => (⟨z_a0_Weights1_Scale_0 k, z_a0_Weights1_Scale_1 k, z_a0_Weights1_Scale_2 k, z_a0_Weights1_Offset_0 k, z_a0_Weights1_Offset_1 k, z_a0_Weights1_Offset_2 k⟩ : Wt)) (wt_in e_a0_Weights1_Scale_0 e_a0_Weights1_Scale_1 e_a0_Weights1_Scale_2 e_a0_Weights1_Offset_0 e_a0_Weights1_Offset_1 e_a0_Weights1_Offset_2)
 have N_w1 := r_a0_Weights1.2.2
 have Z_w1 := r_a0_Weights1.2.1
 obtain ⟨l_w1, h_w1⟩ : ∃ l, (List.range len_a0_Weights1).map (fun k => (⟨z_a0_Weights1_Scale_0 k, z_a0_Weights1_Scale_1 k, z_a0_Weights1_Scale_2 k, z_a0_Weights1_Offset_0 k, z_a0_Weights1_Offset_1 k, z_a0_Weights1_Offset_2 k⟩ : Wt)) = l := ⟨_, rfl⟩
 rw [h_w1] at R_w1
 have E_w1 : len_a0_Weights1 = l_w1.length := by rw [← h_w1]; simp
 have M_w1 : l_w1.length ≤ 281474976710656 := by omega
 clear r_a0_Weights1 h_w1 e_a0_Weights1_Scale_0 e_a0_Weights1_Scale_1 e_a0_Weights1_Scale_2 e_a0_Weights1_Offset_0 e_a0_Weights1_Offset_1 e_a0_Weights1_Offset_2 w_a0_Weights1_Scale_0 w_a0_Weights1_Scale_1 w_a0_Weights1_Scale_2 w_a0_Weights1_Offset_0 w_a0_Weights1_Offset_1 w_a0_Weights1_Offset_2
 subst E_w1
 have R_op := rows_rw (f := moF) (by decide) r_a0_Ops (fun k => (⟨z_a0_Ops_Kind k, z_a0_Ops_A k, z_a0_Ops_B k⟩ : Mo)) (mo_in e_a0_Ops_Kind e_a0_Ops_A e_a0_Ops_B)
 have N_op := r_a0_Ops.2.2
 have Z_op := r_a0_Ops.2.1
 obtain ⟨l_op, h_op⟩ : ∃ l, (List.range len_a0_Ops).map (fun k => (⟨z_a0_Ops_Kind k, z_a0_Ops_A k, z_a0_Ops_B k⟩ : Mo)) = l := ⟨_, rfl⟩
 rw [h_op] at R_op
 have E_op : len_a0_Ops = l_op.length := by rw [← h_op]; simp
 have M_op : l_op.length ≤ 281474976710656 := by omega
 clear r_a0_Ops h_op e_a0_Ops_Kind e_a0_Ops_A e_a0_Ops_B w_a0_Ops_Kind w_a0_Ops_A w_a0_Ops_B
 subst E_op
 obtain ⟨hri, _, hnc, hc8, _⟩ := w_a1_Cycle
 obtain ⟨cy, hcy⟩ : ∃ l, l = (List.range len_a1_Cycle).map z_a1_Cycle := ⟨_, rfl⟩
 have hs : SpAt w w.heap.size ⟨a1_Wide, a1_High, a1_FrameBits, a1_PocType, a1_PocBits, a1_NonRef, cy, a1_Refs, a1_Delay⟩ a1_Cycle := SpAt.arg hri hcy
 have hcl : len_a1_Cycle = cy.length := by rw [hcy]; simp
 have hn : cy.length ≤ 1152921504606846976 := by omega
 clear hcy hri
 subst hcl
 have HD : HdAt w w.heap.size ⟨a0_First, a0_Count, a0_Type, a0_FrameNum, a0_Id, a0_Poc, a0_Spatial, a0_Active0, a0_Active1, l_m0, l_m1, a0_Log, a0_LogC, l_w0, l_w1, a0_LongKey, l_op, a0_Qp, a0_Off, a0_A, a0_B⟩ ⟨a0_Mods0, cap_a0_Mods0, a0_Mods1, cap_a0_Mods1, a0_Weights0, cap_a0_Weights0, a0_Weights1, cap_a0_Weights1, a0_Ops, cap_a0_Ops⟩ := ⟨R_m0, R_m1, R_w0, R_w1, R_op⟩
 have HL : HdLen ⟨a0_First, a0_Count, a0_Type, a0_FrameNum, a0_Id, a0_Poc, a0_Spatial, a0_Active0, a0_Active1, l_m0, l_m1, a0_Log, a0_LogC, l_w0, l_w1, a0_LongKey, l_op, a0_Qp, a0_Off, a0_A, a0_B⟩ := ⟨M_m0, M_m1, M_w0, M_w1, M_op⟩
 have HG : HdGive ⟨a0_First, a0_Count, a0_Type, a0_FrameNum, a0_Id, a0_Poc, a0_Spatial, a0_Active0, a0_Active1, l_m0, l_m1, a0_Log, a0_LogC, l_w0, l_w1, a0_LongKey, l_op, a0_Qp, a0_Off, a0_A, a0_B⟩ ⟨a0_Mods0, cap_a0_Mods0, a0_Mods1, cap_a0_Mods1, a0_Weights0, cap_a0_Weights0, a0_Weights1, cap_a0_Weights1, a0_Ops, cap_a0_Ops⟩ := ⟨⟨Z_m0, by show (l_m0.length + 2) * 16 ≤ _; omega⟩, ⟨Z_m1, by show (l_m1.length + 2) * 16 ≤ _; omega⟩, ⟨Z_w0, by show (l_w0.length + 2) * 48 ≤ _; omega⟩, ⟨Z_w1, by show (l_w1.length + 2) * 48 ≤ _; omega⟩, ⟨Z_op, by show (l_op.length + 2) * 24 ≤ _; omega⟩⟩
 exact puts_all ⟨a0_First, a0_Count, a0_Type, a0_FrameNum, a0_Id, a0_Poc, a0_Spatial, a0_Active0, a0_Active1, l_m0, l_m1, a0_Log, a0_LogC, l_w0, l_w1, a0_LongKey, l_op, a0_Qp, a0_Off, a0_A, a0_B⟩ ⟨a0_Mods0, cap_a0_Mods0, a0_Mods1, cap_a0_Mods1, a0_Weights0, cap_a0_Weights0, a0_Weights1, cap_a0_Weights1, a0_Ops, cap_a0_Ops⟩ ⟨a1_Wide, a1_High, a1_FrameBits, a1_PocType, a1_PocBits, a1_NonRef, cy, a1_Refs, a1_Delay⟩ a1_Cycle cap_a1_Cycle ⟨a2_Cabac, a2_Weighted, a2_BiPred, a2_Qp, a2_ChromaQp, a2_Constrained, a2_Deblock, a2_Active0, a2_Active1⟩ a3 a4 a5 HD HL HG hs hn _ rfl
end Go.Proofs.YtjokibagciehlaaGreat
