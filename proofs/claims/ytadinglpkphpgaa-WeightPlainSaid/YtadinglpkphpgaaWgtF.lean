/- weight.Two where all is in range. -/
import Derived.Test.YtadinglpkphpgaaWgtE
import Derived.StillTailTactics
import Derived.Deep.RegionHeld3
import Derived.IntWalk
namespace Go.Proofs.Ytadinglpkphpgaa
open Go.RowKit
set_option linter.unusedVariables false

/-- two samples weighted: h is 2 to the log, d its double -/
def twoF (s t o h d x y : Int) : Int := clip ((x * s + y * t + h) / d + o)
theorem sw {P : Program} {f : FuncId} {args : Array Value} {w : World} {v : Value} (h : Calls P f args w fun e w' => e = .returned v ∧ w = w') : Calls P f args w fun e w' => e = .returned v ∧ w' = w :=
  h.mono fun _ _ h => ⟨h.1, h.2.symm⟩

set_option maxHeartbeats 1600000 in
theorem two_yes0 (A C : Option Addr) (n c d : Nat) (z y : Nat → Int) (s t o : Int) (w : World) (h : Ri w w.heap.size A n z) (g : Ri w w.heap.size C n y) (hn : n * 8 ≤ 140737488355328) (hs : -128 ≤ s ∧ s ≤ 191) (ht : -128 ≤ t ∧ t ≤ 191) (ho : -256 ≤ o ∧ o ≤ 255) (ha : allS n z = true) (hb : allS n y = true) :
    Calls Try.prog 11 #[.slice A n c, .slice C n d, .int .i64 s, .int .i64 t, .int .i64 o, .int .i64 0] w fun e w' => ∃ v, e = .returned (.tuple #[v, .int .i64 0]) ∧ w'.ownsRow w.heap.size 3 1 v n ((List.range n).map fun k => .int .i64 (twoF s t o 1 2 (z k) (y k))) ∧ Below w.heap.size w w' := by
  obtain ⟨i0, hi, hz0, hz1, hz2⟩ := info_parts int_info
  have HAL := Lib.hid (show ∀ k, k < n → 0 ≤ z k ∧ z k ≤ 255 from of_decide_eq_true ha)
  have HBL := Lib.hid (show ∀ k, k < n → 0 ≤ y k ∧ y k ≤ 255 from of_decide_eq_true hb)
  have hne : ((n : Int) != (n : Int)) = false := by simp
  go_enter Try.func11, Try.ntmps11
  go_wp2_with fail
  refine (samples_yes A n c w.heap.size z _ h (by omega) ha).mono ?_
  rintro e w' ⟨rfl, rfl⟩
  go_wp2_with fail
  refine (samples_yes C n d w.heap.size y _ g (by omega) hb).mono ?_
  rintro e w' ⟨rfl, rfl⟩
  go_wp2_with (go_at_call 23; refine (in_yes _ _ _ (by omega) _).mono ?_; rintro e w' ⟨rfl, rfl⟩)
  go_loopw [14, 15, 53] (fun v s15 i wr => ∃ k : Nat, k ≤ n ∧ i = .int .i64 k ∧ wr.ownsRow w.heap.size 3 1 v k ((List.range k).map fun j => .int .i64 (twoF s t o 1 2 (z j) (y j))) ∧ Below w.heap.size w wr) (fun _ _ i _ => n - (intOf i).toNat)
  case atStart => exact ⟨0, Nat.zero_le _, rfl, World.ownsRow_nil _ _ _ _, Below.refl _ _⟩
  case round =>
    obtain ⟨k, hk, rfl, hown, hbl⟩ := hrel
    have hsz := hbl.size
    by_cases hlt : k < n
    · obtain ⟨ad, rfl, hb, hc⟩ := Rd.at_ h hlt
      obtain ⟨ad', rfl, hb', hc'⟩ := Rd.at_ g hlt
      have hc1 : wr.cell? (ad.add k) = some (.int .i64 (z k)) := (hbl.cell (by rw [block_add]; exact hb)).trans hc
      have hc2 : wr.cell? (ad'.add k) = some (.int .i64 (y k)) := (hbl.cell (by rw [block_add]; exact hb')).trans hc'
      have hzk := HAL.out k hlt
      have hyk := HBL.out k hlt
      have hm := mul_bd (z k) s 255 191 (by omega) (by omega)
      have hm2 := mul_bd (y k) t 255 191 (by omega) (by omega)
      have HB := Lib.hid hbl
      have HX := Lib.hid h
      have HY := Lib.hid g
      have HO := Lib.hid hown
      have hw1 : ad.block < wr.heap.size := by omega
      have hw2 : ad'.block < wr.heap.size := by omega
      have n1 : some ad.block ≠ u14.ownBlock := fun e => by have := (hown.lt _ e.symm).1; omega
      have n2 : some ad'.block ≠ u14.ownBlock := fun e => by have := (hown.lt _ e.symm).1; omega
      clear hbl h g hc hb hc' hb' hown
      have hi0 : (0 : Int) ≤ (k : Int) := Int.natCast_nonneg _
      have hi1 : (k : Int) < (n : Int) := by omega
      have e1 : IntKind.i64.wrap (z k * s) = z k * s := IntWalk.i64_in _ (by omega)
      have e2 : IntKind.i64.wrap (y k * t) = y k * t := IntWalk.i64_in _ (by omega)
      have e3 : IntKind.i64.wrap (z k * s + y k * t) = z k * s + y k * t := IntWalk.i64_in _ (by omega)
      have e4 : IntKind.i64.wrap 1 = 1 := IntWalk.i64_in _ (by omega)
      have e5 : IntKind.i64.wrap (z k * s + y k * t + 1) = z k * s + y k * t + 1 := IntWalk.i64_in _ (by omega)
      have e6 : IntKind.i64.wrap 1 = 1 := IntWalk.i64_in _ (by omega)
      have e7 : IntKind.i64.wrap ((z k * s + y k * t + 1) / 2 + o) = (z k * s + y k * t + 1) / 2 + o := IntWalk.i64_in _ (by omega)
      go_wp2_with fail
      go_region_held3 (fun w' => w'.cell? (ad.add k) = some (.int .i64 (z k)) ∧ w'.cell? (ad'.add k) = some (.int .i64 (y k)))
        (first
          | (refine ⟨?_, ?_⟩; · (simp only [World.cell?_drew]; exact hc1); · (simp only [World.cell?_drew]; exact hc2))
          | (go_split_ands; refine ⟨?_, ?_⟩; · ((try simp only [World.cell?_drew]); rw [World.cell?_alloc_lt _ _ _ (by rw [block_add]; simpa using hw1)]; exact hc1); · ((try simp only [World.cell?_drew]); rw [World.cell?_alloc_lt _ _ _ (by rw [block_add]; simpa using hw2)]; exact hc2))
          | (go_split_ands; refine ⟨(hg1.cell_far _ (by rw [block_add]; simp; omega) (by rw [block_add]; exact n1)).trans (by assumption), (hg1.cell_far _ (by rw [block_add]; simp; omega) (by rw [block_add]; exact n2)).trans (by assumption)⟩)
          | go_keep)
        (first
          | (go_at_call 17; refine (clip_any _ _).mono ?_; rintro e w' ⟨rfl, rfl⟩)
          | (refine step_append_lies _ (by rfl) _ _ 22 (by rfl) w.heap.size 3 i0 (.int .i64 0) 1 8 Try.underlying22 hi hz0 hz1 hz2 rfl (by omega) _ k _ (by rfl) ((HO.out.alloc _).drew) ⟨wr.heap.size, 0, none⟩ 1 1 [.int .i64 (twoF s t o 1 2 (z k) (y k))] (by rfl) (by rfl) (World.news_of_block (cs := #[.int .i64 (twoF s t o 1 2 (z k) (y k))]) (t := 3) (fr := (0, 0)) (heap_alloc_new wr _)) (by simp [Value.oneCell']) (by omega) (by unfold maxLen; omega) (by omega) (by simp; omega) (wr.heap.size + 1) (by simp) ?_; intro gg cap w1 hown1 hg1 hat hlt1))
      clear e1 e2 e3 e4 e5 e6 e7
      have hb1 : Below w.heap.size w w1 := ((HB.out.alloc hsz _).drew).grown hg1 (by simp; omega) (fun j hj => (HO.out.lt j hj).1)
      rw [← range_snoc (fun j => Value.int .i64 (twoF s t o 1 2 (z j) (y j))) k] at hown1
      have H1 := Lib.hid hown1
      have H2 := Lib.hid hb1
      clear hown1 hb1 hg1 hc1 hc2 n1 n2
      go_wp2_with fail
      go_roundw
      case rel => exact ⟨k + 1, by omega, by go_num, H1.out, H2.out⟩
      case measure => simp [intOf]; omega
    · obtain rfl : k = n := by omega
      have HB := Lib.hid hbl
      have HO := Lib.hid hown
      clear hbl hown h g
      go_wp2_with fail
      go_ret2
      exact ⟨_, rfl, HO.out, HB.out⟩
set_option maxHeartbeats 1600000 in
theorem two_yes1 (A C : Option Addr) (n c d : Nat) (z y : Nat → Int) (s t o : Int) (w : World) (h : Ri w w.heap.size A n z) (g : Ri w w.heap.size C n y) (hn : n * 8 ≤ 140737488355328) (hs : -128 ≤ s ∧ s ≤ 191) (ht : -128 ≤ t ∧ t ≤ 191) (ho : -256 ≤ o ∧ o ≤ 255) (ha : allS n z = true) (hb : allS n y = true) :
    Calls Try.prog 11 #[.slice A n c, .slice C n d, .int .i64 s, .int .i64 t, .int .i64 o, .int .i64 1] w fun e w' => ∃ v, e = .returned (.tuple #[v, .int .i64 0]) ∧ w'.ownsRow w.heap.size 3 1 v n ((List.range n).map fun k => .int .i64 (twoF s t o 2 4 (z k) (y k))) ∧ Below w.heap.size w w' := by
  obtain ⟨i0, hi, hz0, hz1, hz2⟩ := info_parts int_info
  have HAL := Lib.hid (show ∀ k, k < n → 0 ≤ z k ∧ z k ≤ 255 from of_decide_eq_true ha)
  have HBL := Lib.hid (show ∀ k, k < n → 0 ≤ y k ∧ y k ≤ 255 from of_decide_eq_true hb)
  have hne : ((n : Int) != (n : Int)) = false := by simp
  go_enter Try.func11, Try.ntmps11
  go_wp2_with fail
  refine (samples_yes A n c w.heap.size z _ h (by omega) ha).mono ?_
  rintro e w' ⟨rfl, rfl⟩
  go_wp2_with fail
  refine (samples_yes C n d w.heap.size y _ g (by omega) hb).mono ?_
  rintro e w' ⟨rfl, rfl⟩
  go_wp2_with (go_at_call 23; refine (in_yes _ _ _ (by omega) _).mono ?_; rintro e w' ⟨rfl, rfl⟩)
  go_loopw [14, 15, 53] (fun v s15 i wr => ∃ k : Nat, k ≤ n ∧ i = .int .i64 k ∧ wr.ownsRow w.heap.size 3 1 v k ((List.range k).map fun j => .int .i64 (twoF s t o 2 4 (z j) (y j))) ∧ Below w.heap.size w wr) (fun _ _ i _ => n - (intOf i).toNat)
  case atStart => exact ⟨0, Nat.zero_le _, rfl, World.ownsRow_nil _ _ _ _, Below.refl _ _⟩
  case round =>
    obtain ⟨k, hk, rfl, hown, hbl⟩ := hrel
    have hsz := hbl.size
    by_cases hlt : k < n
    · obtain ⟨ad, rfl, hb, hc⟩ := Rd.at_ h hlt
      obtain ⟨ad', rfl, hb', hc'⟩ := Rd.at_ g hlt
      have hc1 : wr.cell? (ad.add k) = some (.int .i64 (z k)) := (hbl.cell (by rw [block_add]; exact hb)).trans hc
      have hc2 : wr.cell? (ad'.add k) = some (.int .i64 (y k)) := (hbl.cell (by rw [block_add]; exact hb')).trans hc'
      have hzk := HAL.out k hlt
      have hyk := HBL.out k hlt
      have hm := mul_bd (z k) s 255 191 (by omega) (by omega)
      have hm2 := mul_bd (y k) t 255 191 (by omega) (by omega)
      have HB := Lib.hid hbl
      have HX := Lib.hid h
      have HY := Lib.hid g
      have HO := Lib.hid hown
      have hw1 : ad.block < wr.heap.size := by omega
      have hw2 : ad'.block < wr.heap.size := by omega
      have n1 : some ad.block ≠ u14.ownBlock := fun e => by have := (hown.lt _ e.symm).1; omega
      have n2 : some ad'.block ≠ u14.ownBlock := fun e => by have := (hown.lt _ e.symm).1; omega
      clear hbl h g hc hb hc' hb' hown
      have hi0 : (0 : Int) ≤ (k : Int) := Int.natCast_nonneg _
      have hi1 : (k : Int) < (n : Int) := by omega
      have e1 : IntKind.i64.wrap (z k * s) = z k * s := IntWalk.i64_in _ (by omega)
      have e2 : IntKind.i64.wrap (y k * t) = y k * t := IntWalk.i64_in _ (by omega)
      have e3 : IntKind.i64.wrap (z k * s + y k * t) = z k * s + y k * t := IntWalk.i64_in _ (by omega)
      have e4 : IntKind.i64.wrap 2 = 2 := IntWalk.i64_in _ (by omega)
      have e5 : IntKind.i64.wrap (z k * s + y k * t + 2) = z k * s + y k * t + 2 := IntWalk.i64_in _ (by omega)
      have e6 : IntKind.i64.wrap 2 = 2 := IntWalk.i64_in _ (by omega)
      have e7 : IntKind.i64.wrap ((z k * s + y k * t + 2) / 4 + o) = (z k * s + y k * t + 2) / 4 + o := IntWalk.i64_in _ (by omega)
      go_wp2_with fail
      go_region_held3 (fun w' => w'.cell? (ad.add k) = some (.int .i64 (z k)) ∧ w'.cell? (ad'.add k) = some (.int .i64 (y k)))
        (first
          | (refine ⟨?_, ?_⟩; · (simp only [World.cell?_drew]; exact hc1); · (simp only [World.cell?_drew]; exact hc2))
          | (go_split_ands; refine ⟨?_, ?_⟩; · ((try simp only [World.cell?_drew]); rw [World.cell?_alloc_lt _ _ _ (by rw [block_add]; simpa using hw1)]; exact hc1); · ((try simp only [World.cell?_drew]); rw [World.cell?_alloc_lt _ _ _ (by rw [block_add]; simpa using hw2)]; exact hc2))
          | (go_split_ands; refine ⟨(hg1.cell_far _ (by rw [block_add]; simp; omega) (by rw [block_add]; exact n1)).trans (by assumption), (hg1.cell_far _ (by rw [block_add]; simp; omega) (by rw [block_add]; exact n2)).trans (by assumption)⟩)
          | go_keep)
        (first
          | (go_at_call 17; refine (clip_any _ _).mono ?_; rintro e w' ⟨rfl, rfl⟩)
          | (refine step_append_lies _ (by rfl) _ _ 22 (by rfl) w.heap.size 3 i0 (.int .i64 0) 1 8 Try.underlying22 hi hz0 hz1 hz2 rfl (by omega) _ k _ (by rfl) ((HO.out.alloc _).drew) ⟨wr.heap.size, 0, none⟩ 1 1 [.int .i64 (twoF s t o 2 4 (z k) (y k))] (by rfl) (by rfl) (World.news_of_block (cs := #[.int .i64 (twoF s t o 2 4 (z k) (y k))]) (t := 3) (fr := (0, 0)) (heap_alloc_new wr _)) (by simp [Value.oneCell']) (by omega) (by unfold maxLen; omega) (by omega) (by simp; omega) (wr.heap.size + 1) (by simp) ?_; intro gg cap w1 hown1 hg1 hat hlt1))
      clear e1 e2 e3 e4 e5 e6 e7
      have hb1 : Below w.heap.size w w1 := ((HB.out.alloc hsz _).drew).grown hg1 (by simp; omega) (fun j hj => (HO.out.lt j hj).1)
      rw [← range_snoc (fun j => Value.int .i64 (twoF s t o 2 4 (z j) (y j))) k] at hown1
      have H1 := Lib.hid hown1
      have H2 := Lib.hid hb1
      clear hown1 hb1 hg1 hc1 hc2 n1 n2
      go_wp2_with fail
      go_roundw
      case rel => exact ⟨k + 1, by omega, by go_num, H1.out, H2.out⟩
      case measure => simp [intOf]; omega
    · obtain rfl : k = n := by omega
      have HB := Lib.hid hbl
      have HO := Lib.hid hown
      clear hbl hown h g
      go_wp2_with fail
      go_ret2
      exact ⟨_, rfl, HO.out, HB.out⟩
set_option maxHeartbeats 1600000 in
theorem two_yes2 (A C : Option Addr) (n c d : Nat) (z y : Nat → Int) (s t o : Int) (w : World) (h : Ri w w.heap.size A n z) (g : Ri w w.heap.size C n y) (hn : n * 8 ≤ 140737488355328) (hs : -128 ≤ s ∧ s ≤ 191) (ht : -128 ≤ t ∧ t ≤ 191) (ho : -256 ≤ o ∧ o ≤ 255) (ha : allS n z = true) (hb : allS n y = true) :
    Calls Try.prog 11 #[.slice A n c, .slice C n d, .int .i64 s, .int .i64 t, .int .i64 o, .int .i64 2] w fun e w' => ∃ v, e = .returned (.tuple #[v, .int .i64 0]) ∧ w'.ownsRow w.heap.size 3 1 v n ((List.range n).map fun k => .int .i64 (twoF s t o 4 8 (z k) (y k))) ∧ Below w.heap.size w w' := by
  obtain ⟨i0, hi, hz0, hz1, hz2⟩ := info_parts int_info
  have HAL := Lib.hid (show ∀ k, k < n → 0 ≤ z k ∧ z k ≤ 255 from of_decide_eq_true ha)
  have HBL := Lib.hid (show ∀ k, k < n → 0 ≤ y k ∧ y k ≤ 255 from of_decide_eq_true hb)
  have hne : ((n : Int) != (n : Int)) = false := by simp
  go_enter Try.func11, Try.ntmps11
  go_wp2_with fail
  refine (samples_yes A n c w.heap.size z _ h (by omega) ha).mono ?_
  rintro e w' ⟨rfl, rfl⟩
  go_wp2_with fail
  refine (samples_yes C n d w.heap.size y _ g (by omega) hb).mono ?_
  rintro e w' ⟨rfl, rfl⟩
  go_wp2_with (go_at_call 23; refine (in_yes _ _ _ (by omega) _).mono ?_; rintro e w' ⟨rfl, rfl⟩)
  go_loopw [14, 15, 53] (fun v s15 i wr => ∃ k : Nat, k ≤ n ∧ i = .int .i64 k ∧ wr.ownsRow w.heap.size 3 1 v k ((List.range k).map fun j => .int .i64 (twoF s t o 4 8 (z j) (y j))) ∧ Below w.heap.size w wr) (fun _ _ i _ => n - (intOf i).toNat)
  case atStart => exact ⟨0, Nat.zero_le _, rfl, World.ownsRow_nil _ _ _ _, Below.refl _ _⟩
  case round =>
    obtain ⟨k, hk, rfl, hown, hbl⟩ := hrel
    have hsz := hbl.size
    by_cases hlt : k < n
    · obtain ⟨ad, rfl, hb, hc⟩ := Rd.at_ h hlt
      obtain ⟨ad', rfl, hb', hc'⟩ := Rd.at_ g hlt
      have hc1 : wr.cell? (ad.add k) = some (.int .i64 (z k)) := (hbl.cell (by rw [block_add]; exact hb)).trans hc
      have hc2 : wr.cell? (ad'.add k) = some (.int .i64 (y k)) := (hbl.cell (by rw [block_add]; exact hb')).trans hc'
      have hzk := HAL.out k hlt
      have hyk := HBL.out k hlt
      have hm := mul_bd (z k) s 255 191 (by omega) (by omega)
      have hm2 := mul_bd (y k) t 255 191 (by omega) (by omega)
      have HB := Lib.hid hbl
      have HX := Lib.hid h
      have HY := Lib.hid g
      have HO := Lib.hid hown
      have hw1 : ad.block < wr.heap.size := by omega
      have hw2 : ad'.block < wr.heap.size := by omega
      have n1 : some ad.block ≠ u14.ownBlock := fun e => by have := (hown.lt _ e.symm).1; omega
      have n2 : some ad'.block ≠ u14.ownBlock := fun e => by have := (hown.lt _ e.symm).1; omega
      clear hbl h g hc hb hc' hb' hown
      have hi0 : (0 : Int) ≤ (k : Int) := Int.natCast_nonneg _
      have hi1 : (k : Int) < (n : Int) := by omega
      have e1 : IntKind.i64.wrap (z k * s) = z k * s := IntWalk.i64_in _ (by omega)
      have e2 : IntKind.i64.wrap (y k * t) = y k * t := IntWalk.i64_in _ (by omega)
      have e3 : IntKind.i64.wrap (z k * s + y k * t) = z k * s + y k * t := IntWalk.i64_in _ (by omega)
      have e4 : IntKind.i64.wrap 4 = 4 := IntWalk.i64_in _ (by omega)
      have e5 : IntKind.i64.wrap (z k * s + y k * t + 4) = z k * s + y k * t + 4 := IntWalk.i64_in _ (by omega)
      have e6 : IntKind.i64.wrap 3 = 3 := IntWalk.i64_in _ (by omega)
      have e7 : IntKind.i64.wrap ((z k * s + y k * t + 4) / 8 + o) = (z k * s + y k * t + 4) / 8 + o := IntWalk.i64_in _ (by omega)
      go_wp2_with fail
      go_region_held3 (fun w' => w'.cell? (ad.add k) = some (.int .i64 (z k)) ∧ w'.cell? (ad'.add k) = some (.int .i64 (y k)))
        (first
          | (refine ⟨?_, ?_⟩; · (simp only [World.cell?_drew]; exact hc1); · (simp only [World.cell?_drew]; exact hc2))
          | (go_split_ands; refine ⟨?_, ?_⟩; · ((try simp only [World.cell?_drew]); rw [World.cell?_alloc_lt _ _ _ (by rw [block_add]; simpa using hw1)]; exact hc1); · ((try simp only [World.cell?_drew]); rw [World.cell?_alloc_lt _ _ _ (by rw [block_add]; simpa using hw2)]; exact hc2))
          | (go_split_ands; refine ⟨(hg1.cell_far _ (by rw [block_add]; simp; omega) (by rw [block_add]; exact n1)).trans (by assumption), (hg1.cell_far _ (by rw [block_add]; simp; omega) (by rw [block_add]; exact n2)).trans (by assumption)⟩)
          | go_keep)
        (first
          | (go_at_call 17; refine (clip_any _ _).mono ?_; rintro e w' ⟨rfl, rfl⟩)
          | (refine step_append_lies _ (by rfl) _ _ 22 (by rfl) w.heap.size 3 i0 (.int .i64 0) 1 8 Try.underlying22 hi hz0 hz1 hz2 rfl (by omega) _ k _ (by rfl) ((HO.out.alloc _).drew) ⟨wr.heap.size, 0, none⟩ 1 1 [.int .i64 (twoF s t o 4 8 (z k) (y k))] (by rfl) (by rfl) (World.news_of_block (cs := #[.int .i64 (twoF s t o 4 8 (z k) (y k))]) (t := 3) (fr := (0, 0)) (heap_alloc_new wr _)) (by simp [Value.oneCell']) (by omega) (by unfold maxLen; omega) (by omega) (by simp; omega) (wr.heap.size + 1) (by simp) ?_; intro gg cap w1 hown1 hg1 hat hlt1))
      clear e1 e2 e3 e4 e5 e6 e7
      have hb1 : Below w.heap.size w w1 := ((HB.out.alloc hsz _).drew).grown hg1 (by simp; omega) (fun j hj => (HO.out.lt j hj).1)
      rw [← range_snoc (fun j => Value.int .i64 (twoF s t o 4 8 (z j) (y j))) k] at hown1
      have H1 := Lib.hid hown1
      have H2 := Lib.hid hb1
      clear hown1 hb1 hg1 hc1 hc2 n1 n2
      go_wp2_with fail
      go_roundw
      case rel => exact ⟨k + 1, by omega, by go_num, H1.out, H2.out⟩
      case measure => simp [intOf]; omega
    · obtain rfl : k = n := by omega
      have HB := Lib.hid hbl
      have HO := Lib.hid hown
      clear hbl hown h g
      go_wp2_with fail
      go_ret2
      exact ⟨_, rfl, HO.out, HB.out⟩
set_option maxHeartbeats 1600000 in
theorem two_yes3 (A C : Option Addr) (n c d : Nat) (z y : Nat → Int) (s t o : Int) (w : World) (h : Ri w w.heap.size A n z) (g : Ri w w.heap.size C n y) (hn : n * 8 ≤ 140737488355328) (hs : -128 ≤ s ∧ s ≤ 191) (ht : -128 ≤ t ∧ t ≤ 191) (ho : -256 ≤ o ∧ o ≤ 255) (ha : allS n z = true) (hb : allS n y = true) :
    Calls Try.prog 11 #[.slice A n c, .slice C n d, .int .i64 s, .int .i64 t, .int .i64 o, .int .i64 3] w fun e w' => ∃ v, e = .returned (.tuple #[v, .int .i64 0]) ∧ w'.ownsRow w.heap.size 3 1 v n ((List.range n).map fun k => .int .i64 (twoF s t o 8 16 (z k) (y k))) ∧ Below w.heap.size w w' := by
  obtain ⟨i0, hi, hz0, hz1, hz2⟩ := info_parts int_info
  have HAL := Lib.hid (show ∀ k, k < n → 0 ≤ z k ∧ z k ≤ 255 from of_decide_eq_true ha)
  have HBL := Lib.hid (show ∀ k, k < n → 0 ≤ y k ∧ y k ≤ 255 from of_decide_eq_true hb)
  have hne : ((n : Int) != (n : Int)) = false := by simp
  go_enter Try.func11, Try.ntmps11
  go_wp2_with fail
  refine (samples_yes A n c w.heap.size z _ h (by omega) ha).mono ?_
  rintro e w' ⟨rfl, rfl⟩
  go_wp2_with fail
  refine (samples_yes C n d w.heap.size y _ g (by omega) hb).mono ?_
  rintro e w' ⟨rfl, rfl⟩
  go_wp2_with (go_at_call 23; refine (in_yes _ _ _ (by omega) _).mono ?_; rintro e w' ⟨rfl, rfl⟩)
  go_loopw [14, 15, 53] (fun v s15 i wr => ∃ k : Nat, k ≤ n ∧ i = .int .i64 k ∧ wr.ownsRow w.heap.size 3 1 v k ((List.range k).map fun j => .int .i64 (twoF s t o 8 16 (z j) (y j))) ∧ Below w.heap.size w wr) (fun _ _ i _ => n - (intOf i).toNat)
  case atStart => exact ⟨0, Nat.zero_le _, rfl, World.ownsRow_nil _ _ _ _, Below.refl _ _⟩
  case round =>
    obtain ⟨k, hk, rfl, hown, hbl⟩ := hrel
    have hsz := hbl.size
    by_cases hlt : k < n
    · obtain ⟨ad, rfl, hb, hc⟩ := Rd.at_ h hlt
      obtain ⟨ad', rfl, hb', hc'⟩ := Rd.at_ g hlt
      have hc1 : wr.cell? (ad.add k) = some (.int .i64 (z k)) := (hbl.cell (by rw [block_add]; exact hb)).trans hc
      have hc2 : wr.cell? (ad'.add k) = some (.int .i64 (y k)) := (hbl.cell (by rw [block_add]; exact hb')).trans hc'
      have hzk := HAL.out k hlt
      have hyk := HBL.out k hlt
      have hm := mul_bd (z k) s 255 191 (by omega) (by omega)
      have hm2 := mul_bd (y k) t 255 191 (by omega) (by omega)
      have HB := Lib.hid hbl
      have HX := Lib.hid h
      have HY := Lib.hid g
      have HO := Lib.hid hown
      have hw1 : ad.block < wr.heap.size := by omega
      have hw2 : ad'.block < wr.heap.size := by omega
      have n1 : some ad.block ≠ u14.ownBlock := fun e => by have := (hown.lt _ e.symm).1; omega
      have n2 : some ad'.block ≠ u14.ownBlock := fun e => by have := (hown.lt _ e.symm).1; omega
      clear hbl h g hc hb hc' hb' hown
      have hi0 : (0 : Int) ≤ (k : Int) := Int.natCast_nonneg _
      have hi1 : (k : Int) < (n : Int) := by omega
      have e1 : IntKind.i64.wrap (z k * s) = z k * s := IntWalk.i64_in _ (by omega)
      have e2 : IntKind.i64.wrap (y k * t) = y k * t := IntWalk.i64_in _ (by omega)
      have e3 : IntKind.i64.wrap (z k * s + y k * t) = z k * s + y k * t := IntWalk.i64_in _ (by omega)
      have e4 : IntKind.i64.wrap 8 = 8 := IntWalk.i64_in _ (by omega)
      have e5 : IntKind.i64.wrap (z k * s + y k * t + 8) = z k * s + y k * t + 8 := IntWalk.i64_in _ (by omega)
      have e6 : IntKind.i64.wrap 4 = 4 := IntWalk.i64_in _ (by omega)
      have e7 : IntKind.i64.wrap ((z k * s + y k * t + 8) / 16 + o) = (z k * s + y k * t + 8) / 16 + o := IntWalk.i64_in _ (by omega)
      go_wp2_with fail
      go_region_held3 (fun w' => w'.cell? (ad.add k) = some (.int .i64 (z k)) ∧ w'.cell? (ad'.add k) = some (.int .i64 (y k)))
        (first
          | (refine ⟨?_, ?_⟩; · (simp only [World.cell?_drew]; exact hc1); · (simp only [World.cell?_drew]; exact hc2))
          | (go_split_ands; refine ⟨?_, ?_⟩; · ((try simp only [World.cell?_drew]); rw [World.cell?_alloc_lt _ _ _ (by rw [block_add]; simpa using hw1)]; exact hc1); · ((try simp only [World.cell?_drew]); rw [World.cell?_alloc_lt _ _ _ (by rw [block_add]; simpa using hw2)]; exact hc2))
          | (go_split_ands; refine ⟨(hg1.cell_far _ (by rw [block_add]; simp; omega) (by rw [block_add]; exact n1)).trans (by assumption), (hg1.cell_far _ (by rw [block_add]; simp; omega) (by rw [block_add]; exact n2)).trans (by assumption)⟩)
          | go_keep)
        (first
          | (go_at_call 17; refine (clip_any _ _).mono ?_; rintro e w' ⟨rfl, rfl⟩)
          | (refine step_append_lies _ (by rfl) _ _ 22 (by rfl) w.heap.size 3 i0 (.int .i64 0) 1 8 Try.underlying22 hi hz0 hz1 hz2 rfl (by omega) _ k _ (by rfl) ((HO.out.alloc _).drew) ⟨wr.heap.size, 0, none⟩ 1 1 [.int .i64 (twoF s t o 8 16 (z k) (y k))] (by rfl) (by rfl) (World.news_of_block (cs := #[.int .i64 (twoF s t o 8 16 (z k) (y k))]) (t := 3) (fr := (0, 0)) (heap_alloc_new wr _)) (by simp [Value.oneCell']) (by omega) (by unfold maxLen; omega) (by omega) (by simp; omega) (wr.heap.size + 1) (by simp) ?_; intro gg cap w1 hown1 hg1 hat hlt1))
      clear e1 e2 e3 e4 e5 e6 e7
      have hb1 : Below w.heap.size w w1 := ((HB.out.alloc hsz _).drew).grown hg1 (by simp; omega) (fun j hj => (HO.out.lt j hj).1)
      rw [← range_snoc (fun j => Value.int .i64 (twoF s t o 8 16 (z j) (y j))) k] at hown1
      have H1 := Lib.hid hown1
      have H2 := Lib.hid hb1
      clear hown1 hb1 hg1 hc1 hc2 n1 n2
      go_wp2_with fail
      go_roundw
      case rel => exact ⟨k + 1, by omega, by go_num, H1.out, H2.out⟩
      case measure => simp [intOf]; omega
    · obtain rfl : k = n := by omega
      have HB := Lib.hid hbl
      have HO := Lib.hid hown
      clear hbl hown h g
      go_wp2_with fail
      go_ret2
      exact ⟨_, rfl, HO.out, HB.out⟩
set_option maxHeartbeats 1600000 in
theorem two_yes4 (A C : Option Addr) (n c d : Nat) (z y : Nat → Int) (s t o : Int) (w : World) (h : Ri w w.heap.size A n z) (g : Ri w w.heap.size C n y) (hn : n * 8 ≤ 140737488355328) (hs : -128 ≤ s ∧ s ≤ 191) (ht : -128 ≤ t ∧ t ≤ 191) (ho : -256 ≤ o ∧ o ≤ 255) (ha : allS n z = true) (hb : allS n y = true) :
    Calls Try.prog 11 #[.slice A n c, .slice C n d, .int .i64 s, .int .i64 t, .int .i64 o, .int .i64 4] w fun e w' => ∃ v, e = .returned (.tuple #[v, .int .i64 0]) ∧ w'.ownsRow w.heap.size 3 1 v n ((List.range n).map fun k => .int .i64 (twoF s t o 16 32 (z k) (y k))) ∧ Below w.heap.size w w' := by
  obtain ⟨i0, hi, hz0, hz1, hz2⟩ := info_parts int_info
  have HAL := Lib.hid (show ∀ k, k < n → 0 ≤ z k ∧ z k ≤ 255 from of_decide_eq_true ha)
  have HBL := Lib.hid (show ∀ k, k < n → 0 ≤ y k ∧ y k ≤ 255 from of_decide_eq_true hb)
  have hne : ((n : Int) != (n : Int)) = false := by simp
  go_enter Try.func11, Try.ntmps11
  go_wp2_with fail
  refine (samples_yes A n c w.heap.size z _ h (by omega) ha).mono ?_
  rintro e w' ⟨rfl, rfl⟩
  go_wp2_with fail
  refine (samples_yes C n d w.heap.size y _ g (by omega) hb).mono ?_
  rintro e w' ⟨rfl, rfl⟩
  go_wp2_with (go_at_call 23; refine (in_yes _ _ _ (by omega) _).mono ?_; rintro e w' ⟨rfl, rfl⟩)
  go_loopw [14, 15, 53] (fun v s15 i wr => ∃ k : Nat, k ≤ n ∧ i = .int .i64 k ∧ wr.ownsRow w.heap.size 3 1 v k ((List.range k).map fun j => .int .i64 (twoF s t o 16 32 (z j) (y j))) ∧ Below w.heap.size w wr) (fun _ _ i _ => n - (intOf i).toNat)
  case atStart => exact ⟨0, Nat.zero_le _, rfl, World.ownsRow_nil _ _ _ _, Below.refl _ _⟩
  case round =>
    obtain ⟨k, hk, rfl, hown, hbl⟩ := hrel
    have hsz := hbl.size
    by_cases hlt : k < n
    · obtain ⟨ad, rfl, hb, hc⟩ := Rd.at_ h hlt
      obtain ⟨ad', rfl, hb', hc'⟩ := Rd.at_ g hlt
      have hc1 : wr.cell? (ad.add k) = some (.int .i64 (z k)) := (hbl.cell (by rw [block_add]; exact hb)).trans hc
      have hc2 : wr.cell? (ad'.add k) = some (.int .i64 (y k)) := (hbl.cell (by rw [block_add]; exact hb')).trans hc'
      have hzk := HAL.out k hlt
      have hyk := HBL.out k hlt
      have hm := mul_bd (z k) s 255 191 (by omega) (by omega)
      have hm2 := mul_bd (y k) t 255 191 (by omega) (by omega)
      have HB := Lib.hid hbl
      have HX := Lib.hid h
      have HY := Lib.hid g
      have HO := Lib.hid hown
      have hw1 : ad.block < wr.heap.size := by omega
      have hw2 : ad'.block < wr.heap.size := by omega
      have n1 : some ad.block ≠ u14.ownBlock := fun e => by have := (hown.lt _ e.symm).1; omega
      have n2 : some ad'.block ≠ u14.ownBlock := fun e => by have := (hown.lt _ e.symm).1; omega
      clear hbl h g hc hb hc' hb' hown
      have hi0 : (0 : Int) ≤ (k : Int) := Int.natCast_nonneg _
      have hi1 : (k : Int) < (n : Int) := by omega
      have e1 : IntKind.i64.wrap (z k * s) = z k * s := IntWalk.i64_in _ (by omega)
      have e2 : IntKind.i64.wrap (y k * t) = y k * t := IntWalk.i64_in _ (by omega)
      have e3 : IntKind.i64.wrap (z k * s + y k * t) = z k * s + y k * t := IntWalk.i64_in _ (by omega)
      have e4 : IntKind.i64.wrap 16 = 16 := IntWalk.i64_in _ (by omega)
      have e5 : IntKind.i64.wrap (z k * s + y k * t + 16) = z k * s + y k * t + 16 := IntWalk.i64_in _ (by omega)
      have e6 : IntKind.i64.wrap 5 = 5 := IntWalk.i64_in _ (by omega)
      have e7 : IntKind.i64.wrap ((z k * s + y k * t + 16) / 32 + o) = (z k * s + y k * t + 16) / 32 + o := IntWalk.i64_in _ (by omega)
      go_wp2_with fail
      go_region_held3 (fun w' => w'.cell? (ad.add k) = some (.int .i64 (z k)) ∧ w'.cell? (ad'.add k) = some (.int .i64 (y k)))
        (first
          | (refine ⟨?_, ?_⟩; · (simp only [World.cell?_drew]; exact hc1); · (simp only [World.cell?_drew]; exact hc2))
          | (go_split_ands; refine ⟨?_, ?_⟩; · ((try simp only [World.cell?_drew]); rw [World.cell?_alloc_lt _ _ _ (by rw [block_add]; simpa using hw1)]; exact hc1); · ((try simp only [World.cell?_drew]); rw [World.cell?_alloc_lt _ _ _ (by rw [block_add]; simpa using hw2)]; exact hc2))
          | (go_split_ands; refine ⟨(hg1.cell_far _ (by rw [block_add]; simp; omega) (by rw [block_add]; exact n1)).trans (by assumption), (hg1.cell_far _ (by rw [block_add]; simp; omega) (by rw [block_add]; exact n2)).trans (by assumption)⟩)
          | go_keep)
        (first
          | (go_at_call 17; refine (clip_any _ _).mono ?_; rintro e w' ⟨rfl, rfl⟩)
          | (refine step_append_lies _ (by rfl) _ _ 22 (by rfl) w.heap.size 3 i0 (.int .i64 0) 1 8 Try.underlying22 hi hz0 hz1 hz2 rfl (by omega) _ k _ (by rfl) ((HO.out.alloc _).drew) ⟨wr.heap.size, 0, none⟩ 1 1 [.int .i64 (twoF s t o 16 32 (z k) (y k))] (by rfl) (by rfl) (World.news_of_block (cs := #[.int .i64 (twoF s t o 16 32 (z k) (y k))]) (t := 3) (fr := (0, 0)) (heap_alloc_new wr _)) (by simp [Value.oneCell']) (by omega) (by unfold maxLen; omega) (by omega) (by simp; omega) (wr.heap.size + 1) (by simp) ?_; intro gg cap w1 hown1 hg1 hat hlt1))
      clear e1 e2 e3 e4 e5 e6 e7
      have hb1 : Below w.heap.size w w1 := ((HB.out.alloc hsz _).drew).grown hg1 (by simp; omega) (fun j hj => (HO.out.lt j hj).1)
      rw [← range_snoc (fun j => Value.int .i64 (twoF s t o 16 32 (z j) (y j))) k] at hown1
      have H1 := Lib.hid hown1
      have H2 := Lib.hid hb1
      clear hown1 hb1 hg1 hc1 hc2 n1 n2
      go_wp2_with fail
      go_roundw
      case rel => exact ⟨k + 1, by omega, by go_num, H1.out, H2.out⟩
      case measure => simp [intOf]; omega
    · obtain rfl : k = n := by omega
      have HB := Lib.hid hbl
      have HO := Lib.hid hown
      clear hbl hown h g
      go_wp2_with fail
      go_ret2
      exact ⟨_, rfl, HO.out, HB.out⟩
set_option maxHeartbeats 1600000 in
theorem two_yes5 (A C : Option Addr) (n c d : Nat) (z y : Nat → Int) (s t o : Int) (w : World) (h : Ri w w.heap.size A n z) (g : Ri w w.heap.size C n y) (hn : n * 8 ≤ 140737488355328) (hs : -128 ≤ s ∧ s ≤ 191) (ht : -128 ≤ t ∧ t ≤ 191) (ho : -256 ≤ o ∧ o ≤ 255) (ha : allS n z = true) (hb : allS n y = true) :
    Calls Try.prog 11 #[.slice A n c, .slice C n d, .int .i64 s, .int .i64 t, .int .i64 o, .int .i64 5] w fun e w' => ∃ v, e = .returned (.tuple #[v, .int .i64 0]) ∧ w'.ownsRow w.heap.size 3 1 v n ((List.range n).map fun k => .int .i64 (twoF s t o 32 64 (z k) (y k))) ∧ Below w.heap.size w w' := by
  obtain ⟨i0, hi, hz0, hz1, hz2⟩ := info_parts int_info
  have HAL := Lib.hid (show ∀ k, k < n → 0 ≤ z k ∧ z k ≤ 255 from of_decide_eq_true ha)
  have HBL := Lib.hid (show ∀ k, k < n → 0 ≤ y k ∧ y k ≤ 255 from of_decide_eq_true hb)
  have hne : ((n : Int) != (n : Int)) = false := by simp
  go_enter Try.func11, Try.ntmps11
  go_wp2_with fail
  refine (samples_yes A n c w.heap.size z _ h (by omega) ha).mono ?_
  rintro e w' ⟨rfl, rfl⟩
  go_wp2_with fail
  refine (samples_yes C n d w.heap.size y _ g (by omega) hb).mono ?_
  rintro e w' ⟨rfl, rfl⟩
  go_wp2_with (go_at_call 23; refine (in_yes _ _ _ (by omega) _).mono ?_; rintro e w' ⟨rfl, rfl⟩)
  go_loopw [14, 15, 53] (fun v s15 i wr => ∃ k : Nat, k ≤ n ∧ i = .int .i64 k ∧ wr.ownsRow w.heap.size 3 1 v k ((List.range k).map fun j => .int .i64 (twoF s t o 32 64 (z j) (y j))) ∧ Below w.heap.size w wr) (fun _ _ i _ => n - (intOf i).toNat)
  case atStart => exact ⟨0, Nat.zero_le _, rfl, World.ownsRow_nil _ _ _ _, Below.refl _ _⟩
  case round =>
    obtain ⟨k, hk, rfl, hown, hbl⟩ := hrel
    have hsz := hbl.size
    by_cases hlt : k < n
    · obtain ⟨ad, rfl, hb, hc⟩ := Rd.at_ h hlt
      obtain ⟨ad', rfl, hb', hc'⟩ := Rd.at_ g hlt
      have hc1 : wr.cell? (ad.add k) = some (.int .i64 (z k)) := (hbl.cell (by rw [block_add]; exact hb)).trans hc
      have hc2 : wr.cell? (ad'.add k) = some (.int .i64 (y k)) := (hbl.cell (by rw [block_add]; exact hb')).trans hc'
      have hzk := HAL.out k hlt
      have hyk := HBL.out k hlt
      have hm := mul_bd (z k) s 255 191 (by omega) (by omega)
      have hm2 := mul_bd (y k) t 255 191 (by omega) (by omega)
      have HB := Lib.hid hbl
      have HX := Lib.hid h
      have HY := Lib.hid g
      have HO := Lib.hid hown
      have hw1 : ad.block < wr.heap.size := by omega
      have hw2 : ad'.block < wr.heap.size := by omega
      have n1 : some ad.block ≠ u14.ownBlock := fun e => by have := (hown.lt _ e.symm).1; omega
      have n2 : some ad'.block ≠ u14.ownBlock := fun e => by have := (hown.lt _ e.symm).1; omega
      clear hbl h g hc hb hc' hb' hown
      have hi0 : (0 : Int) ≤ (k : Int) := Int.natCast_nonneg _
      have hi1 : (k : Int) < (n : Int) := by omega
      have e1 : IntKind.i64.wrap (z k * s) = z k * s := IntWalk.i64_in _ (by omega)
      have e2 : IntKind.i64.wrap (y k * t) = y k * t := IntWalk.i64_in _ (by omega)
      have e3 : IntKind.i64.wrap (z k * s + y k * t) = z k * s + y k * t := IntWalk.i64_in _ (by omega)
      have e4 : IntKind.i64.wrap 32 = 32 := IntWalk.i64_in _ (by omega)
      have e5 : IntKind.i64.wrap (z k * s + y k * t + 32) = z k * s + y k * t + 32 := IntWalk.i64_in _ (by omega)
      have e6 : IntKind.i64.wrap 6 = 6 := IntWalk.i64_in _ (by omega)
      have e7 : IntKind.i64.wrap ((z k * s + y k * t + 32) / 64 + o) = (z k * s + y k * t + 32) / 64 + o := IntWalk.i64_in _ (by omega)
      go_wp2_with fail
      go_region_held3 (fun w' => w'.cell? (ad.add k) = some (.int .i64 (z k)) ∧ w'.cell? (ad'.add k) = some (.int .i64 (y k)))
        (first
          | (refine ⟨?_, ?_⟩; · (simp only [World.cell?_drew]; exact hc1); · (simp only [World.cell?_drew]; exact hc2))
          | (go_split_ands; refine ⟨?_, ?_⟩; · ((try simp only [World.cell?_drew]); rw [World.cell?_alloc_lt _ _ _ (by rw [block_add]; simpa using hw1)]; exact hc1); · ((try simp only [World.cell?_drew]); rw [World.cell?_alloc_lt _ _ _ (by rw [block_add]; simpa using hw2)]; exact hc2))
          | (go_split_ands; refine ⟨(hg1.cell_far _ (by rw [block_add]; simp; omega) (by rw [block_add]; exact n1)).trans (by assumption), (hg1.cell_far _ (by rw [block_add]; simp; omega) (by rw [block_add]; exact n2)).trans (by assumption)⟩)
          | go_keep)
        (first
          | (go_at_call 17; refine (clip_any _ _).mono ?_; rintro e w' ⟨rfl, rfl⟩)
          | (refine step_append_lies _ (by rfl) _ _ 22 (by rfl) w.heap.size 3 i0 (.int .i64 0) 1 8 Try.underlying22 hi hz0 hz1 hz2 rfl (by omega) _ k _ (by rfl) ((HO.out.alloc _).drew) ⟨wr.heap.size, 0, none⟩ 1 1 [.int .i64 (twoF s t o 32 64 (z k) (y k))] (by rfl) (by rfl) (World.news_of_block (cs := #[.int .i64 (twoF s t o 32 64 (z k) (y k))]) (t := 3) (fr := (0, 0)) (heap_alloc_new wr _)) (by simp [Value.oneCell']) (by omega) (by unfold maxLen; omega) (by omega) (by simp; omega) (wr.heap.size + 1) (by simp) ?_; intro gg cap w1 hown1 hg1 hat hlt1))
      clear e1 e2 e3 e4 e5 e6 e7
      have hb1 : Below w.heap.size w w1 := ((HB.out.alloc hsz _).drew).grown hg1 (by simp; omega) (fun j hj => (HO.out.lt j hj).1)
      rw [← range_snoc (fun j => Value.int .i64 (twoF s t o 32 64 (z j) (y j))) k] at hown1
      have H1 := Lib.hid hown1
      have H2 := Lib.hid hb1
      clear hown1 hb1 hg1 hc1 hc2 n1 n2
      go_wp2_with fail
      go_roundw
      case rel => exact ⟨k + 1, by omega, by go_num, H1.out, H2.out⟩
      case measure => simp [intOf]; omega
    · obtain rfl : k = n := by omega
      have HB := Lib.hid hbl
      have HO := Lib.hid hown
      clear hbl hown h g
      go_wp2_with fail
      go_ret2
      exact ⟨_, rfl, HO.out, HB.out⟩
set_option maxHeartbeats 1600000 in
theorem two_yes6 (A C : Option Addr) (n c d : Nat) (z y : Nat → Int) (s t o : Int) (w : World) (h : Ri w w.heap.size A n z) (g : Ri w w.heap.size C n y) (hn : n * 8 ≤ 140737488355328) (hs : -128 ≤ s ∧ s ≤ 191) (ht : -128 ≤ t ∧ t ≤ 191) (ho : -256 ≤ o ∧ o ≤ 255) (ha : allS n z = true) (hb : allS n y = true) :
    Calls Try.prog 11 #[.slice A n c, .slice C n d, .int .i64 s, .int .i64 t, .int .i64 o, .int .i64 6] w fun e w' => ∃ v, e = .returned (.tuple #[v, .int .i64 0]) ∧ w'.ownsRow w.heap.size 3 1 v n ((List.range n).map fun k => .int .i64 (twoF s t o 64 128 (z k) (y k))) ∧ Below w.heap.size w w' := by
  obtain ⟨i0, hi, hz0, hz1, hz2⟩ := info_parts int_info
  have HAL := Lib.hid (show ∀ k, k < n → 0 ≤ z k ∧ z k ≤ 255 from of_decide_eq_true ha)
  have HBL := Lib.hid (show ∀ k, k < n → 0 ≤ y k ∧ y k ≤ 255 from of_decide_eq_true hb)
  have hne : ((n : Int) != (n : Int)) = false := by simp
  go_enter Try.func11, Try.ntmps11
  go_wp2_with fail
  refine (samples_yes A n c w.heap.size z _ h (by omega) ha).mono ?_
  rintro e w' ⟨rfl, rfl⟩
  go_wp2_with fail
  refine (samples_yes C n d w.heap.size y _ g (by omega) hb).mono ?_
  rintro e w' ⟨rfl, rfl⟩
  go_wp2_with (go_at_call 23; refine (in_yes _ _ _ (by omega) _).mono ?_; rintro e w' ⟨rfl, rfl⟩)
  go_loopw [14, 15, 53] (fun v s15 i wr => ∃ k : Nat, k ≤ n ∧ i = .int .i64 k ∧ wr.ownsRow w.heap.size 3 1 v k ((List.range k).map fun j => .int .i64 (twoF s t o 64 128 (z j) (y j))) ∧ Below w.heap.size w wr) (fun _ _ i _ => n - (intOf i).toNat)
  case atStart => exact ⟨0, Nat.zero_le _, rfl, World.ownsRow_nil _ _ _ _, Below.refl _ _⟩
  case round =>
    obtain ⟨k, hk, rfl, hown, hbl⟩ := hrel
    have hsz := hbl.size
    by_cases hlt : k < n
    · obtain ⟨ad, rfl, hb, hc⟩ := Rd.at_ h hlt
      obtain ⟨ad', rfl, hb', hc'⟩ := Rd.at_ g hlt
      have hc1 : wr.cell? (ad.add k) = some (.int .i64 (z k)) := (hbl.cell (by rw [block_add]; exact hb)).trans hc
      have hc2 : wr.cell? (ad'.add k) = some (.int .i64 (y k)) := (hbl.cell (by rw [block_add]; exact hb')).trans hc'
      have hzk := HAL.out k hlt
      have hyk := HBL.out k hlt
      have hm := mul_bd (z k) s 255 191 (by omega) (by omega)
      have hm2 := mul_bd (y k) t 255 191 (by omega) (by omega)
      have HB := Lib.hid hbl
      have HX := Lib.hid h
      have HY := Lib.hid g
      have HO := Lib.hid hown
      have hw1 : ad.block < wr.heap.size := by omega
      have hw2 : ad'.block < wr.heap.size := by omega
      have n1 : some ad.block ≠ u14.ownBlock := fun e => by have := (hown.lt _ e.symm).1; omega
      have n2 : some ad'.block ≠ u14.ownBlock := fun e => by have := (hown.lt _ e.symm).1; omega
      clear hbl h g hc hb hc' hb' hown
      have hi0 : (0 : Int) ≤ (k : Int) := Int.natCast_nonneg _
      have hi1 : (k : Int) < (n : Int) := by omega
      have e1 : IntKind.i64.wrap (z k * s) = z k * s := IntWalk.i64_in _ (by omega)
      have e2 : IntKind.i64.wrap (y k * t) = y k * t := IntWalk.i64_in _ (by omega)
      have e3 : IntKind.i64.wrap (z k * s + y k * t) = z k * s + y k * t := IntWalk.i64_in _ (by omega)
      have e4 : IntKind.i64.wrap 64 = 64 := IntWalk.i64_in _ (by omega)
      have e5 : IntKind.i64.wrap (z k * s + y k * t + 64) = z k * s + y k * t + 64 := IntWalk.i64_in _ (by omega)
      have e6 : IntKind.i64.wrap 7 = 7 := IntWalk.i64_in _ (by omega)
      have e7 : IntKind.i64.wrap ((z k * s + y k * t + 64) / 128 + o) = (z k * s + y k * t + 64) / 128 + o := IntWalk.i64_in _ (by omega)
      go_wp2_with fail
      go_region_held3 (fun w' => w'.cell? (ad.add k) = some (.int .i64 (z k)) ∧ w'.cell? (ad'.add k) = some (.int .i64 (y k)))
        (first
          | (refine ⟨?_, ?_⟩; · (simp only [World.cell?_drew]; exact hc1); · (simp only [World.cell?_drew]; exact hc2))
          | (go_split_ands; refine ⟨?_, ?_⟩; · ((try simp only [World.cell?_drew]); rw [World.cell?_alloc_lt _ _ _ (by rw [block_add]; simpa using hw1)]; exact hc1); · ((try simp only [World.cell?_drew]); rw [World.cell?_alloc_lt _ _ _ (by rw [block_add]; simpa using hw2)]; exact hc2))
          | (go_split_ands; refine ⟨(hg1.cell_far _ (by rw [block_add]; simp; omega) (by rw [block_add]; exact n1)).trans (by assumption), (hg1.cell_far _ (by rw [block_add]; simp; omega) (by rw [block_add]; exact n2)).trans (by assumption)⟩)
          | go_keep)
        (first
          | (go_at_call 17; refine (clip_any _ _).mono ?_; rintro e w' ⟨rfl, rfl⟩)
          | (refine step_append_lies _ (by rfl) _ _ 22 (by rfl) w.heap.size 3 i0 (.int .i64 0) 1 8 Try.underlying22 hi hz0 hz1 hz2 rfl (by omega) _ k _ (by rfl) ((HO.out.alloc _).drew) ⟨wr.heap.size, 0, none⟩ 1 1 [.int .i64 (twoF s t o 64 128 (z k) (y k))] (by rfl) (by rfl) (World.news_of_block (cs := #[.int .i64 (twoF s t o 64 128 (z k) (y k))]) (t := 3) (fr := (0, 0)) (heap_alloc_new wr _)) (by simp [Value.oneCell']) (by omega) (by unfold maxLen; omega) (by omega) (by simp; omega) (wr.heap.size + 1) (by simp) ?_; intro gg cap w1 hown1 hg1 hat hlt1))
      clear e1 e2 e3 e4 e5 e6 e7
      have hb1 : Below w.heap.size w w1 := ((HB.out.alloc hsz _).drew).grown hg1 (by simp; omega) (fun j hj => (HO.out.lt j hj).1)
      rw [← range_snoc (fun j => Value.int .i64 (twoF s t o 64 128 (z j) (y j))) k] at hown1
      have H1 := Lib.hid hown1
      have H2 := Lib.hid hb1
      clear hown1 hb1 hg1 hc1 hc2 n1 n2
      go_wp2_with fail
      go_roundw
      case rel => exact ⟨k + 1, by omega, by go_num, H1.out, H2.out⟩
      case measure => simp [intOf]; omega
    · obtain rfl : k = n := by omega
      have HB := Lib.hid hbl
      have HO := Lib.hid hown
      clear hbl hown h g
      go_wp2_with fail
      go_ret2
      exact ⟨_, rfl, HO.out, HB.out⟩
set_option maxHeartbeats 1600000 in
theorem two_yes7 (A C : Option Addr) (n c d : Nat) (z y : Nat → Int) (s t o : Int) (w : World) (h : Ri w w.heap.size A n z) (g : Ri w w.heap.size C n y) (hn : n * 8 ≤ 140737488355328) (hs : -128 ≤ s ∧ s ≤ 191) (ht : -128 ≤ t ∧ t ≤ 191) (ho : -256 ≤ o ∧ o ≤ 255) (ha : allS n z = true) (hb : allS n y = true) :
    Calls Try.prog 11 #[.slice A n c, .slice C n d, .int .i64 s, .int .i64 t, .int .i64 o, .int .i64 7] w fun e w' => ∃ v, e = .returned (.tuple #[v, .int .i64 0]) ∧ w'.ownsRow w.heap.size 3 1 v n ((List.range n).map fun k => .int .i64 (twoF s t o 128 256 (z k) (y k))) ∧ Below w.heap.size w w' := by
  obtain ⟨i0, hi, hz0, hz1, hz2⟩ := info_parts int_info
  have HAL := Lib.hid (show ∀ k, k < n → 0 ≤ z k ∧ z k ≤ 255 from of_decide_eq_true ha)
  have HBL := Lib.hid (show ∀ k, k < n → 0 ≤ y k ∧ y k ≤ 255 from of_decide_eq_true hb)
  have hne : ((n : Int) != (n : Int)) = false := by simp
  go_enter Try.func11, Try.ntmps11
  go_wp2_with fail
  refine (samples_yes A n c w.heap.size z _ h (by omega) ha).mono ?_
  rintro e w' ⟨rfl, rfl⟩
  go_wp2_with fail
  refine (samples_yes C n d w.heap.size y _ g (by omega) hb).mono ?_
  rintro e w' ⟨rfl, rfl⟩
  go_wp2_with (go_at_call 23; refine (in_yes _ _ _ (by omega) _).mono ?_; rintro e w' ⟨rfl, rfl⟩)
  go_loopw [14, 15, 53] (fun v s15 i wr => ∃ k : Nat, k ≤ n ∧ i = .int .i64 k ∧ wr.ownsRow w.heap.size 3 1 v k ((List.range k).map fun j => .int .i64 (twoF s t o 128 256 (z j) (y j))) ∧ Below w.heap.size w wr) (fun _ _ i _ => n - (intOf i).toNat)
  case atStart => exact ⟨0, Nat.zero_le _, rfl, World.ownsRow_nil _ _ _ _, Below.refl _ _⟩
  case round =>
    obtain ⟨k, hk, rfl, hown, hbl⟩ := hrel
    have hsz := hbl.size
    by_cases hlt : k < n
    · obtain ⟨ad, rfl, hb, hc⟩ := Rd.at_ h hlt
      obtain ⟨ad', rfl, hb', hc'⟩ := Rd.at_ g hlt
      have hc1 : wr.cell? (ad.add k) = some (.int .i64 (z k)) := (hbl.cell (by rw [block_add]; exact hb)).trans hc
      have hc2 : wr.cell? (ad'.add k) = some (.int .i64 (y k)) := (hbl.cell (by rw [block_add]; exact hb')).trans hc'
      have hzk := HAL.out k hlt
      have hyk := HBL.out k hlt
      have hm := mul_bd (z k) s 255 191 (by omega) (by omega)
      have hm2 := mul_bd (y k) t 255 191 (by omega) (by omega)
      have HB := Lib.hid hbl
      have HX := Lib.hid h
      have HY := Lib.hid g
      have HO := Lib.hid hown
      have hw1 : ad.block < wr.heap.size := by omega
      have hw2 : ad'.block < wr.heap.size := by omega
      have n1 : some ad.block ≠ u14.ownBlock := fun e => by have := (hown.lt _ e.symm).1; omega
      have n2 : some ad'.block ≠ u14.ownBlock := fun e => by have := (hown.lt _ e.symm).1; omega
      clear hbl h g hc hb hc' hb' hown
      have hi0 : (0 : Int) ≤ (k : Int) := Int.natCast_nonneg _
      have hi1 : (k : Int) < (n : Int) := by omega
      have e1 : IntKind.i64.wrap (z k * s) = z k * s := IntWalk.i64_in _ (by omega)
      have e2 : IntKind.i64.wrap (y k * t) = y k * t := IntWalk.i64_in _ (by omega)
      have e3 : IntKind.i64.wrap (z k * s + y k * t) = z k * s + y k * t := IntWalk.i64_in _ (by omega)
      have e4 : IntKind.i64.wrap 128 = 128 := IntWalk.i64_in _ (by omega)
      have e5 : IntKind.i64.wrap (z k * s + y k * t + 128) = z k * s + y k * t + 128 := IntWalk.i64_in _ (by omega)
      have e6 : IntKind.i64.wrap 8 = 8 := IntWalk.i64_in _ (by omega)
      have e7 : IntKind.i64.wrap ((z k * s + y k * t + 128) / 256 + o) = (z k * s + y k * t + 128) / 256 + o := IntWalk.i64_in _ (by omega)
      go_wp2_with fail
      go_region_held3 (fun w' => w'.cell? (ad.add k) = some (.int .i64 (z k)) ∧ w'.cell? (ad'.add k) = some (.int .i64 (y k)))
        (first
          | (refine ⟨?_, ?_⟩; · (simp only [World.cell?_drew]; exact hc1); · (simp only [World.cell?_drew]; exact hc2))
          | (go_split_ands; refine ⟨?_, ?_⟩; · ((try simp only [World.cell?_drew]); rw [World.cell?_alloc_lt _ _ _ (by rw [block_add]; simpa using hw1)]; exact hc1); · ((try simp only [World.cell?_drew]); rw [World.cell?_alloc_lt _ _ _ (by rw [block_add]; simpa using hw2)]; exact hc2))
          | (go_split_ands; refine ⟨(hg1.cell_far _ (by rw [block_add]; simp; omega) (by rw [block_add]; exact n1)).trans (by assumption), (hg1.cell_far _ (by rw [block_add]; simp; omega) (by rw [block_add]; exact n2)).trans (by assumption)⟩)
          | go_keep)
        (first
          | (go_at_call 17; refine (clip_any _ _).mono ?_; rintro e w' ⟨rfl, rfl⟩)
          | (refine step_append_lies _ (by rfl) _ _ 22 (by rfl) w.heap.size 3 i0 (.int .i64 0) 1 8 Try.underlying22 hi hz0 hz1 hz2 rfl (by omega) _ k _ (by rfl) ((HO.out.alloc _).drew) ⟨wr.heap.size, 0, none⟩ 1 1 [.int .i64 (twoF s t o 128 256 (z k) (y k))] (by rfl) (by rfl) (World.news_of_block (cs := #[.int .i64 (twoF s t o 128 256 (z k) (y k))]) (t := 3) (fr := (0, 0)) (heap_alloc_new wr _)) (by simp [Value.oneCell']) (by omega) (by unfold maxLen; omega) (by omega) (by simp; omega) (wr.heap.size + 1) (by simp) ?_; intro gg cap w1 hown1 hg1 hat hlt1))
      clear e1 e2 e3 e4 e5 e6 e7
      have hb1 : Below w.heap.size w w1 := ((HB.out.alloc hsz _).drew).grown hg1 (by simp; omega) (fun j hj => (HO.out.lt j hj).1)
      rw [← range_snoc (fun j => Value.int .i64 (twoF s t o 128 256 (z j) (y j))) k] at hown1
      have H1 := Lib.hid hown1
      have H2 := Lib.hid hb1
      clear hown1 hb1 hg1 hc1 hc2 n1 n2
      go_wp2_with fail
      go_roundw
      case rel => exact ⟨k + 1, by omega, by go_num, H1.out, H2.out⟩
      case measure => simp [intOf]; omega
    · obtain rfl : k = n := by omega
      have HB := Lib.hid hbl
      have HO := Lib.hid hown
      clear hbl hown h g
      go_wp2_with fail
      go_ret2
      exact ⟨_, rfl, HO.out, HB.out⟩

end Go.Proofs.Ytadinglpkphpgaa
