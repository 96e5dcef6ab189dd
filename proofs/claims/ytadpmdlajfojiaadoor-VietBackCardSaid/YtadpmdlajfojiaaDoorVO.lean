/- Get: what it hands back; the program's, case by case. -/
import Derived.Test.YtadpmdlajfojiaaDoorVN
import Derived.RegionTactic
namespace Go.Proofs.YtadpmdlajfojiaaDoor
open Go.RowKit
structure Got where
  err : Int
  n : Int
  k : Int
  x : Int
  y : Int
  a : Int
  b : Int
  c : Int
  h : Int
def gotC (g : Got) : Array Value := #[.int .i64 g.err, .int .i64 g.n, .int .i64 g.k, .int .i32 g.x, .int .i32 g.y, .int .i64 g.a, .int .i64 g.b, .int .u32 g.c, .int .i32 g.h]
def gotV (g : Got) : Value := .agg (gotC g)
theorem gotC_one (g : Got) : (gotC g).all (·.oneCell') = true := by simp [gotC, Value.oneCell']
theorem info34 : (Tryd.prog.info? 34).map (·.size) = some 9 := by kernel_rfl
theorem got_end {w W : World} {fn : Func} {p q : Nat} (hr : fn.results = #[.cell p 34]) {tmps : Array Value} (hp : tmps.getD p undef = .pointer (some ⟨q, 0, none⟩)) {g : Got}
    (hh : W.heap[q]? = some (.cells (gotC g) 34 (0, 0))) : (results fn tmps).run Tryd.prog W = .ok (gotV g) W :=
  results_cell_row hr _ _ _ 34 _ (0, 0) _ hp hh Tryd.underlying34 rfl info34
/-- Two blocks that the call has laid at its begin. -/
theorem two_blocks {w w' : World} {o o' : Obj} (hb : Below ((w.alloc o).alloc o').heap.size ((w.alloc o).alloc o') w') : w'.heap[w.heap.size]? = some o ∧ w'.heap[w.heap.size + 1]? = some o' ∧ Below w.heap.size w w' :=
  ⟨(hb.block _ (by simp; omega)).trans (heap_alloc2_old w o o'), (hb.block _ (by simp)).trans (heap_alloc2_new w o o'), (((Below.refl _ _).alloc (Nat.le_refl _) _).alloc (by simp) _).trans (hb.mono (by simp; omega))⟩
set_option maxRecDepth 100000 in
set_option maxHeartbeats 1600000 in
theorem get_unfit (a b c h : Int) (v : Value) (hf : fitsB a b c h = false) (w : World) : Calls Tryd.prog 12 #[stV a b c h, v] w fun e w' => e = .returned (gotV ⟨7, 0, 0, 0, 0, 0, 0, 0, 0⟩) ∧ Below w.heap.size w w' := by
  have h1 := fits_calls a b c h
  rw [hf] at h1
  have H1 := Lib.hid h1
  clear h1 hf
  go_enter Tryd.func12, Tryd.ntmps12
  go_wp2_with fail
  refine (H1.out _).mono ?_
  rintro e w' ⟨rfl, hb⟩
  have HT := Lib.hid (two_blocks hb)
  clear hb
  go_wp2_with (refine wpList_store_row rfl 34 (.tmp 4) _ rfl (w.heap.size + 1) (gotC ⟨7, 0, 0, 0, 0, 0, 0, 0, 0⟩) rfl rfl 34 _ HT.out.2.1 info34 rfl (gotC_one _) ?_)
  exact ⟨rfl, _, got_end (w := w) rfl rfl (setRow_heap _ _ _ _ _ _ HT.out.2.1), rfl, below_setRow HT.out.2.2 (by omega) _⟩
set_option maxRecDepth 100000 in
set_option maxHeartbeats 1600000 in
theorem get_empty (a b c h : Int) (A : Option Addr) (cap : Nat) (hf : fitsB a b c h = true) (w : World) : Calls Tryd.prog 12 #[stV a b c h, .slice A 0 cap] w fun e w' => e = .returned (gotV ⟨1, 0, 0, 0, 0, 0, 0, 0, 0⟩) ∧ Below w.heap.size w w' := by
  have h1 := fits_calls a b c h
  rw [hf] at h1
  have H1 := Lib.hid h1
  clear h1 hf
  go_enter Tryd.func12, Tryd.ntmps12
  go_wp2_with fail
  refine (H1.out _).mono ?_
  rintro e w' ⟨rfl, hb⟩
  have HT := Lib.hid (two_blocks hb)
  clear hb
  go_wp2_with (refine wpList_store_row rfl 34 (.tmp 4) _ rfl (w.heap.size + 1) (gotC ⟨1, 0, 0, 0, 0, 0, 0, 0, 0⟩) rfl rfl 34 _ HT.out.2.1 info34 rfl (gotC_one _) ?_)
  exact ⟨rfl, _, got_end (w := w) rfl rfl (setRow_heap _ _ _ _ _ _ HT.out.2.1), rfl, below_setRow HT.out.2.2 (by omega) _⟩
/-- The four cells of a state. -/
theorem st_cells {W : World} {q : Nat} {a b c h : Int} {t : TypeId} (hh : W.heap[q]? = some (.cells #[.int .i64 a, .int .i64 b, .int .u32 c, .int .i32 h] t (0, 0))) :
    W.cell? ⟨q, 0, none⟩ = some (.int .i64 a) ∧ W.cell? ⟨q, 1, none⟩ = some (.int .i64 b) ∧ W.cell? ⟨q, 2, none⟩ = some (.int .u32 c) ∧ W.cell? ⟨q, 3, none⟩ = some (.int .i32 h) := by
  simp only [cell_of_row W _ _ _ _ _ hh]
  simp
set_option maxRecDepth 100000 in
set_option maxHeartbeats 1600000 in
theorem get_illegal (a b c h : Int) (ad : Addr) (n cap : Nat) (hn : ((n : Int) == 0) = false) (hm : n ≤ 9223372036854775807) (hn1 : 0 < n) (y : Int) (hy0 : 0 ≤ y) (hy1 : y ≤ 255) (hf : fitsB a b c h = true) (w : World) (hw : ListAt w) (hc : w.cell? ad = some (.int .u8 y)) (hu : scalarB y = 65533) :
    Calls Tryd.prog 12 #[stV a b c h, .slice (some ad) n cap] w fun e w' => e = .returned (gotV ⟨10, 1, 0, 0, 0, a, b, c, h⟩) ∧ Below w.heap.size w w' := by
  have h1 := fits_calls a b c h
  rw [hf] at h1
  have H1 := Lib.hid h1
  have h2 := scalar_calls y hy0 hy1
  rw [hu] at h2
  have H2 := Lib.hid h2
  have HC := Lib.hid hc
  have HW := Lib.hid hw
  clear h1 h2 hf hc hw hu
  go_enter Tryd.func12, Tryd.ntmps12
  go_wp2_with fail
  refine (H1.out _).mono ?_
  rintro e w' ⟨rfl, hb⟩
  have HT := Lib.hid (two_blocks hb)
  clear hb
  have hcell := (HT.out.2.2.cell (p := ad) (block_lt_of_cell HC.out)).trans HC.out
  obtain ⟨s0, s1, s2, s3⟩ := st_cells HT.out.1
  go_wp2_with fail
  refine (H2.out _ (HW.out.below HT.out.2.2)).mono ?_
  rintro e w2 ⟨rfl, rfl⟩
  go_wp2_with (refine wpList_store_row rfl 34 (.tmp 4) _ rfl (w.heap.size + 1) (gotC ⟨10, 1, 0, 0, 0, a, b, c, h⟩) rfl rfl 34 _ HT.out.2.1 info34 rfl (gotC_one _) ?_)
  exact ⟨rfl, _, got_end (w := w) rfl rfl (setRow_heap _ _ _ _ _ _ HT.out.2.1), rfl, below_setRow HT.out.2.2 (by omega) _⟩
/-- A block that holds a Got: what its fields read as, and what a store into one leaves. -/
theorem got_fields {W : World} {G : Nat} {g : Got} (hG : W.heap[G]? = some (.cells (gotC g) 34 (0, 0))) :
    W.cell? ⟨G, 2, none⟩ = some (.int .i64 g.k) ∧ W.cell? ⟨G, 3, none⟩ = some (.int .i32 g.x) ∧ W.cell? ⟨G, 4, none⟩ = some (.int .i32 g.y) ∧ W.cell? ⟨G, 8, none⟩ = some (.int .i32 g.h) ∧
    W.frozen? ⟨G, 2, none⟩ = false ∧ W.frozen? ⟨G, 3, none⟩ = false ∧ W.frozen? ⟨G, 4, none⟩ = false ∧ W.frozen? ⟨G, 8, none⟩ = false := by
  simp only [cell_of_row W _ _ _ _ _ hG, frozen_of_row W G _ _ _ hG]
  simp [gotC]
theorem got_set2 {W : World} {G : Nat} {g : Got} (hG : W.heap[G]? = some (.cells (gotC g) 34 (0, 0))) (v : Int) : (W.setCell ⟨G, 2, none⟩ (.int .i64 v)).heap[G]? = some (.cells (gotC { g with k := v }) 34 (0, 0)) := by
  rw [heap_setCell_same W G 2 _ _ _ hG]; simp [gotC]
theorem got_set3 {W : World} {G : Nat} {g : Got} (hG : W.heap[G]? = some (.cells (gotC g) 34 (0, 0))) (v : Int) : (W.setCell ⟨G, 3, none⟩ (.int .i32 v)).heap[G]? = some (.cells (gotC { g with x := v }) 34 (0, 0)) := by
  rw [heap_setCell_same W G 3 _ _ _ hG]; simp [gotC]
theorem got_set4 {W : World} {G : Nat} {g : Got} (hG : W.heap[G]? = some (.cells (gotC g) 34 (0, 0))) (v : Int) : (W.setCell ⟨G, 4, none⟩ (.int .i32 v)).heap[G]? = some (.cells (gotC { g with y := v }) 34 (0, 0)) := by
  rw [heap_setCell_same W G 4 _ _ _ hG]; simp [gotC]
theorem got_set8 {W : World} {G : Nat} {g : Got} (hG : W.heap[G]? = some (.cells (gotC g) 34 (0, 0))) (v : Int) : (W.setCell ⟨G, 8, none⟩ (.int .i32 v)).heap[G]? = some (.cells (gotC { g with h := v }) 34 (0, 0)) := by
  rw [heap_setCell_same W G 8 _ _ _ hG]; simp [gotC]
/-- No letter is held; the scalar is not one that may be held. -/
theorem get_plain (ad : Addr) (n cap : Nat) (hn : ((n : Int) == 0) = false) (hm : n ≤ 9223372036854775807) (hn1 : 0 < n) (y u : Int) (hy0 : 0 ≤ y) (hy1 : y ≤ 255) (w : World) (hw : ListAt w) (hc : w.cell? ad = some (.int .u8 y)) (hu : scalarB y = u) (hu1 : u ≠ 65533) (hh : holdsB u = false) :
    Calls Tryd.prog 12 #[stV 0 0 0 0, .slice (some ad) n cap] w fun e w' => e = .returned (gotV ⟨0, 1, 1, u, 0, 0, 0, 0, 0⟩) ∧ Below w.heap.size w w' := by
  have h1 := fits_calls 0 0 0 0
  rw [show fitsB 0 0 0 0 = true by simp [fitsB]] at h1
  have H1 := Lib.hid h1
  have h2 := scalar_calls y hy0 hy1
  rw [hu] at h2
  have H2 := Lib.hid h2
  have h3 := holds_calls u
  rw [hh] at h3
  have H3 := Lib.hid h3
  have HC := Lib.hid hc
  have HW := Lib.hid hw
  have hu' : (u == 65533) = false := by simp [hu1]
  clear h1 h2 h3 hc hw hu hu1 hh
  go_enter Tryd.func12, Tryd.ntmps12
  go_wp2_with fail
  refine (H1.out _).mono ?_
  rintro e w' ⟨rfl, hb⟩
  have HT := Lib.hid (two_blocks hb)
  clear hb
  have hcell := (HT.out.2.2.cell (p := ad) (block_lt_of_cell HC.out)).trans HC.out
  obtain ⟨s0, s1, s2, s3⟩ := st_cells HT.out.1
  have hz0 : w.heap.size < w'.heap.size := (Array.getElem?_eq_some_iff.1 HT.out.1).1
  have hz1 : w.heap.size + 1 < w'.heap.size := (Array.getElem?_eq_some_iff.1 HT.out.2.1).1
  go_wp2_with fail
  refine (H2.out _ (HW.out.below HT.out.2.2)).mono ?_
  rintro e w2 ⟨rfl, rfl⟩
  go_wp2_with fail
  refine (H3.out _).mono ?_
  rintro e w3 ⟨rfl, hb⟩
  have HZ := Lib.hid ((hb.block (w.heap.size + 1) (by simp; omega)).trans ((Below.heap_alloc w' _ _ hz1).trans HT.out.2.1))
  have HG := Lib.hid (show w3.heap[w'.heap.size]? = some (.cells (gotC ⟨0, 1, 0, 0, 0, 0, 0, 0, 0⟩) 34 (0, 0)) from put_block hb)
  have HB := Lib.hid (HT.out.2.2.trans ((put_below hb).mono (by omega)))
  have hzz : w.heap.size ≤ w'.heap.size := by omega
  clear hb hcell s0 s1 s2 s3
  obtain ⟨k2, k3, k4, k8, f2, f3, f4, f8⟩ := got_fields HG.out
  dsimp only at k2 k3 k4 k8
  have HL := Lib.hid (got_set3 (got_set2 HG.out 1) u)
  have HZ2 := Lib.hid (show ((w3.setCell ⟨w'.heap.size, 2, none⟩ (.int .i64 1)).setCell ⟨w'.heap.size, 3, none⟩ (.int .i32 u)).heap[w.heap.size + 1]? = _ from (heap_setCell_other _ _ _ _ (by show w.heap.size + 1 ≠ w'.heap.size; omega)).trans ((heap_setCell_other _ _ _ _ (by show w.heap.size + 1 ≠ w'.heap.size; omega)).trans HZ.out))
  go_wp2_with (first | (refine wpList_load_row rfl 34 (.tmp 6) rfl w'.heap.size rfl 34 _ (0, 0) _ HL.out Tryd.underlying34 rfl info34 ?_) | (refine wpList_store_row rfl 34 (.tmp 4) _ rfl (w.heap.size + 1) (gotC ⟨0, 1, 1, u, 0, 0, 0, 0, 0⟩) rfl rfl 34 _ HZ2.out info34 rfl (gotC_one _) ?_))
  exact ⟨rfl, _, got_end (w := w) rfl rfl (setRow_heap _ _ _ _ _ _ HZ2.out), rfl, below_setRow ((HB.out.setCell hzz _).setCell hzz _) (by omega) _⟩
end Go.Proofs.YtadpmdlajfojiaaDoor
