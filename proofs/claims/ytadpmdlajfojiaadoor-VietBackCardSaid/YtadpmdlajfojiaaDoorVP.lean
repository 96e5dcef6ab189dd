/- Get, the program's: the cases of a letter. -/
import Derived.Test.YtadpmdlajfojiaaDoorVO
namespace Go.Proofs.YtadpmdlajfojiaaDoor
open Go.RowKit
/-- No letter is held; the scalar may be held. -/
theorem get_hold (ad : Addr) (n cap : Nat) (hn : ((n : Int) == 0) = false) (hm : n ≤ 9223372036854775807) (hn1 : 0 < n) (y u : Int) (hy0 : 0 ≤ y) (hy1 : y ≤ 255) (w : World) (hw : ListAt w) (hc : w.cell? ad = some (.int .u8 y)) (hu : scalarB y = u) (hu1 : u ≠ 65533) (hh : holdsB u = true) :
    Calls Tryd.prog 12 #[stV 0 0 0 0, .slice (some ad) n cap] w fun e w' => e = .returned (gotV ⟨0, 1, 0, 0, 0, 0, 0, 0, u⟩) ∧ Below w.heap.size w w' := by
  have h1 := fits_calls 0 0 0 0
  rw [show fitsB 0 0 0 0 = true by simp [fitsB]] at h1
  have H1 := Lib.hid h1
  have h2 := scalar_calls y hy0 hy1
  rw [hu] at h2
  have H2 := Lib.hid h2
  have h3 := holds_calls u
  rw [hh] at h3
  have H3 := Lib.hid h3
  have HC := Lib.hid hc
  have HW := Lib.hid hw
  have hu' : (u == 65533) = false := by simp [hu1]
  clear h1 h2 h3 hc hw hu hu1 hh
  go_enter Tryd.func12, Tryd.ntmps12
  go_wp2_with fail
  refine (H1.out _).mono ?_
  rintro e w' ⟨rfl, hb⟩
  have HT := Lib.hid (two_blocks hb)
  clear hb
  have hcell := (HT.out.2.2.cell (p := ad) (block_lt_of_cell HC.out)).trans HC.out
  obtain ⟨s0, s1, s2, s3⟩ := st_cells HT.out.1
  have hz0 : w.heap.size < w'.heap.size := (Array.getElem?_eq_some_iff.1 HT.out.1).1
  have hz1 : w.heap.size + 1 < w'.heap.size := (Array.getElem?_eq_some_iff.1 HT.out.2.1).1
  go_wp2_with fail
  refine (H2.out _ (HW.out.below HT.out.2.2)).mono ?_
  rintro e w2 ⟨rfl, rfl⟩
  go_wp2_with fail
  refine (H3.out _).mono ?_
  rintro e w3 ⟨rfl, hb⟩
  have HZ := Lib.hid ((hb.block (w.heap.size + 1) (by simp; omega)).trans ((Below.heap_alloc w' _ _ hz1).trans HT.out.2.1))
  have HG := Lib.hid (show w3.heap[w'.heap.size]? = some (.cells (gotC ⟨0, 1, 0, 0, 0, 0, 0, 0, 0⟩) 34 (0, 0)) from put_block hb)
  have HB := Lib.hid (HT.out.2.2.trans ((put_below hb).mono (by omega)))
  have hzz : w.heap.size ≤ w'.heap.size := by omega
  clear hb hcell s0 s1 s2 s3
  obtain ⟨k2, k3, k4, k8, f2, f3, f4, f8⟩ := got_fields HG.out
  dsimp only at k2 k3 k4 k8
  have HL := Lib.hid (got_set8 HG.out u)
  have HZ2 := Lib.hid (show (w3.setCell ⟨w'.heap.size, 8, none⟩ (.int .i32 u)).heap[w.heap.size + 1]? = _ from (heap_setCell_other _ _ _ _ (by show w.heap.size + 1 ≠ w'.heap.size; omega)).trans HZ.out)
  go_wp2_with (first | (refine wpList_load_row rfl 34 (.tmp 6) rfl w'.heap.size rfl 34 _ (0, 0) _ HL.out Tryd.underlying34 rfl info34 ?_) | (refine wpList_store_row rfl 34 (.tmp 4) _ rfl (w.heap.size + 1) (gotC ⟨0, 1, 0, 0, 0, 0, 0, 0, u⟩) rfl rfl 34 _ HZ2.out info34 rfl (gotC_one _) ?_))
  exact ⟨rfl, _, got_end (w := w) rfl rfl (setRow_heap _ _ _ _ _ _ HZ2.out), rfl, below_setRow (HB.out.setCell hzz _) (by omega) _⟩
/-- A letter is held, and makes another scalar with what comes. -/
theorem get_made (h : Int) (hf : fitsB 0 0 0 h = true) (hh : h ≠ 0) (ad : Addr) (n cap : Nat) (hn : ((n : Int) == 0) = false) (hm : n ≤ 9223372036854775807) (hn1 : 0 < n) (y u r : Int) (hy0 : 0 ≤ y) (hy1 : y ≤ 255) (w : World) (hw : ListAt w) (hc : w.cell? ad = some (.int .u8 y)) (hu : scalarB y = u) (hu1 : u ≠ 65533) (hr : composeL h u = some r) :
    Calls Tryd.prog 12 #[stV 0 0 0 h, .slice (some ad) n cap] w fun e w' => e = .returned (gotV ⟨0, 1, 1, r, 0, 0, 0, 0, 0⟩) ∧ Below w.heap.size w w' := by
  have h1 := fits_calls 0 0 0 h
  rw [hf] at h1
  have H1 := Lib.hid h1
  have h2 := scalar_calls y hy0 hy1
  rw [hu] at h2
  have H2 := Lib.hid h2
  have h3 := compose_calls h u
  rw [hr] at h3
  have H3 := Lib.hid h3
  have HC := Lib.hid hc
  have HW := Lib.hid hw
  have hu' : (u == 65533) = false := by simp [hu1]
  have hh' : (h != 0) = true := by simp [hh]
  have hh2 : (h == 0) = false := by simp [hh]
  clear h1 h2 h3 hc hw hu hu1 hh hf hr
  go_enter Tryd.func12, Tryd.ntmps12
  go_wp2_with fail
  refine (H1.out _).mono ?_
  rintro e w' ⟨rfl, hb⟩
  have HT := Lib.hid (two_blocks hb)
  clear hb
  have hcell := (HT.out.2.2.cell (p := ad) (block_lt_of_cell HC.out)).trans HC.out
  obtain ⟨s0, s1, s2, s3⟩ := st_cells HT.out.1
  have hz0 : w.heap.size < w'.heap.size := (Array.getElem?_eq_some_iff.1 HT.out.1).1
  have hz1 : w.heap.size + 1 < w'.heap.size := (Array.getElem?_eq_some_iff.1 HT.out.2.1).1
  go_wp2_with fail
  refine (H2.out _ (HW.out.below HT.out.2.2)).mono ?_
  rintro e w2 ⟨rfl, rfl⟩
  go_wp2_with fail
  refine (H3.out _).mono ?_
  rintro e w3 ⟨rfl, hb⟩
  have HZ := Lib.hid ((hb.block (w.heap.size + 1) (by simp; omega)).trans ((Below.heap_alloc w' _ _ hz1).trans HT.out.2.1))
  have HB := Lib.hid (HT.out.2.2.trans ((put_below hb).mono (by omega)))
  clear hb hcell s0 s1 s2 s3
  go_wp2_with (refine wpList_store_row rfl 34 (.tmp 4) _ rfl (w.heap.size + 1) (gotC ⟨0, 1, 1, r, 0, 0, 0, 0, 0⟩) rfl rfl 34 _ HZ.out info34 rfl (gotC_one _) ?_)
  exact ⟨rfl, _, got_end (w := w) rfl rfl (setRow_heap _ _ _ _ _ _ HZ.out), rfl, below_setRow HB.out (by omega) _⟩
/-- A letter is held, and what comes makes nothing with it, and may be held. -/
theorem get_keep (h : Int) (hf : fitsB 0 0 0 h = true) (hh : h ≠ 0) (ad : Addr) (n cap : Nat) (hn : ((n : Int) == 0) = false) (hm : n ≤ 9223372036854775807) (hn1 : 0 < n) (y u : Int) (hy0 : 0 ≤ y) (hy1 : y ≤ 255) (w : World) (hw : ListAt w) (hc : w.cell? ad = some (.int .u8 y)) (hu : scalarB y = u) (hu1 : u ≠ 65533) (hr : composeL h u = none) (hl : holdsB u = true) :
    Calls Tryd.prog 12 #[stV 0 0 0 h, .slice (some ad) n cap] w fun e w' => e = .returned (gotV ⟨0, 1, 1, h, 0, 0, 0, 0, u⟩) ∧ Below w.heap.size w w' := by
  have h1 := fits_calls 0 0 0 h
  rw [hf] at h1
  have H1 := Lib.hid h1
  have h2 := scalar_calls y hy0 hy1
  rw [hu] at h2
  have H2 := Lib.hid h2
  have h3 := compose_calls h u
  rw [hr] at h3
  have H3 := Lib.hid h3
  have h4 := holds_calls u
  rw [hl] at h4
  have H4 := Lib.hid h4
  have HC := Lib.hid hc
  have HW := Lib.hid hw
  have hu' : (u == 65533) = false := by simp [hu1]
  have hh' : (h != 0) = true := by simp [hh]
  have hh2 : (h == 0) = false := by simp [hh]
  clear h1 h2 h3 h4 hc hw hu hu1 hh hf hr hl
  go_enter Tryd.func12, Tryd.ntmps12
  go_wp2_with fail
  refine (H1.out _).mono ?_
  rintro e w' ⟨rfl, hb⟩
  have HT := Lib.hid (two_blocks hb)
  clear hb
  have hcell := (HT.out.2.2.cell (p := ad) (block_lt_of_cell HC.out)).trans HC.out
  obtain ⟨s0, s1, s2, s3⟩ := st_cells HT.out.1
  have hz0 : w.heap.size < w'.heap.size := (Array.getElem?_eq_some_iff.1 HT.out.1).1
  have hz1 : w.heap.size + 1 < w'.heap.size := (Array.getElem?_eq_some_iff.1 HT.out.2.1).1
  go_wp2_with fail
  refine (H2.out _ (HW.out.below HT.out.2.2)).mono ?_
  rintro e w2 ⟨rfl, rfl⟩
  go_wp2_with fail
  refine (H3.out _).mono ?_
  rintro e w3 ⟨rfl, hb⟩
  have HZ := Lib.hid ((hb.block (w.heap.size + 1) (by simp; omega)).trans ((Below.heap_alloc w' _ _ hz1).trans HT.out.2.1))
  have HS := Lib.hid ((hb.block w.heap.size (by simp; omega)).trans ((Below.heap_alloc w' _ _ hz0).trans HT.out.1))
  have HG := Lib.hid (show w3.heap[w'.heap.size]? = some (.cells (gotC ⟨0, 1, 0, 0, 0, 0, 0, 0, 0⟩) 34 (0, 0)) from put_block hb)
  have HB := Lib.hid (HT.out.2.2.trans ((put_below hb).mono (by omega)))
  have hzz : w.heap.size ≤ w'.heap.size := by omega
  clear hb hcell s0 s1 s2 s3
  obtain ⟨k2, k3, k4, k8, f2, f3, f4, f8⟩ := got_fields HG.out
  dsimp only at k2 k3 k4 k8
  obtain ⟨s0, s1, s2, s3⟩ := st_cells HS.out
  clear s0 s1 s2
  go_wp2_with fail
  go_region
  go_wp2_with fail
  obtain ⟨W, hW⟩ : ∃ W, ((w3.setCell ⟨w'.heap.size, 2, none⟩ (.int .i64 1)).setCell ⟨w'.heap.size, 3, none⟩ (.int .i32 h)).drew = W := ⟨_, rfl⟩
  have HW1 := Lib.hid (show W.heap[w'.heap.size]? = some (.cells (gotC ⟨0, 1, 1, h, 0, 0, 0, 0, 0⟩) 34 (0, 0)) by subst hW; exact got_set3 (got_set2 HG.out 1) h)
  have HW2 := Lib.hid (show W.heap[w.heap.size + 1]? = some (.cells (gotC ⟨0, 0, 0, 0, 0, 0, 0, 0, 0⟩) 34 (0, 0)) by subst hW; exact (heap_setCell_other _ _ _ _ (by show w.heap.size + 1 ≠ w'.heap.size; omega)).trans ((heap_setCell_other _ _ _ _ (by show w.heap.size + 1 ≠ w'.heap.size; omega)).trans HZ.out))
  have HW3 := Lib.hid (show Below w.heap.size w W by subst hW; exact ((HB.out.setCell hzz _).setCell hzz _).drew)
  rw [hW]
  clear hW k2 k3 k4 k8 f2 f3 f4 f8 HG HZ HB HS s3
  refine (H4.out _).mono ?_
  rintro e w4 ⟨rfl, hb⟩
  have HG := Lib.hid ((hb.block _ (Array.getElem?_eq_some_iff.1 HW1.out).1).trans HW1.out)
  have HZ := Lib.hid ((hb.block _ (Array.getElem?_eq_some_iff.1 HW2.out).1).trans HW2.out)
  have HB := Lib.hid (below_then HW3.out HW3.out.size hb)
  clear hb HW1 HW2 HW3
  obtain ⟨k2, k3, k4, k8, f2, f3, f4, f8⟩ := got_fields HG.out
  dsimp only at k2 k3 k4 k8
  have HL := Lib.hid (got_set8 HG.out u)
  have HZ2 := Lib.hid (show (w4.setCell ⟨w'.heap.size, 8, none⟩ (.int .i32 u)).heap[w.heap.size + 1]? = _ from (heap_setCell_other _ _ _ _ (by show w.heap.size + 1 ≠ w'.heap.size; omega)).trans HZ.out)
  go_wp2_with (first | (refine wpList_load_row rfl 34 (.tmp 6) rfl w'.heap.size rfl 34 _ (0, 0) _ HL.out Tryd.underlying34 rfl info34 ?_) | (refine wpList_store_row rfl 34 (.tmp 4) _ rfl (w.heap.size + 1) (gotC ⟨0, 1, 1, h, 0, 0, 0, 0, u⟩) rfl rfl 34 _ HZ2.out info34 rfl (gotC_one _) ?_))
  exact ⟨rfl, _, got_end (w := w) rfl rfl (setRow_heap _ _ _ _ _ _ HZ2.out), rfl, below_setRow (HB.out.setCell hzz _) (by omega) _⟩
/-- A letter is held, and what comes makes nothing with it, and may not be held. -/
theorem get_both (h : Int) (hf : fitsB 0 0 0 h = true) (hh : h ≠ 0) (ad : Addr) (n cap : Nat) (hn : ((n : Int) == 0) = false) (hm : n ≤ 9223372036854775807) (hn1 : 0 < n) (y u : Int) (hy0 : 0 ≤ y) (hy1 : y ≤ 255) (w : World) (hw : ListAt w) (hc : w.cell? ad = some (.int .u8 y)) (hu : scalarB y = u) (hu1 : u ≠ 65533) (hr : composeL h u = none) (hl : holdsB u = false) :
    Calls Tryd.prog 12 #[stV 0 0 0 h, .slice (some ad) n cap] w fun e w' => e = .returned (gotV ⟨0, 1, 2, h, u, 0, 0, 0, 0⟩) ∧ Below w.heap.size w w' := by
  have h1 := fits_calls 0 0 0 h
  rw [hf] at h1
  have H1 := Lib.hid h1
  have h2 := scalar_calls y hy0 hy1
  rw [hu] at h2
  have H2 := Lib.hid h2
  have h3 := compose_calls h u
  rw [hr] at h3
  have H3 := Lib.hid h3
  have h4 := holds_calls u
  rw [hl] at h4
  have H4 := Lib.hid h4
  have HC := Lib.hid hc
  have HW := Lib.hid hw
  have hu' : (u == 65533) = false := by simp [hu1]
  have hh' : (h != 0) = true := by simp [hh]
  have hh2 : (h == 0) = false := by simp [hh]
  clear h1 h2 h3 h4 hc hw hu hu1 hh hf hr hl
  go_enter Tryd.func12, Tryd.ntmps12
  go_wp2_with fail
  refine (H1.out _).mono ?_
  rintro e w' ⟨rfl, hb⟩
  have HT := Lib.hid (two_blocks hb)
  clear hb
  have hcell := (HT.out.2.2.cell (p := ad) (block_lt_of_cell HC.out)).trans HC.out
  obtain ⟨s0, s1, s2, s3⟩ := st_cells HT.out.1
  have hz0 : w.heap.size < w'.heap.size := (Array.getElem?_eq_some_iff.1 HT.out.1).1
  have hz1 : w.heap.size + 1 < w'.heap.size := (Array.getElem?_eq_some_iff.1 HT.out.2.1).1
  go_wp2_with fail
  refine (H2.out _ (HW.out.below HT.out.2.2)).mono ?_
  rintro e w2 ⟨rfl, rfl⟩
  go_wp2_with fail
  refine (H3.out _).mono ?_
  rintro e w3 ⟨rfl, hb⟩
  have HZ := Lib.hid ((hb.block (w.heap.size + 1) (by simp; omega)).trans ((Below.heap_alloc w' _ _ hz1).trans HT.out.2.1))
  have HS := Lib.hid ((hb.block w.heap.size (by simp; omega)).trans ((Below.heap_alloc w' _ _ hz0).trans HT.out.1))
  have HG := Lib.hid (show w3.heap[w'.heap.size]? = some (.cells (gotC ⟨0, 1, 0, 0, 0, 0, 0, 0, 0⟩) 34 (0, 0)) from put_block hb)
  have HB := Lib.hid (HT.out.2.2.trans ((put_below hb).mono (by omega)))
  have hzz : w.heap.size ≤ w'.heap.size := by omega
  clear hb hcell s0 s1 s2 s3
  obtain ⟨k2, k3, k4, k8, f2, f3, f4, f8⟩ := got_fields HG.out
  dsimp only at k2 k3 k4 k8
  obtain ⟨s0, s1, s2, s3⟩ := st_cells HS.out
  clear s0 s1 s2
  go_wp2_with fail
  go_region
  go_wp2_with fail
  obtain ⟨W, hW⟩ : ∃ W, ((w3.setCell ⟨w'.heap.size, 2, none⟩ (.int .i64 1)).setCell ⟨w'.heap.size, 3, none⟩ (.int .i32 h)).drew = W := ⟨_, rfl⟩
  have HW1 := Lib.hid (show W.heap[w'.heap.size]? = some (.cells (gotC ⟨0, 1, 1, h, 0, 0, 0, 0, 0⟩) 34 (0, 0)) by subst hW; exact got_set3 (got_set2 HG.out 1) h)
  have HW2 := Lib.hid (show W.heap[w.heap.size + 1]? = some (.cells (gotC ⟨0, 0, 0, 0, 0, 0, 0, 0, 0⟩) 34 (0, 0)) by subst hW; exact (heap_setCell_other _ _ _ _ (by show w.heap.size + 1 ≠ w'.heap.size; omega)).trans ((heap_setCell_other _ _ _ _ (by show w.heap.size + 1 ≠ w'.heap.size; omega)).trans HZ.out))
  have HW3 := Lib.hid (show Below w.heap.size w W by subst hW; exact ((HB.out.setCell hzz _).setCell hzz _).drew)
  rw [hW]
  clear hW k2 k3 k4 k8 f2 f3 f4 f8 HG HZ HB HS s3
  refine (H4.out _).mono ?_
  rintro e w4 ⟨rfl, hb⟩
  have HG := Lib.hid ((hb.block _ (Array.getElem?_eq_some_iff.1 HW1.out).1).trans HW1.out)
  have HZ := Lib.hid ((hb.block _ (Array.getElem?_eq_some_iff.1 HW2.out).1).trans HW2.out)
  have HB := Lib.hid (below_then HW3.out HW3.out.size hb)
  clear hb HW1 HW2 HW3
  obtain ⟨k2, k3, k4, k8, f2, f3, f4, f8⟩ := got_fields HG.out
  dsimp only at k2 k3 k4 k8
  have HL := Lib.hid (got_set4 (got_set2 HG.out 2) u)
  have HZ2 := Lib.hid (show ((w4.setCell ⟨w'.heap.size, 2, none⟩ (.int .i64 2)).setCell ⟨w'.heap.size, 4, none⟩ (.int .i32 u)).heap[w.heap.size + 1]? = _ from (heap_setCell_other _ _ _ _ (by show w.heap.size + 1 ≠ w'.heap.size; omega)).trans ((heap_setCell_other _ _ _ _ (by show w.heap.size + 1 ≠ w'.heap.size; omega)).trans HZ.out))
  go_wp2_with (first | (refine wpList_load_row rfl 34 (.tmp 6) rfl w'.heap.size rfl 34 _ (0, 0) _ HL.out Tryd.underlying34 rfl info34 ?_) | (refine wpList_store_row rfl 34 (.tmp 4) _ rfl (w.heap.size + 1) (gotC ⟨0, 1, 2, h, u, 0, 0, 0, 0⟩) rfl rfl 34 _ HZ2.out info34 rfl (gotC_one _) ?_))
  exact ⟨rfl, _, got_end (w := w) rfl rfl (setRow_heap _ _ _ _ _ _ HZ2.out), rfl, below_setRow ((HB.out.setCell hzz _).setCell hzz _) (by omega) _⟩
end Go.Proofs.YtadpmdlajfojiaaDoor
