/- The reference's Get; both at one function. -/
import Derived.Test.YtadpmdlajfojiaaDoorVP
namespace Go.Proofs.YtadpmdlajfojiaaDoor
open Go.RowKit
theorem rcompose_b (l m : Int) (w : World) : Calls Tryd.prog 25 #[.int .i32 l, .int .i32 m] w fun e w' => e = .returned (.tuple #[.int .i32 ((composeL l m).getD 0), .bool (composeL l m).isSome]) ∧ Below w.heap.size w w' := (rcompose_calls l m w).mono fun _ _ ⟨h1, h2⟩ => ⟨h1, below_drawn h2⟩
theorem rscalar_b (b : Int) (h0 : 0 ≤ b) (h1 : b ≤ 255) (w : World) : Calls Tryd.prog 24 #[.int .u8 b] w fun e w' => e = .returned (.int .i32 (scalarB b)) ∧ Below w.heap.size w w' := (rscalar_calls b h0 h1 w).mono fun _ _ ⟨h1, h2⟩ => ⟨h1, below_drawn h2⟩
set_option maxRecDepth 100000 in
set_option maxHeartbeats 1600000 in
theorem rget_unfit (a b c h : Int) (v : Value) (hf : fitsB a b c h = false) (w : World) : Calls Tryd.prog 13 #[stV a b c h, v] w fun e w' => e = .returned (gotV ⟨7, 0, 0, 0, 0, 0, 0, 0, 0⟩) ∧ Below w.heap.size w w' := by
  have h1 := rfits_calls a b c h
  rw [hf] at h1
  have H1 := Lib.hid h1
  clear h1 hf
  go_enter Tryd.func13, Tryd.ntmps13
  go_wp2_with fail
  refine (H1.out _).mono ?_
  rintro e w' ⟨rfl, hb⟩
  have HT := Lib.hid (two_blocks hb)
  clear hb
  go_wp2_with (refine wpList_store_row rfl 34 (.tmp 4) _ rfl (w.heap.size + 1) (gotC ⟨7, 0, 0, 0, 0, 0, 0, 0, 0⟩) rfl rfl 34 _ HT.out.2.1 info34 rfl (gotC_one _) ?_)
  exact ⟨rfl, _, got_end (w := w) rfl rfl (setRow_heap _ _ _ _ _ _ HT.out.2.1), rfl, below_setRow HT.out.2.2 (by omega) _⟩
set_option maxRecDepth 100000 in
set_option maxHeartbeats 1600000 in
theorem rget_empty (a b c h : Int) (A : Option Addr) (cap : Nat) (hf : fitsB a b c h = true) (w : World) : Calls Tryd.prog 13 #[stV a b c h, .slice A 0 cap] w fun e w' => e = .returned (gotV ⟨1, 0, 0, 0, 0, 0, 0, 0, 0⟩) ∧ Below w.heap.size w w' := by
  have h1 := rfits_calls a b c h
  rw [hf] at h1
  have H1 := Lib.hid h1
  clear h1 hf
  go_enter Tryd.func13, Tryd.ntmps13
  go_wp2_with fail
  refine (H1.out _).mono ?_
  rintro e w' ⟨rfl, hb⟩
  have HT := Lib.hid (two_blocks hb)
  clear hb
  go_wp2_with (refine wpList_store_row rfl 34 (.tmp 4) _ rfl (w.heap.size + 1) (gotC ⟨1, 0, 0, 0, 0, 0, 0, 0, 0⟩) rfl rfl 34 _ HT.out.2.1 info34 rfl (gotC_one _) ?_)
  exact ⟨rfl, _, got_end (w := w) rfl rfl (setRow_heap _ _ _ _ _ _ HT.out.2.1), rfl, below_setRow HT.out.2.2 (by omega) _⟩
set_option maxRecDepth 100000 in
set_option maxHeartbeats 1600000 in
theorem rget_illegal (a b c h : Int) (hf : fitsB a b c h = true) (ad : Addr) (n cap : Nat) (hn : ((n : Int) == 0) = false) (hm : n ≤ 9223372036854775807) (hn1 : 0 < n) (y u : Int) (hy0 : 0 ≤ y) (hy1 : y ≤ 255) (w : World) (hc : w.cell? ad = some (.int .u8 y)) (hu : scalarB y = u) (hu1 : u = 65533)  :
    Calls Tryd.prog 13 #[stV a b c h, .slice (some ad) n cap] w fun e w' => e = .returned (gotV ⟨10, 1, 0, 0, 0, a, b, c, h⟩) ∧ Below w.heap.size w w' := by
  subst hu1
  have h1 := rfits_calls a b c h
  rw [hf] at h1
  have H1 := Lib.hid h1
  have h2 := rscalar_b y hy0 hy1
  rw [hu] at h2
  have H2 := Lib.hid h2
  have HC := Lib.hid hc
  clear h1 h2 hc hu hf
  go_enter Tryd.func13, Tryd.ntmps13
  go_wp2_with fail
  refine (H1.out _).mono ?_
  rintro e w1 ⟨rfl, hb⟩
  have HT1 := Lib.hid (two_blocks hb)
  clear hb
  have hcell := (HT1.out.2.2.cell (p := ad) (block_lt_of_cell HC.out)).trans HC.out
  obtain ⟨s0, s1, s2, s3⟩ := st_cells HT1.out.1
  go_wp2_with fail
  refine (H2.out _).mono ?_
  rintro e w2 ⟨rfl, hb⟩
  have HT2 := Lib.hid (show w2.heap[w.heap.size]? = _ ∧ w2.heap[w.heap.size + 1]? = _ ∧ Below w.heap.size w w2 from ⟨(hb.block _ (Array.getElem?_eq_some_iff.1 HT1.out.1).1).trans HT1.out.1, (hb.block _ (Array.getElem?_eq_some_iff.1 HT1.out.2.1).1).trans HT1.out.2.1, below_then HT1.out.2.2 HT1.out.2.2.size hb⟩)
  clear hb s0 s1 s2 s3 HT1
  obtain ⟨s0, s1, s2, s3⟩ := st_cells HT2.out.1
  go_wp2_with (refine wpList_store_row rfl 34 (.tmp 4) _ rfl (w.heap.size + 1) (gotC ⟨10, 1, 0, 0, 0, a, b, c, h⟩) rfl rfl 34 _ HT2.out.2.1 info34 rfl (gotC_one _) ?_)
  exact ⟨rfl, _, got_end (w := w) rfl rfl (setRow_heap _ _ _ _ _ _ HT2.out.2.1), rfl, below_setRow HT2.out.2.2 (by omega) _⟩
set_option maxRecDepth 100000 in
set_option maxHeartbeats 1600000 in
theorem rget_plain (ad : Addr) (n cap : Nat) (hn : ((n : Int) == 0) = false) (hm : n ≤ 9223372036854775807) (hn1 : 0 < n) (y u : Int) (hy0 : 0 ≤ y) (hy1 : y ≤ 255) (w : World) (hc : w.cell? ad = some (.int .u8 y)) (hu : scalarB y = u) (hu1 : u ≠ 65533) (hh : holdsB u = false) :
    Calls Tryd.prog 13 #[stV 0 0 0 0, .slice (some ad) n cap] w fun e w' => e = .returned (gotV ⟨0, 1, 1, u, 0, 0, 0, 0, 0⟩) ∧ Below w.heap.size w w' := by
  have h1 := rfits_calls 0 0 0 0
  rw [show fitsB 0 0 0 0 = true by simp [fitsB]] at h1
  have H1 := Lib.hid h1
  have h2 := rscalar_b y hy0 hy1
  rw [hu] at h2
  have H2 := Lib.hid h2
  have h4 := rholds_b u
  rw [hh] at h4
  have H4 := Lib.hid h4
  clear h4
  have HC := Lib.hid hc
  have hu' : (u == 65533) = false := by simp [hu1]
  clear hu1
  clear h1 h2 hc hu hh
  go_enter Tryd.func13, Tryd.ntmps13
  go_wp2_with fail
  refine (H1.out _).mono ?_
  rintro e w1 ⟨rfl, hb⟩
  have HT1 := Lib.hid (two_blocks hb)
  clear hb
  have hcell := (HT1.out.2.2.cell (p := ad) (block_lt_of_cell HC.out)).trans HC.out
  obtain ⟨s0, s1, s2, s3⟩ := st_cells HT1.out.1
  go_wp2_with fail
  refine (H2.out _).mono ?_
  rintro e w2 ⟨rfl, hb⟩
  have HT2 := Lib.hid (show w2.heap[w.heap.size]? = _ ∧ w2.heap[w.heap.size + 1]? = _ ∧ Below w.heap.size w w2 from ⟨(hb.block _ (Array.getElem?_eq_some_iff.1 HT1.out.1).1).trans HT1.out.1, (hb.block _ (Array.getElem?_eq_some_iff.1 HT1.out.2.1).1).trans HT1.out.2.1, below_then HT1.out.2.2 HT1.out.2.2.size hb⟩)
  clear hb s0 s1 s2 s3 HT1
  obtain ⟨s0, s1, s2, s3⟩ := st_cells HT2.out.1
  go_wp2_with fail
  refine (H4.out _).mono ?_
  rintro e w3 ⟨rfl, hb⟩
  have HT3 := Lib.hid (show w3.heap[w.heap.size]? = _ ∧ w3.heap[w.heap.size + 1]? = _ ∧ Below w.heap.size w w3 from ⟨(hb.block _ (Array.getElem?_eq_some_iff.1 HT2.out.1).1).trans HT2.out.1, (hb.block _ (Array.getElem?_eq_some_iff.1 HT2.out.2.1).1).trans HT2.out.2.1, below_then HT2.out.2.2 HT2.out.2.2.size hb⟩)
  clear hb s0 s1 s2 s3 HT2
  obtain ⟨s0, s1, s2, s3⟩ := st_cells HT3.out.1
  go_wp2_with (refine wpList_store_row rfl 34 (.tmp 4) _ rfl (w.heap.size + 1) (gotC ⟨0, 1, 1, u, 0, 0, 0, 0, 0⟩) rfl rfl 34 _ HT3.out.2.1 info34 rfl (gotC_one _) ?_)
  exact ⟨rfl, _, got_end (w := w) rfl rfl (setRow_heap _ _ _ _ _ _ HT3.out.2.1), rfl, below_setRow HT3.out.2.2 (by omega) _⟩
set_option maxRecDepth 100000 in
set_option maxHeartbeats 1600000 in
theorem rget_hold (ad : Addr) (n cap : Nat) (hn : ((n : Int) == 0) = false) (hm : n ≤ 9223372036854775807) (hn1 : 0 < n) (y u : Int) (hy0 : 0 ≤ y) (hy1 : y ≤ 255) (w : World) (hc : w.cell? ad = some (.int .u8 y)) (hu : scalarB y = u) (hu1 : u ≠ 65533) (hh : holdsB u = true) :
    Calls Tryd.prog 13 #[stV 0 0 0 0, .slice (some ad) n cap] w fun e w' => e = .returned (gotV ⟨0, 1, 0, 0, 0, 0, 0, 0, u⟩) ∧ Below w.heap.size w w' := by
  have h1 := rfits_calls 0 0 0 0
  rw [show fitsB 0 0 0 0 = true by simp [fitsB]] at h1
  have H1 := Lib.hid h1
  have h2 := rscalar_b y hy0 hy1
  rw [hu] at h2
  have H2 := Lib.hid h2
  have h4 := rholds_b u
  rw [hh] at h4
  have H4 := Lib.hid h4
  clear h4
  have HC := Lib.hid hc
  have hu' : (u == 65533) = false := by simp [hu1]
  clear hu1
  clear h1 h2 hc hu hh
  go_enter Tryd.func13, Tryd.ntmps13
  go_wp2_with fail
  refine (H1.out _).mono ?_
  rintro e w1 ⟨rfl, hb⟩
  have HT1 := Lib.hid (two_blocks hb)
  clear hb
  have hcell := (HT1.out.2.2.cell (p := ad) (block_lt_of_cell HC.out)).trans HC.out
  obtain ⟨s0, s1, s2, s3⟩ := st_cells HT1.out.1
  go_wp2_with fail
  refine (H2.out _).mono ?_
  rintro e w2 ⟨rfl, hb⟩
  have HT2 := Lib.hid (show w2.heap[w.heap.size]? = _ ∧ w2.heap[w.heap.size + 1]? = _ ∧ Below w.heap.size w w2 from ⟨(hb.block _ (Array.getElem?_eq_some_iff.1 HT1.out.1).1).trans HT1.out.1, (hb.block _ (Array.getElem?_eq_some_iff.1 HT1.out.2.1).1).trans HT1.out.2.1, below_then HT1.out.2.2 HT1.out.2.2.size hb⟩)
  clear hb s0 s1 s2 s3 HT1
  obtain ⟨s0, s1, s2, s3⟩ := st_cells HT2.out.1
  go_wp2_with fail
  refine (H4.out _).mono ?_
  rintro e w3 ⟨rfl, hb⟩
  have HT3 := Lib.hid (show w3.heap[w.heap.size]? = _ ∧ w3.heap[w.heap.size + 1]? = _ ∧ Below w.heap.size w w3 from ⟨(hb.block _ (Array.getElem?_eq_some_iff.1 HT2.out.1).1).trans HT2.out.1, (hb.block _ (Array.getElem?_eq_some_iff.1 HT2.out.2.1).1).trans HT2.out.2.1, below_then HT2.out.2.2 HT2.out.2.2.size hb⟩)
  clear hb s0 s1 s2 s3 HT2
  obtain ⟨s0, s1, s2, s3⟩ := st_cells HT3.out.1
  go_wp2_with (refine wpList_store_row rfl 34 (.tmp 4) _ rfl (w.heap.size + 1) (gotC ⟨0, 1, 0, 0, 0, 0, 0, 0, u⟩) rfl rfl 34 _ HT3.out.2.1 info34 rfl (gotC_one _) ?_)
  exact ⟨rfl, _, got_end (w := w) rfl rfl (setRow_heap _ _ _ _ _ _ HT3.out.2.1), rfl, below_setRow HT3.out.2.2 (by omega) _⟩
set_option maxRecDepth 100000 in
set_option maxHeartbeats 1600000 in
theorem rget_made (h : Int) (hf : fitsB 0 0 0 h = true) (hh0 : h ≠ 0) (ad : Addr) (n cap : Nat) (hn : ((n : Int) == 0) = false) (hm : n ≤ 9223372036854775807) (hn1 : 0 < n) (y u : Int) (hy0 : 0 ≤ y) (hy1 : y ≤ 255) (w : World) (hc : w.cell? ad = some (.int .u8 y)) (hu : scalarB y = u) (hu1 : u ≠ 65533) (r : Int) (hr : composeL h u = some r) :
    Calls Tryd.prog 13 #[stV 0 0 0 h, .slice (some ad) n cap] w fun e w' => e = .returned (gotV ⟨0, 1, 1, r, 0, 0, 0, 0, 0⟩) ∧ Below w.heap.size w w' := by
  have h1 := rfits_calls 0 0 0 h
  rw [hf] at h1
  have H1 := Lib.hid h1
  have h2 := rscalar_b y hy0 hy1
  rw [hu] at h2
  have H2 := Lib.hid h2
  have h3 := rcompose_b h u
  rw [hr] at h3
  have H3 := Lib.hid h3
  clear h3
  have HC := Lib.hid hc
  have hu' : (u == 65533) = false := by simp [hu1]
  clear hu1
  have hh1 : (h != 0) = true := by simp [hh0]
  have hh2 : (h == 0) = false := by simp [hh0]
  clear hh0
  clear h1 h2 hc hu hf hr
  go_enter Tryd.func13, Tryd.ntmps13
  go_wp2_with fail
  refine (H1.out _).mono ?_
  rintro e w1 ⟨rfl, hb⟩
  have HT1 := Lib.hid (two_blocks hb)
  clear hb
  have hcell := (HT1.out.2.2.cell (p := ad) (block_lt_of_cell HC.out)).trans HC.out
  obtain ⟨s0, s1, s2, s3⟩ := st_cells HT1.out.1
  go_wp2_with fail
  refine (H2.out _).mono ?_
  rintro e w2 ⟨rfl, hb⟩
  have HT2 := Lib.hid (show w2.heap[w.heap.size]? = _ ∧ w2.heap[w.heap.size + 1]? = _ ∧ Below w.heap.size w w2 from ⟨(hb.block _ (Array.getElem?_eq_some_iff.1 HT1.out.1).1).trans HT1.out.1, (hb.block _ (Array.getElem?_eq_some_iff.1 HT1.out.2.1).1).trans HT1.out.2.1, below_then HT1.out.2.2 HT1.out.2.2.size hb⟩)
  clear hb s0 s1 s2 s3 HT1
  obtain ⟨s0, s1, s2, s3⟩ := st_cells HT2.out.1
  go_wp2_with fail
  refine (H3.out _).mono ?_
  rintro e w3 ⟨rfl, hb⟩
  have HT3 := Lib.hid (show w3.heap[w.heap.size]? = _ ∧ w3.heap[w.heap.size + 1]? = _ ∧ Below w.heap.size w w3 from ⟨(hb.block _ (Array.getElem?_eq_some_iff.1 HT2.out.1).1).trans HT2.out.1, (hb.block _ (Array.getElem?_eq_some_iff.1 HT2.out.2.1).1).trans HT2.out.2.1, below_then HT2.out.2.2 HT2.out.2.2.size hb⟩)
  clear hb s0 s1 s2 s3 HT2
  obtain ⟨s0, s1, s2, s3⟩ := st_cells HT3.out.1
  go_wp2_with (refine wpList_store_row rfl 34 (.tmp 4) _ rfl (w.heap.size + 1) (gotC ⟨0, 1, 1, r, 0, 0, 0, 0, 0⟩) rfl rfl 34 _ HT3.out.2.1 info34 rfl (gotC_one _) ?_)
  exact ⟨rfl, _, got_end (w := w) rfl rfl (setRow_heap _ _ _ _ _ _ HT3.out.2.1), rfl, below_setRow HT3.out.2.2 (by omega) _⟩
set_option maxRecDepth 100000 in
set_option maxHeartbeats 1600000 in
theorem rget_keep (h : Int) (hf : fitsB 0 0 0 h = true) (hh0 : h ≠ 0) (ad : Addr) (n cap : Nat) (hn : ((n : Int) == 0) = false) (hm : n ≤ 9223372036854775807) (hn1 : 0 < n) (y u : Int) (hy0 : 0 ≤ y) (hy1 : y ≤ 255) (w : World) (hc : w.cell? ad = some (.int .u8 y)) (hu : scalarB y = u) (hu1 : u ≠ 65533) (hr : composeL h u = none) (hh : holdsB u = true) :
    Calls Tryd.prog 13 #[stV 0 0 0 h, .slice (some ad) n cap] w fun e w' => e = .returned (gotV ⟨0, 1, 1, h, 0, 0, 0, 0, u⟩) ∧ Below w.heap.size w w' := by
  have h1 := rfits_calls 0 0 0 h
  rw [hf] at h1
  have H1 := Lib.hid h1
  have h2 := rscalar_b y hy0 hy1
  rw [hu] at h2
  have H2 := Lib.hid h2
  have h3 := rcompose_b h u
  rw [hr] at h3
  have H3 := Lib.hid h3
  clear h3
  have h4 := rholds_b u
  rw [hh] at h4
  have H4 := Lib.hid h4
  clear h4
  have HC := Lib.hid hc
  have hu' : (u == 65533) = false := by simp [hu1]
  clear hu1
  have hh1 : (h != 0) = true := by simp [hh0]
  have hh2 : (h == 0) = false := by simp [hh0]
  clear hh0
  clear h1 h2 hc hu hf hr hh
  go_enter Tryd.func13, Tryd.ntmps13
  go_wp2_with fail
  refine (H1.out _).mono ?_
  rintro e w1 ⟨rfl, hb⟩
  have HT1 := Lib.hid (two_blocks hb)
  clear hb
  have hcell := (HT1.out.2.2.cell (p := ad) (block_lt_of_cell HC.out)).trans HC.out
  obtain ⟨s0, s1, s2, s3⟩ := st_cells HT1.out.1
  go_wp2_with fail
  refine (H2.out _).mono ?_
  rintro e w2 ⟨rfl, hb⟩
  have HT2 := Lib.hid (show w2.heap[w.heap.size]? = _ ∧ w2.heap[w.heap.size + 1]? = _ ∧ Below w.heap.size w w2 from ⟨(hb.block _ (Array.getElem?_eq_some_iff.1 HT1.out.1).1).trans HT1.out.1, (hb.block _ (Array.getElem?_eq_some_iff.1 HT1.out.2.1).1).trans HT1.out.2.1, below_then HT1.out.2.2 HT1.out.2.2.size hb⟩)
  clear hb s0 s1 s2 s3 HT1
  obtain ⟨s0, s1, s2, s3⟩ := st_cells HT2.out.1
  go_wp2_with fail
  refine (H3.out _).mono ?_
  rintro e w3 ⟨rfl, hb⟩
  have HT3 := Lib.hid (show w3.heap[w.heap.size]? = _ ∧ w3.heap[w.heap.size + 1]? = _ ∧ Below w.heap.size w w3 from ⟨(hb.block _ (Array.getElem?_eq_some_iff.1 HT2.out.1).1).trans HT2.out.1, (hb.block _ (Array.getElem?_eq_some_iff.1 HT2.out.2.1).1).trans HT2.out.2.1, below_then HT2.out.2.2 HT2.out.2.2.size hb⟩)
  clear hb s0 s1 s2 s3 HT2
  obtain ⟨s0, s1, s2, s3⟩ := st_cells HT3.out.1
  go_wp2_with fail
  refine (H4.out _).mono ?_
  rintro e w4 ⟨rfl, hb⟩
  have HT4 := Lib.hid (show w4.heap[w.heap.size]? = _ ∧ w4.heap[w.heap.size + 1]? = _ ∧ Below w.heap.size w w4 from ⟨(hb.block _ (Array.getElem?_eq_some_iff.1 HT3.out.1).1).trans HT3.out.1, (hb.block _ (Array.getElem?_eq_some_iff.1 HT3.out.2.1).1).trans HT3.out.2.1, below_then HT3.out.2.2 HT3.out.2.2.size hb⟩)
  clear hb s0 s1 s2 s3 HT3
  obtain ⟨s0, s1, s2, s3⟩ := st_cells HT4.out.1
  go_wp2_with (refine wpList_store_row rfl 34 (.tmp 4) _ rfl (w.heap.size + 1) (gotC ⟨0, 1, 1, h, 0, 0, 0, 0, u⟩) rfl rfl 34 _ HT4.out.2.1 info34 rfl (gotC_one _) ?_)
  exact ⟨rfl, _, got_end (w := w) rfl rfl (setRow_heap _ _ _ _ _ _ HT4.out.2.1), rfl, below_setRow HT4.out.2.2 (by omega) _⟩
set_option maxRecDepth 100000 in
set_option maxHeartbeats 1600000 in
theorem rget_both (h : Int) (hf : fitsB 0 0 0 h = true) (hh0 : h ≠ 0) (ad : Addr) (n cap : Nat) (hn : ((n : Int) == 0) = false) (hm : n ≤ 9223372036854775807) (hn1 : 0 < n) (y u : Int) (hy0 : 0 ≤ y) (hy1 : y ≤ 255) (w : World) (hc : w.cell? ad = some (.int .u8 y)) (hu : scalarB y = u) (hu1 : u ≠ 65533) (hr : composeL h u = none) (hh : holdsB u = false) :
    Calls Tryd.prog 13 #[stV 0 0 0 h, .slice (some ad) n cap] w fun e w' => e = .returned (gotV ⟨0, 1, 2, h, u, 0, 0, 0, 0⟩) ∧ Below w.heap.size w w' := by
  have h1 := rfits_calls 0 0 0 h
  rw [hf] at h1
  have H1 := Lib.hid h1
  have h2 := rscalar_b y hy0 hy1
  rw [hu] at h2
  have H2 := Lib.hid h2
  have h3 := rcompose_b h u
  rw [hr] at h3
  have H3 := Lib.hid h3
  clear h3
  have h4 := rholds_b u
  rw [hh] at h4
  have H4 := Lib.hid h4
  clear h4
  have HC := Lib.hid hc
  have hu' : (u == 65533) = false := by simp [hu1]
  clear hu1
  have hh1 : (h != 0) = true := by simp [hh0]
  have hh2 : (h == 0) = false := by simp [hh0]
  clear hh0
  clear h1 h2 hc hu hf hr hh
  go_enter Tryd.func13, Tryd.ntmps13
  go_wp2_with fail
  refine (H1.out _).mono ?_
  rintro e w1 ⟨rfl, hb⟩
  have HT1 := Lib.hid (two_blocks hb)
  clear hb
  have hcell := (HT1.out.2.2.cell (p := ad) (block_lt_of_cell HC.out)).trans HC.out
  obtain ⟨s0, s1, s2, s3⟩ := st_cells HT1.out.1
  go_wp2_with fail
  refine (H2.out _).mono ?_
  rintro e w2 ⟨rfl, hb⟩
  have HT2 := Lib.hid (show w2.heap[w.heap.size]? = _ ∧ w2.heap[w.heap.size + 1]? = _ ∧ Below w.heap.size w w2 from ⟨(hb.block _ (Array.getElem?_eq_some_iff.1 HT1.out.1).1).trans HT1.out.1, (hb.block _ (Array.getElem?_eq_some_iff.1 HT1.out.2.1).1).trans HT1.out.2.1, below_then HT1.out.2.2 HT1.out.2.2.size hb⟩)
  clear hb s0 s1 s2 s3 HT1
  obtain ⟨s0, s1, s2, s3⟩ := st_cells HT2.out.1
  go_wp2_with fail
  refine (H3.out _).mono ?_
  rintro e w3 ⟨rfl, hb⟩
  have HT3 := Lib.hid (show w3.heap[w.heap.size]? = _ ∧ w3.heap[w.heap.size + 1]? = _ ∧ Below w.heap.size w w3 from ⟨(hb.block _ (Array.getElem?_eq_some_iff.1 HT2.out.1).1).trans HT2.out.1, (hb.block _ (Array.getElem?_eq_some_iff.1 HT2.out.2.1).1).trans HT2.out.2.1, below_then HT2.out.2.2 HT2.out.2.2.size hb⟩)
  clear hb s0 s1 s2 s3 HT2
  obtain ⟨s0, s1, s2, s3⟩ := st_cells HT3.out.1
  go_wp2_with fail
  refine (H4.out _).mono ?_
  rintro e w4 ⟨rfl, hb⟩
  have HT4 := Lib.hid (show w4.heap[w.heap.size]? = _ ∧ w4.heap[w.heap.size + 1]? = _ ∧ Below w.heap.size w w4 from ⟨(hb.block _ (Array.getElem?_eq_some_iff.1 HT3.out.1).1).trans HT3.out.1, (hb.block _ (Array.getElem?_eq_some_iff.1 HT3.out.2.1).1).trans HT3.out.2.1, below_then HT3.out.2.2 HT3.out.2.2.size hb⟩)
  clear hb s0 s1 s2 s3 HT3
  obtain ⟨s0, s1, s2, s3⟩ := st_cells HT4.out.1
  go_wp2_with (refine wpList_store_row rfl 34 (.tmp 4) _ rfl (w.heap.size + 1) (gotC ⟨0, 1, 2, h, u, 0, 0, 0, 0⟩) rfl rfl 34 _ HT4.out.2.1 info34 rfl (gotC_one _) ?_)
  exact ⟨rfl, _, got_end (w := w) rfl rfl (setRow_heap _ _ _ _ _ _ HT4.out.2.1), rfl, below_setRow HT4.out.2.2 (by omega) _⟩
end Go.Proofs.YtadpmdlajfojiaaDoor
