/- The walk of VietBytes. -/
import Derived.Test.YtadpmdlajfojiaaDoorVV
import Derived.Lib.ConvBytes
import Derived.Deep.RegionHeldLaw
namespace Go.Proofs.YtadpmdlajfojiaaDoor
open Go.RowKit
theorem low_scalar : (List.range 128).all (fun b => decide (scalarB (b : Int) = b)) = true := by kernel_rfl
theorem getR_illegal {y : Int} (h : scalarB y = 65533) : getR 0 0 0 0 (some y) = ⟨10, 1, 0, 0, 0, 0, 0, 0, 0⟩ := by
  simp [getR, fitsB, h]
theorem getR_hold {y : Int} (h : scalarB y ≠ 65533) (hh : holdsB (scalarB y) = true) : getR 0 0 0 0 (some y) = ⟨0, 1, 0, 0, 0, 0, 0, 0, scalarB y⟩ := by
  simp [getR, fitsB, h, hh]
theorem getR_plain {y : Int} (h : scalarB y ≠ 65533) (hh : holdsB (scalarB y) = false) : getR 0 0 0 0 (some y) = ⟨0, 1, 1, scalarB y, 0, 0, 0, 0, 0⟩ := by
  simp [getR, fitsB, h, hh]
theorem oneL_some {b : Nat} (hb : b < 256) (h : scalarB (b : Int) ≠ 65533) : ∃ c, oneL (scalarB (b : Int)) = some c ∧ c < 256 ∧ scalarB (c : Int) = scalarB (b : Int) := by
  cases hc : oneL (scalarB (b : Int)) with
  | none =>
    unfold oneL at hc
    rw [List.find?_eq_none] at hc
    exact absurd (by simp [oneP, h]) (hc b (List.mem_range.2 hb))
  | some c =>
    refine ⟨c, rfl, oneL_lt hc, ?_⟩
    have := List.find?_some hc
    simp only [oneP, decide_eq_true_eq] at this
    exact this.2
theorem holdsB_zero : holdsB 0 = false := by kernel_rfl
set_option maxRecDepth 100000 in
set_option maxHeartbeats 1600000 in
theorem bytes_illegal (b : Int) (h0 : 0 ≤ b) (h1 : b ≤ 255) (hu : scalarB b = 65533) (w : World) (hw : ListAt w) : Calls Tryd.prog 7 #[.int .u8 b] w fun e w' => e = .returned (.bool true) ∧ Below w.heap.size w w' := by
  have hb : 128 ≤ b := by
    rcases Int.lt_or_le b 128 with h | h
    · have := of_decide_eq_true (List.all_eq_true.1 low_scalar b.toNat (List.mem_range.2 (by omega)))
      rw [show ((b.toNat : Nat) : Int) = b by omega] at this
      omega
    · exact h
  have hW := works_calls
  have hg := fun A n cap w => get_any 0 0 0 0 A n cap (some b) w
  rw [getR_illegal hu] at hg
  unfold gotV gotC at hg
  dsimp only at hg
  have HG := Lib.hid hg
  have HW := Lib.hid hw
  have HK := Lib.hid hW
  clear hg hw hW hu
  go_enter Tryd.func7, Tryd.ntmps7
  go_wp2_with fail
  refine (HK.out _ HW.out).mono ?_
  rintro e w1 ⟨rfl, hb⟩
  have B1 := Lib.hid hb
  clear hb
  go_wp2_with fail
  refine (HG.out _ _ _ _ (HW.out.below (B1.out.alloc B1.out.size _)) (first_new _ b (by omega) (by omega) _ _)).mono ?_
  rintro e w2 ⟨rfl, hb⟩
  have B2 := Lib.hid (B1.out.trans ((put_below hb).mono B1.out.size))
  clear hb B1
  go_wp2_with fail
  go_ret
  exact ⟨rfl, B2.out.alloc B2.out.size _⟩
theorem below_bytes {B : Nat} {w W : World} (h : Below B w W) (hB : B ≤ W.heap.size) (e : TypeId) (s : ByteArray) : Below B w (Lib.bytesWorld W e s) := by
  refine h.trans ⟨?_, ?_, ?_, by rw [Lib.bytesWorld_size]; omega, fun i hi => Lib.bytesWorld_at_old W e s i (by omega)⟩ <;> (simp [Lib.bytesWorld, World.freeze]; try rfl)
theorem first_bytes (W : World) (y : Nat) (hy : y < 256) : First (Lib.bytesWorld W 5 (strOfNums [(y : Int)])) (some ⟨W.heap.size, 0, none⟩) (strOfNums [(y : Int)]).size (some (y : Int)) := by
  refine .inr ⟨_, y, by simp [strOfNums_size], by simp [strOfNums_size], rfl, rfl, by omega, by omega, ?_⟩
  rw [Lib.bytesWorld_cell W 5 _ 0 (by simp [strOfNums_size]), strOfNums_data]
  simp
  omega
/-- What the last statement reads. -/
structure BInv (w X : World) (q2 q3 : Nat) (s : ByteArray) (g : Got) : Prop where
  bl : Below w.heap.size w X
  p : X.heap[q3]? = some (.cells (putC 0 s) 27 (0, 0))
  g : X.heap[q2]? = some (.cells (gotC g) 34 (0, 0))
def BS (q2 q3 : Nat) (s : ByteArray) (g : Got) (X : World) : Prop :=
  X.cell? ⟨q3, 0, none⟩ = some (.int .i64 0) ∧ X.cell? ⟨q3, 1, none⟩ = some (.string s) ∧
  X.cell? ⟨q2, 0, none⟩ = some (.int .i64 g.err) ∧ X.cell? ⟨q2, 1, none⟩ = some (.int .i64 g.n) ∧ X.cell? ⟨q2, 2, none⟩ = some (.int .i64 g.k) ∧ X.cell? ⟨q2, 3, none⟩ = some (.int .i32 g.x) ∧ X.cell? ⟨q2, 4, none⟩ = some (.int .i32 g.y) ∧
  X.cell? ⟨q2, 5, none⟩ = some (.int .i64 g.a) ∧ X.cell? ⟨q2, 6, none⟩ = some (.int .i64 g.b) ∧ X.cell? ⟨q2, 7, none⟩ = some (.int .u32 g.c) ∧ X.cell? ⟨q2, 8, none⟩ = some (.int .i32 g.h)
theorem BInv.S {w X : World} {q2 q3 : Nat} {s : ByteArray} {g : Got} (h : BInv w X q2 q3 s g) : BS q2 q3 s g X := by
  unfold BS
  simp only [cell_of_row X _ _ _ _ _ h.p, cell_of_row X _ _ _ _ _ h.g]
  simp [putC, gotC]
theorem BInv.below {w X Y : World} {q2 q3 : Nat} {s : ByteArray} {g : Got} (h : BInv w X q2 q3 s g) (hb : Below X.heap.size X Y) : BInv w Y q2 q3 s g :=
  ⟨below_then h.bl h.bl.size hb, (hb.block _ (Array.getElem?_eq_some_iff.1 h.p).1).trans h.p, (hb.block _ (Array.getElem?_eq_some_iff.1 h.g).1).trans h.g⟩
theorem BInv.drew {w X : World} {q2 q3 : Nat} {s : ByteArray} {g : Got} (h : BInv w X q2 q3 s g) : BInv w X.drew q2 q3 s g := ⟨h.bl.drew, h.p, h.g⟩
set_option maxRecDepth 100000 in
set_option maxHeartbeats 1600000 in
theorem bytes_plain (b c : Nat) (hb : b < 256) (hc : c < 256) (u : Int) (hu : scalarB (b : Int) = u) (hcu : scalarB (c : Int) = u) (h1 : u ≠ 65533) (hh : holdsB u = false) (ho : oneL u = some c) (w : World) (hw : ListAt w) : Calls Tryd.prog 7 #[.int .u8 (b : Int)] w fun e w' => e = .returned (.bool true) ∧ Below w.heap.size w w' := by
  have hW := works_calls
  have hg := fun A n cap w => get_any 0 0 0 0 A n cap (some (b : Int)) w
  rw [getR_plain (by rw [hu]; exact h1) (by rw [hu]; exact hh), hu] at hg
  have hg2 := fun A n cap w => get_any 0 0 0 0 A n cap (some (c : Int)) w
  rw [getR_plain (by rw [hcu]; exact h1) (by rw [hcu]; exact hh), hcu] at hg2
  have hs := set_one u c ho
  unfold putV at hs
  unfold gotV gotC at hg hg2
  dsimp only at hg hg2
  have hcb := fun (s : ByteArray) (w : World) => Lib.run_convert_string_bytes (P := Tryd.prog) w 9 30 5 s Tryd.underlying9 Tryd.underlying30 Tryd.underlying5
  have hlow : b < 128 → u = b := fun h => by rw [← hu]; exact of_decide_eq_true (List.all_eq_true.1 low_scalar b (List.mem_range.2 h))
  have HG := Lib.hid hg
  have HG2 := Lib.hid hg2
  have HS := Lib.hid hs
  have HW := Lib.hid hw
  have HK := Lib.hid hW
  clear hg hg2 hs hw hW hu hcu h1 hh ho
  go_enter Tryd.func7, Tryd.ntmps7
  go_wp2_with fail
  refine (HK.out _ HW.out).mono ?_
  rintro e w1 ⟨rfl, hb⟩
  have B1 := Lib.hid hb
  clear hb
  go_wp2_with fail
  refine (HG.out _ _ _ _ (HW.out.below (B1.out.alloc B1.out.size _)) (first_new _ _ (by omega) (by omega) _ _)).mono ?_
  rintro e w2 ⟨rfl, hb⟩
  have B2 := Lib.hid (B1.out.trans ((put_below hb).mono B1.out.size))
  clear hb B1
  go_wp2_with fail
  refine (HS.out _ (HW.out.below (B2.out.alloc B2.out.size _))).mono ?_
  rintro e w3 ⟨rfl, hb⟩
  have B3 := Lib.hid (B2.out.trans ((put_below hb).mono B2.out.size))
  have H3 := Lib.hid (put_block hb)
  clear hb
  go_wp2_with fail
  obtain ⟨W, hW⟩ : ∃ W, w3.alloc (.cells #[.int .i64 0, .string (strOfNums [(c : Int)]), .int .i64 0, .int .i64 0, .int .u32 0, .int .i32 0] 27) = W := ⟨_, rfl⟩
  have I0 := Lib.hid (show BInv w W w2.heap.size w3.heap.size (strOfNums [(c : Int)]) ⟨0, 1, 1, u, 0, 0, 0, 0, 0⟩ from by
    subst hW
    exact ⟨B3.out.alloc B3.out.size _, heap_alloc_new w3 _, (Below.heap_alloc w3 _ _ (Array.getElem?_eq_some_iff.1 H3.out).1).trans H3.out⟩)
  rw [hW]
  clear hW B2 B3 H3
  have I1 := Lib.hid (I0.out.drew.below (below_bytes (Below.refl _ _) (Nat.le_refl _) 5 (strOfNums [(c : Int)])))
  have S0 := I0.out.drew.S
  have S1 := I1.out.S
  have hsz : (strOfNums [(c : Int)]).size = 1 := rfl
  by_cases hl : b < 128
  · have hub := hlow hl
    subst hub
    clear hlow
    have hwr : IntKind.i32.wrap (b : Int) = b := by rw [IntKind.wrap_i32]; omega
    have hge : decide (128 ≤ (b : Int)) = false := by simp; omega
    have hge2 : decide (128 ≤ b) = false := by simp; omega
    first | go_region_held_law (fun X => X.cell? ⟨w3.heap.size, 0, none⟩ = some (.int .i64 0) ∧ X.cell? ⟨w3.heap.size, 1, none⟩ = some (.string (strOfNums [(c : Int)])) ∧ X.cell? ⟨w2.heap.size, 0, none⟩ = some (.int .i64 0) ∧ X.cell? ⟨w2.heap.size, 1, none⟩ = some (.int .i64 1) ∧ X.cell? ⟨w2.heap.size, 2, none⟩ = some (.int .i64 1) ∧ X.cell? ⟨w2.heap.size, 3, none⟩ = some (.int .i32 (b : Int)) ∧ X.cell? ⟨w2.heap.size, 4, none⟩ = some (.int .i32 0) ∧ X.cell? ⟨w2.heap.size, 5, none⟩ = some (.int .i64 0) ∧ X.cell? ⟨w2.heap.size, 6, none⟩ = some (.int .i64 0) ∧ X.cell? ⟨w2.heap.size, 7, none⟩ = some (.int .u32 0) ∧ X.cell? ⟨w2.heap.size, 8, none⟩ = some (.int .i32 0))
      (first | exact S0 | exact S1 | exact S2)
      (first | (go_at_call 12; refine (HG2.out _ _ _ _ (HW.out.below I1.out.bl) (first_bytes _ c hc)).mono ?_; rintro e w4 ⟨rfl, hb⟩; have I2 := Lib.hid (I1.out.below hb); have S2 := I2.out.S; clear hb)) | fail
    all_goals go_wp2_with fail
    all_goals go_ret
    all_goals exact ⟨rfl, I2.out.bl⟩
  · clear hlow
    have hge : decide (128 ≤ (b : Int)) = true := by simp; omega
    have hge2 : decide (128 ≤ b) = true := by simp; omega
    first | go_region_held_law (fun X => X.cell? ⟨w3.heap.size, 0, none⟩ = some (.int .i64 0) ∧ X.cell? ⟨w3.heap.size, 1, none⟩ = some (.string (strOfNums [(c : Int)])) ∧ X.cell? ⟨w2.heap.size, 0, none⟩ = some (.int .i64 0) ∧ X.cell? ⟨w2.heap.size, 1, none⟩ = some (.int .i64 1) ∧ X.cell? ⟨w2.heap.size, 2, none⟩ = some (.int .i64 1) ∧ X.cell? ⟨w2.heap.size, 3, none⟩ = some (.int .i32 u) ∧ X.cell? ⟨w2.heap.size, 4, none⟩ = some (.int .i32 0) ∧ X.cell? ⟨w2.heap.size, 5, none⟩ = some (.int .i64 0) ∧ X.cell? ⟨w2.heap.size, 6, none⟩ = some (.int .i64 0) ∧ X.cell? ⟨w2.heap.size, 7, none⟩ = some (.int .u32 0) ∧ X.cell? ⟨w2.heap.size, 8, none⟩ = some (.int .i32 0))
      (first | exact S0 | exact S1 | exact S2)
      (first | (go_at_call 12; refine (HG2.out _ _ _ _ (HW.out.below I1.out.bl) (first_bytes _ c hc)).mono ?_; rintro e w4 ⟨rfl, hb⟩; have I2 := Lib.hid (I1.out.below hb); have S2 := I2.out.S; clear hb)) | fail
    all_goals go_wp2_with fail
    all_goals go_ret
    all_goals exact ⟨rfl, I2.out.bl⟩

set_option maxRecDepth 100000 in
set_option maxHeartbeats 1600000 in
theorem bytes_hold (b c : Nat) (hb : b < 256) (hc : c < 256) (u : Int) (hu : scalarB (b : Int) = u) (hcu : scalarB (c : Int) = u) (h1 : u ≠ 65533) (hh : holdsB u = true) (ho : oneL u = some c) (w : World) (hw : ListAt w) : Calls Tryd.prog 7 #[.int .u8 (b : Int)] w fun e w' => e = .returned (.bool true) ∧ Below w.heap.size w w' := by
  have hz : u ≠ 0 := fun h0 => by rw [h0, holdsB_zero] at hh; cases hh
  have hW := works_calls
  have hg := fun A n cap w => get_any 0 0 0 0 A n cap (some (b : Int)) w
  rw [getR_hold (by rw [hu]; exact h1) (by rw [hu]; exact hh), hu] at hg
  have hg2 := fun A n cap w => get_any 0 0 0 0 A n cap (some (c : Int)) w
  rw [getR_hold (by rw [hcu]; exact h1) (by rw [hcu]; exact hh), hcu] at hg2
  have hs := set_one u c ho
  have hd := drain_calls 0 0 0 u
  rw [show drainL 0 0 0 u = u by simp [drainL, drainB, fitsB, hh, hz], show drainB 0 0 0 u = true by simp [drainB, fitsB, hh, hz]] at hd
  unfold stV at hd
  unfold putV at hs
  unfold gotV gotC at hg hg2
  dsimp only at hg hg2
  have hcb := fun (s : ByteArray) (w : World) => Lib.run_convert_string_bytes (P := Tryd.prog) w 9 30 5 s Tryd.underlying9 Tryd.underlying30 Tryd.underlying5
  have hlow : b < 128 → u = b := fun h => by rw [← hu]; exact of_decide_eq_true (List.all_eq_true.1 low_scalar b (List.mem_range.2 h))
  have HG := Lib.hid hg
  have HG2 := Lib.hid hg2
  have HS := Lib.hid hs
  have HD := Lib.hid hd
  have HW := Lib.hid hw
  have HK := Lib.hid hW
  clear hg hg2 hs hd hz hw hW hu hcu h1 hh ho
  go_enter Tryd.func7, Tryd.ntmps7
  go_wp2_with fail
  refine (HK.out _ HW.out).mono ?_
  rintro e w1 ⟨rfl, hb⟩
  have B1 := Lib.hid hb
  clear hb
  go_wp2_with fail
  refine (HG.out _ _ _ _ (HW.out.below (B1.out.alloc B1.out.size _)) (first_new _ _ (by omega) (by omega) _ _)).mono ?_
  rintro e w2 ⟨rfl, hb⟩
  have B2 := Lib.hid (B1.out.trans ((put_below hb).mono B1.out.size))
  clear hb B1
  go_wp2_with fail
  refine (HD.out _).mono ?_
  rintro e w3 ⟨rfl, hb⟩
  have B2' := Lib.hid (B2.out.trans ((put_below hb).mono B2.out.size))
  have H2' := Lib.hid (put_block hb)
  clear hb B2
  go_wp2_with fail
  refine (HS.out _ (HW.out.below B2'.out)).mono ?_
  rintro e w4 ⟨rfl, hb⟩
  have B3 := Lib.hid (below_then B2'.out B2'.out.size hb)
  have H3 := Lib.hid ((hb.block _ (Array.getElem?_eq_some_iff.1 H2'.out).1).trans H2'.out)
  clear hb B2' H2'
  go_wp2_with fail
  obtain ⟨W, hW⟩ : ∃ W, w4.alloc (.cells #[.int .i64 0, .string (strOfNums [(c : Int)]), .int .i64 0, .int .i64 0, .int .u32 0, .int .i32 0] 27) = W := ⟨_, rfl⟩
  have I0 := Lib.hid (show BInv w W w2.heap.size w4.heap.size (strOfNums [(c : Int)]) ⟨0, 1, 0, 0, 0, 0, 0, 0, u⟩ from by
    subst hW
    exact ⟨B3.out.alloc B3.out.size _, heap_alloc_new w4 _, (Below.heap_alloc w4 _ _ (Array.getElem?_eq_some_iff.1 H3.out).1).trans H3.out⟩)
  rw [hW]
  clear hW B3 H3
  have I1 := Lib.hid (I0.out.drew.below (below_bytes (Below.refl _ _) (Nat.le_refl _) 5 (strOfNums [(c : Int)])))
  have S0 := I0.out.drew.S
  have S1 := I1.out.S
  have hsz : (strOfNums [(c : Int)]).size = 1 := rfl
  by_cases hl : b < 128
  · have hub := hlow hl
    subst hub
    clear hlow
    have hwr : IntKind.i32.wrap (b : Int) = b := by rw [IntKind.wrap_i32]; omega
    have hge : decide (128 ≤ (b : Int)) = false := by simp; omega
    have hge2 : decide (128 ≤ b) = false := by simp; omega
    first | go_region_held_law (fun X => X.cell? ⟨w4.heap.size, 0, none⟩ = some (.int .i64 0) ∧ X.cell? ⟨w4.heap.size, 1, none⟩ = some (.string (strOfNums [(c : Int)])) ∧ X.cell? ⟨w2.heap.size, 0, none⟩ = some (.int .i64 0) ∧ X.cell? ⟨w2.heap.size, 1, none⟩ = some (.int .i64 1) ∧ X.cell? ⟨w2.heap.size, 2, none⟩ = some (.int .i64 0) ∧ X.cell? ⟨w2.heap.size, 3, none⟩ = some (.int .i32 0) ∧ X.cell? ⟨w2.heap.size, 4, none⟩ = some (.int .i32 0) ∧ X.cell? ⟨w2.heap.size, 5, none⟩ = some (.int .i64 0) ∧ X.cell? ⟨w2.heap.size, 6, none⟩ = some (.int .i64 0) ∧ X.cell? ⟨w2.heap.size, 7, none⟩ = some (.int .u32 0) ∧ X.cell? ⟨w2.heap.size, 8, none⟩ = some (.int .i32 (b : Int)))
      (first | exact S0 | exact S1 | exact S2)
      (first | (go_at_call 12; refine (HG2.out _ _ _ _ (HW.out.below I1.out.bl) (first_bytes _ c hc)).mono ?_; rintro e w5 ⟨rfl, hb⟩; have I2 := Lib.hid (I1.out.below hb); have S2 := I2.out.S; clear hb)) | fail
    all_goals go_wp2_with fail
    all_goals go_ret
    all_goals exact ⟨rfl, I2.out.bl⟩
  · clear hlow
    have hge : decide (128 ≤ (b : Int)) = true := by simp; omega
    have hge2 : decide (128 ≤ b) = true := by simp; omega
    first | go_region_held_law (fun X => X.cell? ⟨w4.heap.size, 0, none⟩ = some (.int .i64 0) ∧ X.cell? ⟨w4.heap.size, 1, none⟩ = some (.string (strOfNums [(c : Int)])) ∧ X.cell? ⟨w2.heap.size, 0, none⟩ = some (.int .i64 0) ∧ X.cell? ⟨w2.heap.size, 1, none⟩ = some (.int .i64 1) ∧ X.cell? ⟨w2.heap.size, 2, none⟩ = some (.int .i64 0) ∧ X.cell? ⟨w2.heap.size, 3, none⟩ = some (.int .i32 0) ∧ X.cell? ⟨w2.heap.size, 4, none⟩ = some (.int .i32 0) ∧ X.cell? ⟨w2.heap.size, 5, none⟩ = some (.int .i64 0) ∧ X.cell? ⟨w2.heap.size, 6, none⟩ = some (.int .i64 0) ∧ X.cell? ⟨w2.heap.size, 7, none⟩ = some (.int .u32 0) ∧ X.cell? ⟨w2.heap.size, 8, none⟩ = some (.int .i32 u))
      (first | exact S0 | exact S1 | exact S2)
      (first | (go_at_call 12; refine (HG2.out _ _ _ _ (HW.out.below I1.out.bl) (first_bytes _ c hc)).mono ?_; rintro e w5 ⟨rfl, hb⟩; have I2 := Lib.hid (I1.out.below hb); have S2 := I2.out.S; clear hb)) | fail
    all_goals go_wp2_with fail
    all_goals go_ret
    all_goals exact ⟨rfl, I2.out.bl⟩

theorem vietBytes_calls (b : Int) (h0 : 0 ≤ b) (h1 : b ≤ 255) (w : World) (hw : ListAt w) : Calls Tryd.prog 7 #[.int .u8 b] w fun e w' => e = .returned (.bool true) ∧ Below w.heap.size w w' := by
  obtain ⟨n, rfl⟩ : ∃ n : Nat, b = (n : Int) := ⟨b.toNat, by omega⟩
  by_cases hu : scalarB (n : Int) = 65533
  · exact bytes_illegal _ h0 h1 hu w hw
  · obtain ⟨c, hc, hc1, hc2⟩ := oneL_some (by omega) hu
    by_cases hh : holdsB (scalarB (n : Int)) = true
    · exact bytes_hold n c (by omega) hc1 _ rfl hc2 hu hh hc w hw
    · exact bytes_plain n c (by omega) hc1 _ rfl hc2 hu (by simpa using hh) hc w hw

end Go.Proofs.YtadpmdlajfojiaaDoor
