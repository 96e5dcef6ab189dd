/- slices.Sort at the list, which rises already. -/
import Derived.Test.YthafggbmomdkkaaDoorUA
namespace Go.Proofs.YthafggbmomdkkaaDoor
open Go.RowKit
/-- The list lies in a row. -/
def RunesAt (W : World) (g : Nat) : Prop := ∀ (j : Nat), j < 212 → W.cell? ⟨g, j, none⟩ = some (.int .i32 (allL.getD j 0))
theorem RunesAt.lt {W : World} {g : Nat} (h : RunesAt W g) : g < W.heap.size := block_lt_of_cell (h 0 (by omega))
theorem RunesAt.below {W X : World} {g : Nat} (h : RunesAt W g) (hb : Below W.heap.size W X) : RunesAt X g := fun j hj => (hb.cell (p := ⟨g, j, none⟩) (block_lt_of_cell (h j hj))).trans (h j hj)
set_option maxRecDepth 100000 in
set_option maxHeartbeats 800000 in
theorem nan_calls (a : Int) (w : World) : Calls Tryd.prog 51 #[.int .i32 a] w fun e w' => e = .returned (.bool false) ∧ w' = w := by
  have h : (a != a) = false := by simp
  go_enter Tryd.func51, Tryd.ntmps51
  go_wp2
  go_ret
  exact ⟨rfl, rfl⟩
set_option maxRecDepth 100000 in
set_option maxHeartbeats 800000 in
theorem less_calls (a b : Int) (w : World) : Calls Tryd.prog 38 #[.int .i32 a, .int .i32 b] w fun e w' => e = .returned (.bool (decide (a < b))) ∧ w' = w := by
  go_enter Tryd.func38, Tryd.ntmps38
  go_wp2_with fail
  refine (nan_calls a w).mono ?_
  rintro e w1 ⟨rfl, rfl⟩
  go_wp2_with fail
  go_ret
  exact ⟨rfl, rfl⟩
set_option maxRecDepth 100000 in
set_option maxHeartbeats 800000 in
theorem order_calls (g cap : Nat) (p : Addr) (i j : Nat) (hij : i ≤ j) (hj : j < 212) (w : World) (hw : RunesAt w g) :
    Calls Tryd.prog 56 #[.slice (some ⟨g, 0, none⟩) 212 cap, .int .i64 (i : Int), .int .i64 (j : Int), .pointer (some p)] w fun e w' => e = .returned (.tuple #[.int .i64 (i : Int), .int .i64 (j : Int)]) ∧ Below w.heap.size w w' := by
  have c1 := hw i (by omega)
  have c2 := hw j hj
  have hle := all_le hij hj
  obtain ⟨x, hx⟩ : ∃ x, allL.getD i 0 = x := ⟨_, rfl⟩
  obtain ⟨y, hy⟩ : ∃ y, allL.getD j 0 = y := ⟨_, rfl⟩
  rw [hx, hy] at hle
  rw [hx] at c1
  rw [hy] at c2
  have hlt : ¬ (y < x) := by omega
  have hi1 : (i : Int) < 212 := by omega
  have hj1 : (j : Int) < 212 := by omega
  have hi0 : (0 : Int) ≤ (i : Int) := by omega
  have hj0 : (0 : Int) ≤ (j : Int) := by omega
  clear hw hx hy hle
  go_enter Tryd.func56, Tryd.ntmps56
  go_wp2_with fail

  go_quiet (first | (go_at_call 38; refine Calls.quiet_of_same (less_calls _ _ _)))
  go_wp2_with fail
  go_ret2
  exact ⟨rfl, below_drewN (Below.refl _ _) _⟩
set_option maxRecDepth 100000 in
set_option maxHeartbeats 800000 in
theorem median_calls (g cap : Nat) (p : Addr) (i j k : Nat) (hij : i ≤ j) (hjk : j ≤ k) (hk : k < 212) (w : World) (hw : RunesAt w g) :
    Calls Tryd.prog 50 #[.slice (some ⟨g, 0, none⟩) 212 cap, .int .i64 (i : Int), .int .i64 (j : Int), .int .i64 (k : Int), .pointer (some p)] w fun e w' => e = .returned (.int .i64 (j : Int)) ∧ Below w.heap.size w w' := by
  have H1 := Lib.hid (order_calls g cap p i j hij (by omega))
  have H2 := Lib.hid (order_calls g cap p j k hjk hk)
  have HW := Lib.hid hw
  clear hw
  go_enter Tryd.func50, Tryd.ntmps50
  go_wp2_with fail
  refine (H1.out _ HW.out).mono ?_
  rintro e w1 ⟨rfl, hb⟩
  have B1 := Lib.hid hb
  clear hb
  go_wp2_with fail
  refine (H2.out _ (HW.out.below B1.out)).mono ?_
  rintro e w2 ⟨rfl, hb⟩
  have B2 := Lib.hid (below_then B1.out B1.out.size hb)
  clear hb
  go_wp2_with fail
  refine (H1.out _ (HW.out.below B2.out)).mono ?_
  rintro e w3 ⟨rfl, hb⟩
  have B3 := Lib.hid (below_then B2.out B2.out.size hb)
  clear hb
  go_wp2_with fail
  go_ret
  exact ⟨rfl, B3.out⟩
set_option maxRecDepth 100000 in
set_option maxHeartbeats 800000 in
theorem adj_calls (g cap : Nat) (p : Addr) (i : Nat) (h1 : 1 ≤ i) (h2 : i + 1 < 212) (w : World) (hw : RunesAt w g) :
    Calls Tryd.prog 49 #[.slice (some ⟨g, 0, none⟩) 212 cap, .int .i64 (i : Int), .pointer (some p)] w fun e w' => e = .returned (.int .i64 (i : Int)) ∧ Below w.heap.size w w' := by
  have H1 := Lib.hid (median_calls g cap p (i - 1) i (i + 1) (by omega) (by omega) h2)
  have HW := Lib.hid hw
  have e1 : ((i - 1 : Nat) : Int) = (i : Int) - 1 := by omega
  have e2 : ((i + 1 : Nat) : Int) = (i : Int) + 1 := by omega
  rw [e1, e2] at H1
  clear hw e1 e2
  go_enter Tryd.func49, Tryd.ntmps49
  go_wp2_with fail
  refine (H1.out _ HW.out).mono ?_
  rintro e w1 ⟨rfl, hb⟩
  have B1 := Lib.hid hb
  clear hb
  go_wp2_with fail
  go_ret
  exact ⟨rfl, B1.out⟩
set_option maxRecDepth 100000 in
set_option maxHeartbeats 1600000 in
theorem pivot_calls (g cap : Nat) (w : World) (hw : RunesAt w g) :
    Calls Tryd.prog 35 #[.slice (some ⟨g, 0, none⟩) 212 cap, .int .i64 0, .int .i64 212] w fun e w' => e = .returned (.tuple #[.int .i64 106, .int .i64 1]) ∧ Below w.heap.size w w' := by
  have H1 := Lib.hid (adj_calls g cap ⟨w.heap.size, 0, none⟩ 53 (by omega) (by omega))
  have H2 := Lib.hid (adj_calls g cap ⟨w.heap.size, 0, none⟩ 106 (by omega) (by omega))
  have H3 := Lib.hid (adj_calls g cap ⟨w.heap.size, 0, none⟩ 159 (by omega) (by omega))
  have H4 := Lib.hid (median_calls g cap ⟨w.heap.size, 0, none⟩ 53 106 159 (by omega) (by omega) (by omega))
  have HB := Lib.hid ((Below.refl _ w).alloc (Nat.le_refl _) (.cells #[.int .i64 0] 3))
  have HC := Lib.hid (show (w.alloc (.cells #[.int .i64 0] 3)).cell? ⟨w.heap.size, 0, none⟩ = some (.int .i64 0) by rw [cell_of_row _ _ _ _ _ _ (heap_alloc_new w _)]; rfl)
  have HW := Lib.hid hw
  clear hw
  go_enter Tryd.func35, Tryd.ntmps35
  go_wp2_with fail
  refine (H1.out _ (HW.out.below HB.out)).mono ?_
  rintro e w1 ⟨rfl, hb⟩
  have B1 := Lib.hid hb
  clear hb
  go_wp2_with fail
  refine (H2.out _ ((HW.out.below HB.out).below B1.out)).mono ?_
  rintro e w2 ⟨rfl, hb⟩
  have B2 := Lib.hid (below_then B1.out B1.out.size hb)
  clear hb
  go_wp2_with fail
  refine (H3.out _ ((HW.out.below HB.out).below B2.out)).mono ?_
  rintro e w3 ⟨rfl, hb⟩
  have B3 := Lib.hid (below_then B2.out B2.out.size hb)
  clear hb
  go_wp2_with fail
  refine (H4.out _ ((HW.out.below HB.out).below B3.out)).mono ?_
  rintro e w4 ⟨rfl, hb⟩
  have B4 := Lib.hid (below_then B3.out B3.out.size hb)
  clear hb
  have c0 := (B4.out.cell (p := ⟨w.heap.size, 0, none⟩) (by simp)).trans HC.out
  go_wp2_with fail
  go_ret2
  exact ⟨rfl, below_then HB.out (by simp) B4.out⟩
end Go.Proofs.YthafggbmomdkkaaDoor
