/- slices.Sort at the list, which rises already: the three outer functions. -/
import Derived.Test.YthafggbmomdkkaaDoorUB
namespace Go.Proofs.YthafggbmomdkkaaDoor
open Go.RowKit
set_option maxRecDepth 100000 in
set_option maxHeartbeats 1600000 in
theorem partial_calls (g cap : Nat) (w : World) (hw : RunesAt w g) :
    Calls Tryd.prog 37 #[.slice (some ⟨g, 0, none⟩) 212 cap, .int .i64 0, .int .i64 212] w fun e w' => e = .returned (.bool true) ∧ Below w.heap.size w w' := by
  have HW := Lib.hid hw
  clear hw
  go_enter Tryd.func37, Tryd.ntmps37
  go_wp2_with fail
  refine wp_loop_rounds 1 ?_
  rw [rounds_succ]
  go_wp2_with fail
  go_loopg [7] 211 (fun gg vi wr => ∃ (k n : Nat), k + gg = 212 ∧ 1 ≤ k ∧ vi = .int .i64 (k : Int) ∧ wr = w.drewN n)
  case atStart => exact ⟨1, 0, by omega, by omega, rfl, rfl⟩
  case round =>
    obtain ⟨k, n, hk, hk1, rfl, rfl⟩ := hrel
    cases gk with
    | zero =>
      obtain rfl : k = 212 := by omega
      have hd : decide (((212 : Nat) : Int) < 212) = false := by decide
      go_wp2_with fail
      go_quiet (first | (go_at_call 38; refine Calls.quiet_of_same (less_calls _ _ _)))
      go_wp2_with fail
      first | rw [Exit.noGoto_ret] | skip
      go_ret
      exact ⟨rfl, below_drewN (Below.refl _ _) _⟩
    | succ gg =>
      have hkz : (k : Int) < 212 := by omega
      have hk0 : (0 : Int) ≤ (k : Int) := by omega
      have hk2 : ((k - 1 : Nat) : Int) = (k : Int) - 1 := by omega
      have hk3 : (0 : Int) ≤ (k : Int) - 1 := by omega
      have hk4 : (k : Int) - 1 < 212 := by omega
      have hk5 : ((k : Int) - 1).toNat = k - 1 := by omega
      have c1 : (w.drewN n).cell? ⟨g, k, none⟩ = some (.int .i32 (allL.getD k 0)) := HW.out k (by omega)
      have c2 : (w.drewN n).cell? ⟨g, k - 1, none⟩ = some (.int .i32 (allL.getD (k - 1) 0)) := HW.out (k - 1) (by omega)
      have hle := all_le (i := k - 1) (j := k) (by omega) (by omega)
      obtain ⟨x, hx⟩ : ∃ x, allL.getD k 0 = x := ⟨_, rfl⟩
      obtain ⟨y, hy⟩ : ∃ y, allL.getD (k - 1) 0 = y := ⟨_, rfl⟩
      rw [hx, hy] at hle
      rw [hx] at c1
      rw [hy] at c2
      have hlt : (!decide (x < y)) = true := by simp; omega
      obtain ⟨X, hX⟩ : ∃ X, w.drewN n = X := ⟨_, rfl⟩
      have HX := Lib.hid hX
      rw [hX] at c1 c2 ⊢
      clear hX hx hy hle
      go_wp2_with fail
      go_quiet (first | (go_at_call 38; refine Calls.quiet_of_same (less_calls _ _ _)))
      go_wp2_with fail
      go_roundg gg
      case measure => omega
      case rel => exact ⟨k + 1, _, by omega, by omega, by go_num, by rw [← HX.out, World.drewN_drewN]⟩
set_option maxRecDepth 100000 in
set_option maxHeartbeats 1600000 in
theorem pdq_calls (g cap : Nat) (w : World) (hw : RunesAt w g) :
    Calls Tryd.prog 26 #[.slice (some ⟨g, 0, none⟩) 212 cap, .int .i64 0, .int .i64 212, .int .i64 8] w fun e w' => e = .returned (.tuple #[]) ∧ Below w.heap.size w w' := by
  have H1 := Lib.hid (pivot_calls g cap)
  have H2 := Lib.hid (partial_calls g cap)
  have HW := Lib.hid hw
  clear hw
  go_enter Tryd.func26, Tryd.ntmps26
  go_wp2_with fail
  refine wp_loop_rounds 1 ?_
  rw [rounds_succ]
  go_wp2_with fail
  refine (H1.out _ HW.out).mono ?_
  rintro e w1 ⟨rfl, hb⟩
  have B1 := Lib.hid hb
  clear hb
  go_wp2_with fail
  refine (H2.out _ (HW.out.below B1.out)).mono ?_
  rintro e w2 ⟨rfl, hb⟩
  have B2 := Lib.hid (below_then B1.out B1.out.size hb)
  clear hb
  go_wp2_with fail
  first | rw [Exit.noGoto_ret] | skip
  exact bodyPost_ret (results_none rfl _ _ _) rfl ⟨rfl, B2.out⟩
set_option maxRecDepth 100000 in
set_option maxHeartbeats 1600000 in
theorem sort_calls (g cap : Nat) (w : World) (hw : RunesAt w g) :
    Calls Tryd.prog 18 #[.slice (some ⟨g, 0, none⟩) 212 cap] w fun e w' => e = .returned (.tuple #[]) ∧ Below w.heap.size w w' := by
  have H1 := Lib.hid (Tryd.bits_Len 212 w (by decide) (by decide))
  have H2 := Lib.hid (pdq_calls g cap w hw)
  rw [show Lib.bitLen (Int.toNat 212) = 8 by decide +kernel] at H1
  clear hw
  go_enter Tryd.func18, Tryd.ntmps18
  go_wp2_with fail
  refine H1.out.mono ?_
  rintro e w1 ⟨rfl, rfl⟩
  go_wp2_with fail
  refine H2.out.mono ?_
  rintro e w2 ⟨rfl, hb⟩
  have B2 := Lib.hid hb
  clear hb
  go_wp2_with fail
  go_end0
  exact ⟨rfl, B2.out⟩
end Go.Proofs.YthafggbmomdkkaaDoor
