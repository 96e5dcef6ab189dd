/- The reference's leaves: digit, four. -/
import Derived.Test.YtadpmdlajfojiaaDoorVB
import Derived.Deep.QuietTactic
import Derived.BigQuiet
import Derived.Deep.Draws
namespace Go.Proofs.YtadpmdlajfojiaaDoor
open Go.RowKit
/-- The i-th byte of a text, as a number. -/
def bt (s : ByteArray) (i : Nat) : Int := if h : i < s.size then ((s[i]'h).toNat : Int) else 0
theorem bt_at (s : ByteArray) (i : Nat) : ∀ h : i < s.size, ((s[i]'h).toNat : Int) = bt s i := fun h => by simp [bt, h]
theorem bt_range (s : ByteArray) (i : Nat) : 0 ≤ bt s i ∧ bt s i ≤ 255 := by
  unfold bt
  split
  · rename_i h
    have := (s[i]'h).toNat_lt
    omega
  · omega
def digV (c : Int) : Int := if 65 ≤ c then c - 65 + 10 else (c - 48) % 256
theorem digV_range (c : Int) (h0 : 0 ≤ c) (h1 : c ≤ 255) : 0 ≤ digV c ∧ digV c ≤ 255 := by unfold digV; split <;> omega
def fourS (s : ByteArray) : Int := 4096 * digV (bt s 0) + 256 * digV (bt s 1) + 16 * digV (bt s 2) + digV (bt s 3)
theorem digit_calls (c : Int) (h0 : 0 ≤ c) (h1 : c ≤ 255) (w : World) : Calls Tryd.prog 30 #[.int .u8 c] w fun e w' => e = .returned (.int .i32 (digV c)) ∧ w = w' := by
  by_cases h : 65 ≤ c
  · have E := Lib.hid (show digV c = c - 65 + 10 from if_pos h)
    go_enter Tryd.func30, Tryd.ntmps30
    go_wp2
    go_ret
    exact ⟨by rw [E.out]; rfl, rfl⟩
  · have E := Lib.hid (show digV c = (c - 48) % 256 from if_neg h)
    go_enter Tryd.func30, Tryd.ntmps30
    go_wp2
    go_ret
    exact ⟨by rw [E.out]; rfl, rfl⟩
set_option maxHeartbeats 400000 in
theorem four_calls (s : ByteArray) (h : 4 ≤ s.size) (w : World) : Calls Tryd.prog 28 #[.string s] w fun e w' => e = .returned (.int .i32 (fourS s)) ∧ ∃ n, w' = w.drewN n := by
  have b0 := bt_range s 0
  have b1 := bt_range s 1
  have b2 := bt_range s 2
  have b3 := bt_range s 3
  have d0 := digV_range _ b0.1 b0.2
  have d1 := digV_range _ b1.1 b1.2
  have d2 := digV_range _ b2.1 b2.2
  have d3 := digV_range _ b3.1 b3.2
  have q0 : 0 < s.size := by omega
  have q1 : 1 < s.size := by omega
  have q2 : 2 < s.size := by omega
  have q3 : 3 < s.size := by omega
  have x0 := bt_at s 0
  have x1 := bt_at s 1
  have x2 := bt_at s 2
  have x3 := bt_at s 3
  go_enter Tryd.func28, Tryd.ntmps28
  go_wp2
  go_quiet ((go_at_call 30; exact Calls.quiet_of_same ((digit_calls _ (by omega) (by omega) _).mono fun e w' ⟨h1, h2⟩ => ⟨h1, h2.symm⟩)))
  go_wp2
  go_ret
  exact ⟨rfl, nq, rfl⟩
end Go.Proofs.YtadpmdlajfojiaaDoor
