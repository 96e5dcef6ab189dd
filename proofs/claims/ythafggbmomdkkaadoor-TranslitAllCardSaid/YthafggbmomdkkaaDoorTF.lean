/- The reference's bounds (written by mktf.py). -/
import Derived.Test.YthafggbmomdkkaaDoorTE
namespace Go.Proofs.YthafggbmomdkkaaDoor
open Go.RowKit
def unitN (b0 : Int) : Nat := if 240 ≤ b0 then 4 else if 224 ≤ b0 then 3 else if 194 ≤ b0 then 2 else 1
/-- Of what bytes may follow k bytes of a unit that begins with b0. -/
def bdL (b0 : Int) (k : Nat) : Int × Int := if unitN b0 ≤ k then (0, 0) else if k = 1 then (if b0 = 224 then (160, 191) else if b0 = 237 then (128, 159) else if b0 = 240 then (144, 191) else if b0 = 244 then (128, 143) else (128, 191)) else (128, 191)
theorem bounds_nil (A : Option Addr) (cap : Nat) (w : World) : Calls Tryd.prog 31 #[.slice A 0 cap] w fun e w' => e = .returned (.tuple #[.int .u8 0, .int .u8 244]) ∧ w = w' := by
  go_enter Tryd.func31, Tryd.ntmps31
  go_wp2
  go_ret2
  exact ⟨rfl, rfl⟩
set_option maxHeartbeats 1600000 in
theorem bounds_1 (ad : Addr) (cap : Nat) (b0 : Int) (h0 : 0 ≤ b0) (h1 : b0 ≤ 255) (w : World) (hc : w.cell? ad = some (.int .u8 b0)) : Calls Tryd.prog 31 #[.slice (some ad) 1 cap] w fun e w' => e = .returned (.tuple #[.int .u8 (bdL b0 1).1, .int .u8 (bdL b0 1).2]) ∧ w = w' := by
  have hcs : (b0 < 194) ∨ (194 ≤ b0 ∧ b0 < 224) ∨ (b0 = 224) ∨ (224 < b0 ∧ b0 < 237) ∨ (b0 = 237) ∨ (237 < b0 ∧ b0 < 240) ∨ (b0 = 240) ∨ (240 < b0 ∧ b0 < 244) ∨ (b0 = 244) ∨ (244 < b0) := by omega
  rcases hcs with h | ⟨h, h'⟩ | rfl | ⟨h, h'⟩ | rfl | ⟨h, h'⟩ | rfl | ⟨h, h'⟩ | rfl | h
  · have HB := Lib.hid (show bdL b0 1 = (0, 0) from by
      have hu : unitN b0 = 1 := by unfold unitN; (repeat' split) <;> omega
      unfold bdL
      rw [hu]
      (repeat' split) <;> first | rfl | omega)
    go_enter Tryd.func31, Tryd.ntmps31
    go_wp2
    go_ret2
    exact ⟨by rw [HB.out]; rfl, rfl⟩
  · have HB := Lib.hid (show bdL b0 1 = (128, 191) from by
      have hu : unitN b0 = 2 := by unfold unitN; (repeat' split) <;> omega
      unfold bdL
      rw [hu]
      (repeat' split) <;> first | rfl | omega)
    go_enter Tryd.func31, Tryd.ntmps31
    go_wp2
    go_ret2
    exact ⟨by rw [HB.out]; rfl, rfl⟩
  · have HB := Lib.hid (show bdL 224 1 = (160, 191) from by
      decide)
    go_enter Tryd.func31, Tryd.ntmps31
    go_wp2
    go_ret2
    exact ⟨by rw [HB.out]; rfl, rfl⟩
  · have HB := Lib.hid (show bdL b0 1 = (128, 191) from by
      have hu : unitN b0 = 3 := by unfold unitN; (repeat' split) <;> omega
      unfold bdL
      rw [hu]
      (repeat' split) <;> first | rfl | omega)
    go_enter Tryd.func31, Tryd.ntmps31
    go_wp2
    go_ret2
    exact ⟨by rw [HB.out]; rfl, rfl⟩
  · have HB := Lib.hid (show bdL 237 1 = (128, 159) from by
      decide)
    go_enter Tryd.func31, Tryd.ntmps31
    go_wp2
    go_ret2
    exact ⟨by rw [HB.out]; rfl, rfl⟩
  · have HB := Lib.hid (show bdL b0 1 = (128, 191) from by
      have hu : unitN b0 = 3 := by unfold unitN; (repeat' split) <;> omega
      unfold bdL
      rw [hu]
      (repeat' split) <;> first | rfl | omega)
    go_enter Tryd.func31, Tryd.ntmps31
    go_wp2
    go_ret2
    exact ⟨by rw [HB.out]; rfl, rfl⟩
  · have HB := Lib.hid (show bdL 240 1 = (144, 191) from by
      decide)
    go_enter Tryd.func31, Tryd.ntmps31
    go_wp2
    go_ret2
    exact ⟨by rw [HB.out]; rfl, rfl⟩
  · have HB := Lib.hid (show bdL b0 1 = (128, 191) from by
      have hu : unitN b0 = 4 := by unfold unitN; (repeat' split) <;> omega
      unfold bdL
      rw [hu]
      (repeat' split) <;> first | rfl | omega)
    go_enter Tryd.func31, Tryd.ntmps31
    go_wp2
    go_ret2
    exact ⟨by rw [HB.out]; rfl, rfl⟩
  · have HB := Lib.hid (show bdL 244 1 = (128, 143) from by
      decide)
    go_enter Tryd.func31, Tryd.ntmps31
    go_wp2
    go_ret2
    exact ⟨by rw [HB.out]; rfl, rfl⟩
  · have HB := Lib.hid (show bdL b0 1 = (128, 191) from by
      have hu : unitN b0 = 4 := by unfold unitN; (repeat' split) <;> omega
      unfold bdL
      rw [hu]
      (repeat' split) <;> first | rfl | omega)
    go_enter Tryd.func31, Tryd.ntmps31
    go_wp2
    go_ret2
    exact ⟨by rw [HB.out]; rfl, rfl⟩
set_option maxHeartbeats 1600000 in
theorem bounds_2 (ad : Addr) (cap : Nat) (b0 : Int) (h0 : 0 ≤ b0) (h1 : b0 ≤ 255) (w : World) (hc : w.cell? ad = some (.int .u8 b0)) : Calls Tryd.prog 31 #[.slice (some ad) 2 cap] w fun e w' => e = .returned (.tuple #[.int .u8 (bdL b0 2).1, .int .u8 (bdL b0 2).2]) ∧ w = w' := by
  have hcs : (b0 < 194) ∨ (194 ≤ b0 ∧ b0 < 224) ∨ (b0 = 224) ∨ (224 < b0 ∧ b0 < 237) ∨ (b0 = 237) ∨ (237 < b0 ∧ b0 < 240) ∨ (b0 = 240) ∨ (240 < b0 ∧ b0 < 244) ∨ (b0 = 244) ∨ (244 < b0) := by omega
  rcases hcs with h | ⟨h, h'⟩ | rfl | ⟨h, h'⟩ | rfl | ⟨h, h'⟩ | rfl | ⟨h, h'⟩ | rfl | h
  · have HB := Lib.hid (show bdL b0 2 = (0, 0) from by
      have hu : unitN b0 = 1 := by unfold unitN; (repeat' split) <;> omega
      unfold bdL
      rw [hu]
      (repeat' split) <;> first | rfl | omega)
    go_enter Tryd.func31, Tryd.ntmps31
    go_wp2
    go_ret2
    exact ⟨by rw [HB.out]; rfl, rfl⟩
  · have HB := Lib.hid (show bdL b0 2 = (0, 0) from by
      have hu : unitN b0 = 2 := by unfold unitN; (repeat' split) <;> omega
      unfold bdL
      rw [hu]
      (repeat' split) <;> first | rfl | omega)
    go_enter Tryd.func31, Tryd.ntmps31
    go_wp2
    go_ret2
    exact ⟨by rw [HB.out]; rfl, rfl⟩
  · have HB := Lib.hid (show bdL 224 2 = (128, 191) from by
      decide)
    go_enter Tryd.func31, Tryd.ntmps31
    go_wp2
    go_ret2
    exact ⟨by rw [HB.out]; rfl, rfl⟩
  · have HB := Lib.hid (show bdL b0 2 = (128, 191) from by
      have hu : unitN b0 = 3 := by unfold unitN; (repeat' split) <;> omega
      unfold bdL
      rw [hu]
      (repeat' split) <;> first | rfl | omega)
    go_enter Tryd.func31, Tryd.ntmps31
    go_wp2
    go_ret2
    exact ⟨by rw [HB.out]; rfl, rfl⟩
  · have HB := Lib.hid (show bdL 237 2 = (128, 191) from by
      decide)
    go_enter Tryd.func31, Tryd.ntmps31
    go_wp2
    go_ret2
    exact ⟨by rw [HB.out]; rfl, rfl⟩
  · have HB := Lib.hid (show bdL b0 2 = (128, 191) from by
      have hu : unitN b0 = 3 := by unfold unitN; (repeat' split) <;> omega
      unfold bdL
      rw [hu]
      (repeat' split) <;> first | rfl | omega)
    go_enter Tryd.func31, Tryd.ntmps31
    go_wp2
    go_ret2
    exact ⟨by rw [HB.out]; rfl, rfl⟩
  · have HB := Lib.hid (show bdL 240 2 = (128, 191) from by
      decide)
    go_enter Tryd.func31, Tryd.ntmps31
    go_wp2
    go_ret2
    exact ⟨by rw [HB.out]; rfl, rfl⟩
  · have HB := Lib.hid (show bdL b0 2 = (128, 191) from by
      have hu : unitN b0 = 4 := by unfold unitN; (repeat' split) <;> omega
      unfold bdL
      rw [hu]
      (repeat' split) <;> first | rfl | omega)
    go_enter Tryd.func31, Tryd.ntmps31
    go_wp2
    go_ret2
    exact ⟨by rw [HB.out]; rfl, rfl⟩
  · have HB := Lib.hid (show bdL 244 2 = (128, 191) from by
      decide)
    go_enter Tryd.func31, Tryd.ntmps31
    go_wp2
    go_ret2
    exact ⟨by rw [HB.out]; rfl, rfl⟩
  · have HB := Lib.hid (show bdL b0 2 = (128, 191) from by
      have hu : unitN b0 = 4 := by unfold unitN; (repeat' split) <;> omega
      unfold bdL
      rw [hu]
      (repeat' split) <;> first | rfl | omega)
    go_enter Tryd.func31, Tryd.ntmps31
    go_wp2
    go_ret2
    exact ⟨by rw [HB.out]; rfl, rfl⟩
set_option maxHeartbeats 1600000 in
theorem bounds_3 (ad : Addr) (cap : Nat) (b0 : Int) (h0 : 0 ≤ b0) (h1 : b0 ≤ 255) (w : World) (hc : w.cell? ad = some (.int .u8 b0)) : Calls Tryd.prog 31 #[.slice (some ad) 3 cap] w fun e w' => e = .returned (.tuple #[.int .u8 (bdL b0 3).1, .int .u8 (bdL b0 3).2]) ∧ w = w' := by
  have hcs : (b0 < 194) ∨ (194 ≤ b0 ∧ b0 < 224) ∨ (b0 = 224) ∨ (224 < b0 ∧ b0 < 237) ∨ (b0 = 237) ∨ (237 < b0 ∧ b0 < 240) ∨ (b0 = 240) ∨ (240 < b0 ∧ b0 < 244) ∨ (b0 = 244) ∨ (244 < b0) := by omega
  rcases hcs with h | ⟨h, h'⟩ | rfl | ⟨h, h'⟩ | rfl | ⟨h, h'⟩ | rfl | ⟨h, h'⟩ | rfl | h
  · have HB := Lib.hid (show bdL b0 3 = (0, 0) from by
      have hu : unitN b0 = 1 := by unfold unitN; (repeat' split) <;> omega
      unfold bdL
      rw [hu]
      (repeat' split) <;> first | rfl | omega)
    go_enter Tryd.func31, Tryd.ntmps31
    go_wp2
    go_ret2
    exact ⟨by rw [HB.out]; rfl, rfl⟩
  · have HB := Lib.hid (show bdL b0 3 = (0, 0) from by
      have hu : unitN b0 = 2 := by unfold unitN; (repeat' split) <;> omega
      unfold bdL
      rw [hu]
      (repeat' split) <;> first | rfl | omega)
    go_enter Tryd.func31, Tryd.ntmps31
    go_wp2
    go_ret2
    exact ⟨by rw [HB.out]; rfl, rfl⟩
  · have HB := Lib.hid (show bdL 224 3 = (0, 0) from by
      decide)
    go_enter Tryd.func31, Tryd.ntmps31
    go_wp2
    go_ret2
    exact ⟨by rw [HB.out]; rfl, rfl⟩
  · have HB := Lib.hid (show bdL b0 3 = (0, 0) from by
      have hu : unitN b0 = 3 := by unfold unitN; (repeat' split) <;> omega
      unfold bdL
      rw [hu]
      (repeat' split) <;> first | rfl | omega)
    go_enter Tryd.func31, Tryd.ntmps31
    go_wp2
    go_ret2
    exact ⟨by rw [HB.out]; rfl, rfl⟩
  · have HB := Lib.hid (show bdL 237 3 = (0, 0) from by
      decide)
    go_enter Tryd.func31, Tryd.ntmps31
    go_wp2
    go_ret2
    exact ⟨by rw [HB.out]; rfl, rfl⟩
  · have HB := Lib.hid (show bdL b0 3 = (0, 0) from by
      have hu : unitN b0 = 3 := by unfold unitN; (repeat' split) <;> omega
      unfold bdL
      rw [hu]
      (repeat' split) <;> first | rfl | omega)
    go_enter Tryd.func31, Tryd.ntmps31
    go_wp2
    go_ret2
    exact ⟨by rw [HB.out]; rfl, rfl⟩
  · have HB := Lib.hid (show bdL 240 3 = (128, 191) from by
      decide)
    go_enter Tryd.func31, Tryd.ntmps31
    go_wp2
    go_ret2
    exact ⟨by rw [HB.out]; rfl, rfl⟩
  · have HB := Lib.hid (show bdL b0 3 = (128, 191) from by
      have hu : unitN b0 = 4 := by unfold unitN; (repeat' split) <;> omega
      unfold bdL
      rw [hu]
      (repeat' split) <;> first | rfl | omega)
    go_enter Tryd.func31, Tryd.ntmps31
    go_wp2
    go_ret2
    exact ⟨by rw [HB.out]; rfl, rfl⟩
  · have HB := Lib.hid (show bdL 244 3 = (128, 191) from by
      decide)
    go_enter Tryd.func31, Tryd.ntmps31
    go_wp2
    go_ret2
    exact ⟨by rw [HB.out]; rfl, rfl⟩
  · have HB := Lib.hid (show bdL b0 3 = (128, 191) from by
      have hu : unitN b0 = 4 := by unfold unitN; (repeat' split) <;> omega
      unfold bdL
      rw [hu]
      (repeat' split) <;> first | rfl | omega)
    go_enter Tryd.func31, Tryd.ntmps31
    go_wp2
    go_ret2
    exact ⟨by rw [HB.out]; rfl, rfl⟩
set_option maxHeartbeats 1600000 in
theorem bounds_4 (ad : Addr) (cap : Nat) (b0 : Int) (h0 : 0 ≤ b0) (h1 : b0 ≤ 255) (w : World) (hc : w.cell? ad = some (.int .u8 b0)) : Calls Tryd.prog 31 #[.slice (some ad) 4 cap] w fun e w' => e = .returned (.tuple #[.int .u8 (bdL b0 4).1, .int .u8 (bdL b0 4).2]) ∧ w = w' := by
  have hcs : (b0 < 194) ∨ (194 ≤ b0 ∧ b0 < 224) ∨ (b0 = 224) ∨ (224 < b0 ∧ b0 < 237) ∨ (b0 = 237) ∨ (237 < b0 ∧ b0 < 240) ∨ (b0 = 240) ∨ (240 < b0 ∧ b0 < 244) ∨ (b0 = 244) ∨ (244 < b0) := by omega
  rcases hcs with h | ⟨h, h'⟩ | rfl | ⟨h, h'⟩ | rfl | ⟨h, h'⟩ | rfl | ⟨h, h'⟩ | rfl | h
  · have HB := Lib.hid (show bdL b0 4 = (0, 0) from by
      have hu : unitN b0 = 1 := by unfold unitN; (repeat' split) <;> omega
      unfold bdL
      rw [hu]
      (repeat' split) <;> first | rfl | omega)
    go_enter Tryd.func31, Tryd.ntmps31
    go_wp2
    go_ret2
    exact ⟨by rw [HB.out]; rfl, rfl⟩
  · have HB := Lib.hid (show bdL b0 4 = (0, 0) from by
      have hu : unitN b0 = 2 := by unfold unitN; (repeat' split) <;> omega
      unfold bdL
      rw [hu]
      (repeat' split) <;> first | rfl | omega)
    go_enter Tryd.func31, Tryd.ntmps31
    go_wp2
    go_ret2
    exact ⟨by rw [HB.out]; rfl, rfl⟩
  · have HB := Lib.hid (show bdL 224 4 = (0, 0) from by
      decide)
    go_enter Tryd.func31, Tryd.ntmps31
    go_wp2
    go_ret2
    exact ⟨by rw [HB.out]; rfl, rfl⟩
  · have HB := Lib.hid (show bdL b0 4 = (0, 0) from by
      have hu : unitN b0 = 3 := by unfold unitN; (repeat' split) <;> omega
      unfold bdL
      rw [hu]
      (repeat' split) <;> first | rfl | omega)
    go_enter Tryd.func31, Tryd.ntmps31
    go_wp2
    go_ret2
    exact ⟨by rw [HB.out]; rfl, rfl⟩
  · have HB := Lib.hid (show bdL 237 4 = (0, 0) from by
      decide)
    go_enter Tryd.func31, Tryd.ntmps31
    go_wp2
    go_ret2
    exact ⟨by rw [HB.out]; rfl, rfl⟩
  · have HB := Lib.hid (show bdL b0 4 = (0, 0) from by
      have hu : unitN b0 = 3 := by unfold unitN; (repeat' split) <;> omega
      unfold bdL
      rw [hu]
      (repeat' split) <;> first | rfl | omega)
    go_enter Tryd.func31, Tryd.ntmps31
    go_wp2
    go_ret2
    exact ⟨by rw [HB.out]; rfl, rfl⟩
  · have HB := Lib.hid (show bdL 240 4 = (0, 0) from by
      decide)
    go_enter Tryd.func31, Tryd.ntmps31
    go_wp2
    go_ret2
    exact ⟨by rw [HB.out]; rfl, rfl⟩
  · have HB := Lib.hid (show bdL b0 4 = (0, 0) from by
      have hu : unitN b0 = 4 := by unfold unitN; (repeat' split) <;> omega
      unfold bdL
      rw [hu]
      (repeat' split) <;> first | rfl | omega)
    go_enter Tryd.func31, Tryd.ntmps31
    go_wp2
    go_ret2
    exact ⟨by rw [HB.out]; rfl, rfl⟩
  · have HB := Lib.hid (show bdL 244 4 = (0, 0) from by
      decide)
    go_enter Tryd.func31, Tryd.ntmps31
    go_wp2
    go_ret2
    exact ⟨by rw [HB.out]; rfl, rfl⟩
  · have HB := Lib.hid (show bdL b0 4 = (0, 0) from by
      have hu : unitN b0 = 4 := by unfold unitN; (repeat' split) <;> omega
      unfold bdL
      rw [hu]
      (repeat' split) <;> first | rfl | omega)
    go_enter Tryd.func31, Tryd.ntmps31
    go_wp2
    go_ret2
    exact ⟨by rw [HB.out]; rfl, rfl⟩
end Go.Proofs.YthafggbmomdkkaaDoor
