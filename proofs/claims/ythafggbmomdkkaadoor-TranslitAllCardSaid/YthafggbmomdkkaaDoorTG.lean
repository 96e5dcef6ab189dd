/- The reference's Get. -/
import Derived.Test.YthafggbmomdkkaaDoorTF
namespace Go.Proofs.YthafggbmomdkkaaDoor
open Go.RowKit
structure Got where
  err : Int
  n : Int
  k : Int
  x : Int
def gotC (g : Got) : Array Value := #[.int .i64 g.err, .int .i64 g.n, .int .i64 g.k, .int .i32 g.x, .int .i32 0, .int .i64 0, .int .i64 0, .int .u32 0, .int .i32 0]
def gotV (g : Got) : Value := .agg (gotC g)
/-- What Get hands back. -/
def getU : List Int → Got
  | [] => ⟨1, 0, 0, 0⟩
  | b0 :: r => if b0 < 128 then ⟨0, 1, 1, b0⟩ else if b0 < 194 ∨ 244 < b0 then ⟨10, 1, 0, 0⟩ else match r with
    | [] => ⟨1, 0, 0, 0⟩
    | b1 :: r => if b1 < (bdL b0 1).1 ∨ (bdL b0 1).2 < b1 then ⟨10, 1, 0, 0⟩ else if b0 < 224 then ⟨0, 2, 1, 64 * (b0 % 32) + b1 % 64⟩ else match r with
      | [] => ⟨1, 0, 0, 0⟩
      | b2 :: r => if b2 < 128 ∨ 191 < b2 then ⟨10, 2, 0, 0⟩ else if b0 < 240 then ⟨0, 3, 1, 64 * (64 * (b0 % 16) + b1 % 64) + b2 % 64⟩ else match r with
        | [] => ⟨1, 0, 0, 0⟩
        | b3 :: _ => if b3 < 128 ∨ 191 < b3 then ⟨10, 3, 0, 0⟩ else ⟨0, 4, 1, 64 * (64 * (64 * (b0 % 8) + b1 % 64) + b2 % 64) + b3 % 64⟩
theorem info50 : (Tryd.prog.info? 50).map (·.size) = some 9 := by kernel_rfl
theorem got_end {W : World} {fn : Func} {p q : Nat} (hr : fn.results = #[.cell p 50]) {tmps : Array Value} (hp : tmps.getD p undef = .pointer (some ⟨q, 0, none⟩)) {g : Got}
    (hh : W.heap[q]? = some (.cells (gotC g) 50 (0, 0))) : (results fn tmps).run Tryd.prog W = .ok (gotV g) W :=
  results_cell_row hr _ _ _ 50 _ (0, 0) _ hp hh Tryd.underlying50 rfl info50

set_option maxHeartbeats 1600000 in
theorem get_nil (A : Option Addr) (cap : Nat) (w : World) : Calls Tryd.prog 25 #[.slice A 0 cap] w fun e w' => e = .returned (gotV ⟨1, 0, 0, 0⟩) ∧ Below w.heap.size w w' := by
  have HB := Lib.hid (fun W => bounds_nil A cap W)
  go_enter Tryd.func25, Tryd.ntmps25
  go_wp2_with fail
  refine wp_loop_rounds 5 ?_
  rw [rounds_succ]
  go_wp2_with fail
  refine (HB.out _).mono ?_
  rintro e w' ⟨rfl, rfl⟩
  go_wp2_with fail
  exact ⟨rfl, _, got_end (q := w.heap.size) (g := ⟨1, 0, 0, 0⟩) rfl rfl (heap_alloc_new w _), rfl, (Below.refl _ _).alloc (Nat.le_refl _) _⟩
set_option maxRecDepth 100000 in
set_option maxHeartbeats 1600000 in
theorem get_one_e (ad : Addr) (cap : Nat) (hcap : 1 ≤ cap) (b0 : Int) (b0l : 0 ≤ b0) (b0u : b0 ≤ 255) (w : World) (hc0 : w.cell? ad = some (.int .u8 b0)) (hb : b0 < 128) :
    Calls Tryd.prog 25 #[.slice (some ad) 1 cap] w fun e w' => e = .returned (gotV ⟨0, 1, 1, b0⟩) ∧ Below w.heap.size w w' := by
  have HB0 := Lib.hid (fun W => bounds_nil (some ad) cap W)
  have hq1 := fun W (hc : W.cell? ad = some (.int .u8 b0)) => bounds_1 ad cap b0 b0l b0u W hc
  rw [show bdL b0 1 = (0, 0) from by unfold bdL; rw [if_pos (by unfold unitN; (repeat' split) <;> omega)]] at hq1
  dsimp only at hq1 
  have HB1 := Lib.hid hq1
  clear hq1
  try clear hbd
  have hA0 : (w.alloc (.cells #[.int .i64 0, .int .i64 0, .int .i64 0, .int .i32 0, .int .i32 0, .int .i64 0, .int .i64 0, .int .u32 0, .int .i32 0] 50)).cell? ad = some (.int .u8 b0) := (Below.cell ((Below.refl _ w).alloc (Nat.le_refl _) _) (block_lt_of_cell hc0)).trans hc0
  have hk0 : (0 : Int) ≤ (cap : Int) := by omega
  have hK0 : 0 ≤ cap := by omega
  have hke : 1 ≤ cap := by omega
  have hKe : (1 : Int) ≤ (cap : Int) := by omega
  clear hc0
  go_enter Tryd.func25, Tryd.ntmps25
  go_wp2_with fail
  refine wp_loop_rounds 6 ?_
  rw [rounds_succ]
  go_wp2_with fail
  refine (HB0.out _).mono ?_
  rintro e w' ⟨rfl, rfl⟩
  go_wp2_with fail
  rw [rounds_succ]
  go_wp2_with fail
  refine (HB1.out _ hA0).mono ?_
  rintro e w' ⟨rfl, rfl⟩
  go_wp2_with fail
  refine wp_loop_rounds 6 ?_
  rw [rounds_succ]
  go_wp2_with fail
  exact ⟨rfl, _, got_end (q := w.heap.size) (g := ⟨0, 1, 1, b0⟩) rfl rfl (heap_alloc_new w _), rfl, (Below.refl _ _).alloc (Nat.le_refl _) _⟩
set_option maxRecDepth 100000 in
set_option maxHeartbeats 1600000 in
theorem get_two_e (ad : Addr) (cap : Nat) (hcap : 2 ≤ cap) (b0 : Int) (b0l : 0 ≤ b0) (b0u : b0 ≤ 255) (b1 : Int) (b1l : 0 ≤ b1) (b1u : b1 ≤ 255) (w : World) (hc0 : w.cell? ad = some (.int .u8 b0)) (hc1 : w.cell? (ad.add 1) = some (.int .u8 b1)) (hb0 : 194 ≤ b0) (hb0u : b0 < 224) (hlo : (bdL b0 1).1 ≤ b1) (hhi : b1 ≤ (bdL b0 1).2) :
    Calls Tryd.prog 25 #[.slice (some ad) 2 cap] w fun e w' => e = .returned (gotV ⟨0, 2, 1, 64 * (b0 % 32) + b1 % 64⟩) ∧ Below w.heap.size w w' := by
  have HB0 := Lib.hid (fun W => bounds_nil (some ad) cap W)
  have hq1 := fun W (hc : W.cell? ad = some (.int .u8 b0)) => bounds_1 ad cap b0 b0l b0u W hc
  obtain ⟨⟨lo, hi⟩, hbd⟩ : ∃ p, bdL b0 1 = p := ⟨_, rfl⟩
  rw [hbd] at hq1 hlo hhi
  dsimp only at hq1 hlo hhi
  have HB1 := Lib.hid hq1
  have hq2 := fun W (hc : W.cell? ad = some (.int .u8 b0)) => bounds_2 ad cap b0 b0l b0u W hc
  rw [show bdL b0 2 = (0, 0) from by unfold bdL; rw [if_pos (by unfold unitN; (repeat' split) <;> omega)]] at hq2
  dsimp only at hq2 
  have HB2 := Lib.hid hq2
  clear hq1 hq2
  have hip : 0 < hi ∧ hi ≤ 255 ∧ 0 ≤ lo := by have : hi = (bdL b0 1).2 ∧ lo = (bdL b0 1).1 := ⟨(congrArg Prod.snd hbd).symm, (congrArg Prod.fst hbd).symm⟩; rw [this.1, this.2]; unfold bdL; rw [if_neg (by unfold unitN; (repeat' split) <;> omega), if_pos rfl]; (repeat' split) <;> simp <;> omega
  obtain ⟨hip0, hip1, hip2⟩ := hip
  have hz1 : (hi == 0) = false := by simp; omega
  have hz2 : (hi != 0) = true := by simp; omega
  have hl1 : decide (b1 < lo) = false := by simp; omega
  have hl2 : decide (hi < b1) = false := by simp; omega
  try clear hbd
  have hA0 : (w.alloc (.cells #[.int .i64 0, .int .i64 0, .int .i64 0, .int .i32 0, .int .i32 0, .int .i64 0, .int .i64 0, .int .u32 0, .int .i32 0] 50)).cell? ad = some (.int .u8 b0) := (Below.cell ((Below.refl _ w).alloc (Nat.le_refl _) _) (block_lt_of_cell hc0)).trans hc0
  have hA1 : (w.alloc (.cells #[.int .i64 0, .int .i64 0, .int .i64 0, .int .i32 0, .int .i32 0, .int .i64 0, .int .i64 0, .int .u32 0, .int .i32 0] 50)).cell? { block := ad.block, off := ad.off + 1 } = some (.int .u8 b1) := (Below.cell ((Below.refl _ w).alloc (Nat.le_refl _) _) (block_lt_of_cell hc1)).trans hc1
  have hk0 : (0 : Int) ≤ (cap : Int) := by omega
  have hK0 : 0 ≤ cap := by omega
  have hk1 : (1 : Int) ≤ (cap : Int) := by omega
  have hK1 : 1 ≤ cap := by omega
  have hke : 2 ≤ cap := by omega
  have hKe : (2 : Int) ≤ (cap : Int) := by omega
  clear hc0 hc1
  go_enter Tryd.func25, Tryd.ntmps25
  go_wp2_with fail
  refine wp_loop_rounds 6 ?_
  rw [rounds_succ]
  go_wp2_with fail
  refine (HB0.out _).mono ?_
  rintro e w' ⟨rfl, rfl⟩
  go_wp2_with fail
  rw [rounds_succ]
  go_wp2_with fail
  refine (HB1.out _ hA0).mono ?_
  rintro e w' ⟨rfl, rfl⟩
  go_wp2_with fail
  rw [rounds_succ]
  go_wp2_with fail
  refine (HB2.out _ hA0).mono ?_
  rintro e w' ⟨rfl, rfl⟩
  go_wp2_with fail
  refine wp_loop_rounds 6 ?_
  rw [rounds_succ]
  go_wp2_with fail
  rw [rounds_succ]
  go_wp2_with fail
  exact ⟨rfl, _, got_end (q := w.heap.size) (g := ⟨0, 2, 1, 64 * (b0 % 32) + b1 % 64⟩) rfl rfl (heap_alloc_new w _), rfl, (Below.refl _ _).alloc (Nat.le_refl _) _⟩
set_option maxRecDepth 100000 in
set_option maxHeartbeats 1600000 in
theorem get_three_e (ad : Addr) (cap : Nat) (hcap : 3 ≤ cap) (b0 : Int) (b0l : 0 ≤ b0) (b0u : b0 ≤ 255) (b1 : Int) (b1l : 0 ≤ b1) (b1u : b1 ≤ 255) (b2 : Int) (b2l : 0 ≤ b2) (b2u : b2 ≤ 255) (w : World) (hc0 : w.cell? ad = some (.int .u8 b0)) (hc1 : w.cell? (ad.add 1) = some (.int .u8 b1)) (hc2 : w.cell? (ad.add 2) = some (.int .u8 b2)) (hb0 : 224 ≤ b0) (hb0u : b0 < 240) (hlo : (bdL b0 1).1 ≤ b1) (hhi : b1 ≤ (bdL b0 1).2) (hb2l : 128 ≤ b2) (hb2h : b2 ≤ 191) :
    Calls Tryd.prog 25 #[.slice (some ad) 3 cap] w fun e w' => e = .returned (gotV ⟨0, 3, 1, 64 * (64 * (b0 % 16) + b1 % 64) + b2 % 64⟩) ∧ Below w.heap.size w w' := by
  have HB0 := Lib.hid (fun W => bounds_nil (some ad) cap W)
  have hq1 := fun W (hc : W.cell? ad = some (.int .u8 b0)) => bounds_1 ad cap b0 b0l b0u W hc
  obtain ⟨⟨lo, hi⟩, hbd⟩ : ∃ p, bdL b0 1 = p := ⟨_, rfl⟩
  rw [hbd] at hq1 hlo hhi
  dsimp only at hq1 hlo hhi
  have HB1 := Lib.hid hq1
  have hq2 := fun W (hc : W.cell? ad = some (.int .u8 b0)) => bounds_2 ad cap b0 b0l b0u W hc
  rw [show bdL b0 2 = (128, 191) from by unfold bdL; rw [if_neg (by unfold unitN; (repeat' split) <;> omega), if_neg (by decide)]] at hq2
  dsimp only at hq2 
  have HB2 := Lib.hid hq2
  have hq3 := fun W (hc : W.cell? ad = some (.int .u8 b0)) => bounds_3 ad cap b0 b0l b0u W hc
  rw [show bdL b0 3 = (0, 0) from by unfold bdL; rw [if_pos (by unfold unitN; (repeat' split) <;> omega)]] at hq3
  dsimp only at hq3 
  have HB3 := Lib.hid hq3
  clear hq1 hq2 hq3
  have hip : 0 < hi ∧ hi ≤ 255 ∧ 0 ≤ lo := by have : hi = (bdL b0 1).2 ∧ lo = (bdL b0 1).1 := ⟨(congrArg Prod.snd hbd).symm, (congrArg Prod.fst hbd).symm⟩; rw [this.1, this.2]; unfold bdL; rw [if_neg (by unfold unitN; (repeat' split) <;> omega), if_pos rfl]; (repeat' split) <;> simp <;> omega
  obtain ⟨hip0, hip1, hip2⟩ := hip
  have hz1 : (hi == 0) = false := by simp; omega
  have hz2 : (hi != 0) = true := by simp; omega
  have hl1 : decide (b1 < lo) = false := by simp; omega
  have hl2 : decide (hi < b1) = false := by simp; omega
  have hl2a : decide (b2 < 128) = false := by simp; omega
  have hl2b : decide (191 < b2) = false := by simp; omega
  try clear hbd
  have hA0 : (w.alloc (.cells #[.int .i64 0, .int .i64 0, .int .i64 0, .int .i32 0, .int .i32 0, .int .i64 0, .int .i64 0, .int .u32 0, .int .i32 0] 50)).cell? ad = some (.int .u8 b0) := (Below.cell ((Below.refl _ w).alloc (Nat.le_refl _) _) (block_lt_of_cell hc0)).trans hc0
  have hA1 : (w.alloc (.cells #[.int .i64 0, .int .i64 0, .int .i64 0, .int .i32 0, .int .i32 0, .int .i64 0, .int .i64 0, .int .u32 0, .int .i32 0] 50)).cell? { block := ad.block, off := ad.off + 1 } = some (.int .u8 b1) := (Below.cell ((Below.refl _ w).alloc (Nat.le_refl _) _) (block_lt_of_cell hc1)).trans hc1
  have hA2 : (w.alloc (.cells #[.int .i64 0, .int .i64 0, .int .i64 0, .int .i32 0, .int .i32 0, .int .i64 0, .int .i64 0, .int .u32 0, .int .i32 0] 50)).cell? { block := ad.block, off := ad.off + 2 } = some (.int .u8 b2) := (Below.cell ((Below.refl _ w).alloc (Nat.le_refl _) _) (block_lt_of_cell hc2)).trans hc2
  have hk0 : (0 : Int) ≤ (cap : Int) := by omega
  have hK0 : 0 ≤ cap := by omega
  have hk1 : (1 : Int) ≤ (cap : Int) := by omega
  have hK1 : 1 ≤ cap := by omega
  have hk2 : (2 : Int) ≤ (cap : Int) := by omega
  have hK2 : 2 ≤ cap := by omega
  have hke : 3 ≤ cap := by omega
  have hKe : (3 : Int) ≤ (cap : Int) := by omega
  clear hc0 hc1 hc2
  go_enter Tryd.func25, Tryd.ntmps25
  go_wp2_with fail
  refine wp_loop_rounds 6 ?_
  rw [rounds_succ]
  go_wp2_with fail
  refine (HB0.out _).mono ?_
  rintro e w' ⟨rfl, rfl⟩
  go_wp2_with fail
  rw [rounds_succ]
  go_wp2_with fail
  refine (HB1.out _ hA0).mono ?_
  rintro e w' ⟨rfl, rfl⟩
  go_wp2_with fail
  rw [rounds_succ]
  go_wp2_with fail
  refine (HB2.out _ hA0).mono ?_
  rintro e w' ⟨rfl, rfl⟩
  go_wp2_with fail
  rw [rounds_succ]
  go_wp2_with fail
  refine (HB3.out _ hA0).mono ?_
  rintro e w' ⟨rfl, rfl⟩
  go_wp2_with fail
  refine wp_loop_rounds 6 ?_
  rw [rounds_succ]
  go_wp2_with fail
  rw [rounds_succ]
  go_wp2_with fail
  rw [rounds_succ]
  go_wp2_with fail
  exact ⟨rfl, _, got_end (q := w.heap.size) (g := ⟨0, 3, 1, 64 * (64 * (b0 % 16) + b1 % 64) + b2 % 64⟩) rfl rfl (heap_alloc_new w _), rfl, (Below.refl _ _).alloc (Nat.le_refl _) _⟩
set_option maxRecDepth 100000 in
set_option maxHeartbeats 1600000 in
theorem get_four_e (ad : Addr) (cap : Nat) (hcap : 4 ≤ cap) (b0 : Int) (b0l : 0 ≤ b0) (b0u : b0 ≤ 255) (b1 : Int) (b1l : 0 ≤ b1) (b1u : b1 ≤ 255) (b2 : Int) (b2l : 0 ≤ b2) (b2u : b2 ≤ 255) (b3 : Int) (b3l : 0 ≤ b3) (b3u : b3 ≤ 255) (w : World) (hc0 : w.cell? ad = some (.int .u8 b0)) (hc1 : w.cell? (ad.add 1) = some (.int .u8 b1)) (hc2 : w.cell? (ad.add 2) = some (.int .u8 b2)) (hc3 : w.cell? (ad.add 3) = some (.int .u8 b3)) (hb0 : 240 ≤ b0) (hb0u : b0 ≤ 244) (hlo : (bdL b0 1).1 ≤ b1) (hhi : b1 ≤ (bdL b0 1).2) (hb2l : 128 ≤ b2) (hb2h : b2 ≤ 191) (hb3l : 128 ≤ b3) (hb3h : b3 ≤ 191) :
    Calls Tryd.prog 25 #[.slice (some ad) 4 cap] w fun e w' => e = .returned (gotV ⟨0, 4, 1, 64 * (64 * (64 * (b0 % 8) + b1 % 64) + b2 % 64) + b3 % 64⟩) ∧ Below w.heap.size w w' := by
  have HB0 := Lib.hid (fun W => bounds_nil (some ad) cap W)
  have hq1 := fun W (hc : W.cell? ad = some (.int .u8 b0)) => bounds_1 ad cap b0 b0l b0u W hc
  obtain ⟨⟨lo, hi⟩, hbd⟩ : ∃ p, bdL b0 1 = p := ⟨_, rfl⟩
  rw [hbd] at hq1 hlo hhi
  dsimp only at hq1 hlo hhi
  have HB1 := Lib.hid hq1
  have hq2 := fun W (hc : W.cell? ad = some (.int .u8 b0)) => bounds_2 ad cap b0 b0l b0u W hc
  rw [show bdL b0 2 = (128, 191) from by unfold bdL; rw [if_neg (by unfold unitN; (repeat' split) <;> omega), if_neg (by decide)]] at hq2
  dsimp only at hq2 
  have HB2 := Lib.hid hq2
  have hq3 := fun W (hc : W.cell? ad = some (.int .u8 b0)) => bounds_3 ad cap b0 b0l b0u W hc
  rw [show bdL b0 3 = (128, 191) from by unfold bdL; rw [if_neg (by unfold unitN; (repeat' split) <;> omega), if_neg (by decide)]] at hq3
  dsimp only at hq3 
  have HB3 := Lib.hid hq3
  have hq4 := fun W (hc : W.cell? ad = some (.int .u8 b0)) => bounds_4 ad cap b0 b0l b0u W hc
  rw [show bdL b0 4 = (0, 0) from by unfold bdL; rw [if_pos (by unfold unitN; (repeat' split) <;> omega)]] at hq4
  dsimp only at hq4 
  have HB4 := Lib.hid hq4
  clear hq1 hq2 hq3 hq4
  have hip : 0 < hi ∧ hi ≤ 255 ∧ 0 ≤ lo := by have : hi = (bdL b0 1).2 ∧ lo = (bdL b0 1).1 := ⟨(congrArg Prod.snd hbd).symm, (congrArg Prod.fst hbd).symm⟩; rw [this.1, this.2]; unfold bdL; rw [if_neg (by unfold unitN; (repeat' split) <;> omega), if_pos rfl]; (repeat' split) <;> simp <;> omega
  obtain ⟨hip0, hip1, hip2⟩ := hip
  have hz1 : (hi == 0) = false := by simp; omega
  have hz2 : (hi != 0) = true := by simp; omega
  have hl1 : decide (b1 < lo) = false := by simp; omega
  have hl2 : decide (hi < b1) = false := by simp; omega
  have hl2a : decide (b2 < 128) = false := by simp; omega
  have hl2b : decide (191 < b2) = false := by simp; omega
  have hl3a : decide (b3 < 128) = false := by simp; omega
  have hl3b : decide (191 < b3) = false := by simp; omega
  try clear hbd
  have hA0 : (w.alloc (.cells #[.int .i64 0, .int .i64 0, .int .i64 0, .int .i32 0, .int .i32 0, .int .i64 0, .int .i64 0, .int .u32 0, .int .i32 0] 50)).cell? ad = some (.int .u8 b0) := (Below.cell ((Below.refl _ w).alloc (Nat.le_refl _) _) (block_lt_of_cell hc0)).trans hc0
  have hA1 : (w.alloc (.cells #[.int .i64 0, .int .i64 0, .int .i64 0, .int .i32 0, .int .i32 0, .int .i64 0, .int .i64 0, .int .u32 0, .int .i32 0] 50)).cell? { block := ad.block, off := ad.off + 1 } = some (.int .u8 b1) := (Below.cell ((Below.refl _ w).alloc (Nat.le_refl _) _) (block_lt_of_cell hc1)).trans hc1
  have hA2 : (w.alloc (.cells #[.int .i64 0, .int .i64 0, .int .i64 0, .int .i32 0, .int .i32 0, .int .i64 0, .int .i64 0, .int .u32 0, .int .i32 0] 50)).cell? { block := ad.block, off := ad.off + 2 } = some (.int .u8 b2) := (Below.cell ((Below.refl _ w).alloc (Nat.le_refl _) _) (block_lt_of_cell hc2)).trans hc2
  have hA3 : (w.alloc (.cells #[.int .i64 0, .int .i64 0, .int .i64 0, .int .i32 0, .int .i32 0, .int .i64 0, .int .i64 0, .int .u32 0, .int .i32 0] 50)).cell? { block := ad.block, off := ad.off + 3 } = some (.int .u8 b3) := (Below.cell ((Below.refl _ w).alloc (Nat.le_refl _) _) (block_lt_of_cell hc3)).trans hc3
  have hk0 : (0 : Int) ≤ (cap : Int) := by omega
  have hK0 : 0 ≤ cap := by omega
  have hk1 : (1 : Int) ≤ (cap : Int) := by omega
  have hK1 : 1 ≤ cap := by omega
  have hk2 : (2 : Int) ≤ (cap : Int) := by omega
  have hK2 : 2 ≤ cap := by omega
  have hk3 : (3 : Int) ≤ (cap : Int) := by omega
  have hK3 : 3 ≤ cap := by omega
  have hke : 4 ≤ cap := by omega
  have hKe : (4 : Int) ≤ (cap : Int) := by omega
  clear hc0 hc1 hc2 hc3
  go_enter Tryd.func25, Tryd.ntmps25
  go_wp2_with fail
  refine wp_loop_rounds 6 ?_
  rw [rounds_succ]
  go_wp2_with fail
  refine (HB0.out _).mono ?_
  rintro e w' ⟨rfl, rfl⟩
  go_wp2_with fail
  rw [rounds_succ]
  go_wp2_with fail
  refine (HB1.out _ hA0).mono ?_
  rintro e w' ⟨rfl, rfl⟩
  go_wp2_with fail
  rw [rounds_succ]
  go_wp2_with fail
  refine (HB2.out _ hA0).mono ?_
  rintro e w' ⟨rfl, rfl⟩
  go_wp2_with fail
  rw [rounds_succ]
  go_wp2_with fail
  refine (HB3.out _ hA0).mono ?_
  rintro e w' ⟨rfl, rfl⟩
  go_wp2_with fail
  rw [rounds_succ]
  go_wp2_with fail
  refine (HB4.out _ hA0).mono ?_
  rintro e w' ⟨rfl, rfl⟩
  go_wp2_with fail
  refine wp_loop_rounds 6 ?_
  rw [rounds_succ]
  go_wp2_with fail
  rw [rounds_succ]
  go_wp2_with fail
  rw [rounds_succ]
  go_wp2_with fail
  rw [rounds_succ]
  go_wp2_with fail
  exact ⟨rfl, _, got_end (q := w.heap.size) (g := ⟨0, 4, 1, 64 * (64 * (64 * (b0 % 8) + b1 % 64) + b2 % 64) + b3 % 64⟩) rfl rfl (heap_alloc_new w _), rfl, (Below.refl _ _).alloc (Nat.le_refl _) _⟩
set_option maxRecDepth 100000 in
set_option maxHeartbeats 1600000 in
theorem get_one_m (ad : Addr) (n cap : Nat) (hn : 2 ≤ n) (hm : n ≤ 140737488351232) (hcap : n ≤ cap) (b0 : Int) (b0l : 0 ≤ b0) (b0u : b0 ≤ 255) (w : World) (hc0 : w.cell? ad = some (.int .u8 b0)) (hb : b0 < 128) :
    Calls Tryd.prog 25 #[.slice (some ad) n cap] w fun e w' => e = .returned (gotV ⟨0, 1, 1, b0⟩) ∧ Below w.heap.size w w' := by
  have HB0 := Lib.hid (fun W => bounds_nil (some ad) cap W)
  have hq1 := fun W (hc : W.cell? ad = some (.int .u8 b0)) => bounds_1 ad cap b0 b0l b0u W hc
  rw [show bdL b0 1 = (0, 0) from by unfold bdL; rw [if_pos (by unfold unitN; (repeat' split) <;> omega)]] at hq1
  dsimp only at hq1 
  have HB1 := Lib.hid hq1
  clear hq1
  try clear hbd
  have hA0 : (w.alloc (.cells #[.int .i64 0, .int .i64 0, .int .i64 0, .int .i32 0, .int .i32 0, .int .i64 0, .int .i64 0, .int .u32 0, .int .i32 0] 50)).cell? ad = some (.int .u8 b0) := (Below.cell ((Below.refl _ w).alloc (Nat.le_refl _) _) (block_lt_of_cell hc0)).trans hc0
  have hn0 : 0 < n := by omega
  have hN0 : (0 : Int) < (n : Int) := by omega
  have hk0 : (0 : Int) ≤ (cap : Int) := by omega
  have hK0 : 0 ≤ cap := by omega
  have hnm : 1 < n := by omega
  have hNm : (1 : Int) < (n : Int) := by omega
  have hke : 1 ≤ cap := by omega
  have hKe : (1 : Int) ≤ (cap : Int) := by omega
  clear hc0
  go_enter Tryd.func25, Tryd.ntmps25
  go_wp2_with fail
  refine wp_loop_rounds 6 ?_
  rw [rounds_succ]
  go_wp2_with fail
  refine (HB0.out _).mono ?_
  rintro e w' ⟨rfl, rfl⟩
  go_wp2_with fail
  rw [rounds_succ]
  go_wp2_with fail
  refine (HB1.out _ hA0).mono ?_
  rintro e w' ⟨rfl, rfl⟩
  go_wp2_with fail
  refine (HB1.out _ hA0).mono ?_
  rintro e w' ⟨rfl, rfl⟩
  go_wp2_with fail
  refine wp_loop_rounds 6 ?_
  rw [rounds_succ]
  go_wp2_with fail
  exact ⟨rfl, _, got_end (q := w.heap.size) (g := ⟨0, 1, 1, b0⟩) rfl rfl (heap_alloc_new w _), rfl, (Below.refl _ _).alloc (Nat.le_refl _) _⟩
set_option maxRecDepth 100000 in
set_option maxHeartbeats 1600000 in
theorem get_two_m (ad : Addr) (n cap : Nat) (hn : 3 ≤ n) (hm : n ≤ 140737488351232) (hcap : n ≤ cap) (b0 : Int) (b0l : 0 ≤ b0) (b0u : b0 ≤ 255) (b1 : Int) (b1l : 0 ≤ b1) (b1u : b1 ≤ 255) (w : World) (hc0 : w.cell? ad = some (.int .u8 b0)) (hc1 : w.cell? (ad.add 1) = some (.int .u8 b1)) (hb0 : 194 ≤ b0) (hb0u : b0 < 224) (hlo : (bdL b0 1).1 ≤ b1) (hhi : b1 ≤ (bdL b0 1).2) :
    Calls Tryd.prog 25 #[.slice (some ad) n cap] w fun e w' => e = .returned (gotV ⟨0, 2, 1, 64 * (b0 % 32) + b1 % 64⟩) ∧ Below w.heap.size w w' := by
  have HB0 := Lib.hid (fun W => bounds_nil (some ad) cap W)
  have hq1 := fun W (hc : W.cell? ad = some (.int .u8 b0)) => bounds_1 ad cap b0 b0l b0u W hc
  obtain ⟨⟨lo, hi⟩, hbd⟩ : ∃ p, bdL b0 1 = p := ⟨_, rfl⟩
  rw [hbd] at hq1 hlo hhi
  dsimp only at hq1 hlo hhi
  have HB1 := Lib.hid hq1
  have hq2 := fun W (hc : W.cell? ad = some (.int .u8 b0)) => bounds_2 ad cap b0 b0l b0u W hc
  rw [show bdL b0 2 = (0, 0) from by unfold bdL; rw [if_pos (by unfold unitN; (repeat' split) <;> omega)]] at hq2
  dsimp only at hq2 
  have HB2 := Lib.hid hq2
  clear hq1 hq2
  have hip : 0 < hi ∧ hi ≤ 255 ∧ 0 ≤ lo := by have : hi = (bdL b0 1).2 ∧ lo = (bdL b0 1).1 := ⟨(congrArg Prod.snd hbd).symm, (congrArg Prod.fst hbd).symm⟩; rw [this.1, this.2]; unfold bdL; rw [if_neg (by unfold unitN; (repeat' split) <;> omega), if_pos rfl]; (repeat' split) <;> simp <;> omega
  obtain ⟨hip0, hip1, hip2⟩ := hip
  have hz1 : (hi == 0) = false := by simp; omega
  have hz2 : (hi != 0) = true := by simp; omega
  have hl1 : decide (b1 < lo) = false := by simp; omega
  have hl2 : decide (hi < b1) = false := by simp; omega
  try clear hbd
  have hA0 : (w.alloc (.cells #[.int .i64 0, .int .i64 0, .int .i64 0, .int .i32 0, .int .i32 0, .int .i64 0, .int .i64 0, .int .u32 0, .int .i32 0] 50)).cell? ad = some (.int .u8 b0) := (Below.cell ((Below.refl _ w).alloc (Nat.le_refl _) _) (block_lt_of_cell hc0)).trans hc0
  have hA1 : (w.alloc (.cells #[.int .i64 0, .int .i64 0, .int .i64 0, .int .i32 0, .int .i32 0, .int .i64 0, .int .i64 0, .int .u32 0, .int .i32 0] 50)).cell? { block := ad.block, off := ad.off + 1 } = some (.int .u8 b1) := (Below.cell ((Below.refl _ w).alloc (Nat.le_refl _) _) (block_lt_of_cell hc1)).trans hc1
  have hn0 : 0 < n := by omega
  have hN0 : (0 : Int) < (n : Int) := by omega
  have hk0 : (0 : Int) ≤ (cap : Int) := by omega
  have hK0 : 0 ≤ cap := by omega
  have hn1 : 1 < n := by omega
  have hN1 : (1 : Int) < (n : Int) := by omega
  have hk1 : (1 : Int) ≤ (cap : Int) := by omega
  have hK1 : 1 ≤ cap := by omega
  have hnm : 2 < n := by omega
  have hNm : (2 : Int) < (n : Int) := by omega
  have hke : 2 ≤ cap := by omega
  have hKe : (2 : Int) ≤ (cap : Int) := by omega
  clear hc0 hc1
  go_enter Tryd.func25, Tryd.ntmps25
  go_wp2_with fail
  refine wp_loop_rounds 6 ?_
  rw [rounds_succ]
  go_wp2_with fail
  refine (HB0.out _).mono ?_
  rintro e w' ⟨rfl, rfl⟩
  go_wp2_with fail
  rw [rounds_succ]
  go_wp2_with fail
  refine (HB1.out _ hA0).mono ?_
  rintro e w' ⟨rfl, rfl⟩
  go_wp2_with fail
  rw [rounds_succ]
  go_wp2_with fail
  refine (HB2.out _ hA0).mono ?_
  rintro e w' ⟨rfl, rfl⟩
  go_wp2_with fail
  refine (HB2.out _ hA0).mono ?_
  rintro e w' ⟨rfl, rfl⟩
  go_wp2_with fail
  refine wp_loop_rounds 6 ?_
  rw [rounds_succ]
  go_wp2_with fail
  rw [rounds_succ]
  go_wp2_with fail
  exact ⟨rfl, _, got_end (q := w.heap.size) (g := ⟨0, 2, 1, 64 * (b0 % 32) + b1 % 64⟩) rfl rfl (heap_alloc_new w _), rfl, (Below.refl _ _).alloc (Nat.le_refl _) _⟩
set_option maxRecDepth 100000 in
set_option maxHeartbeats 1600000 in
theorem get_three_m (ad : Addr) (n cap : Nat) (hn : 4 ≤ n) (hm : n ≤ 140737488351232) (hcap : n ≤ cap) (b0 : Int) (b0l : 0 ≤ b0) (b0u : b0 ≤ 255) (b1 : Int) (b1l : 0 ≤ b1) (b1u : b1 ≤ 255) (b2 : Int) (b2l : 0 ≤ b2) (b2u : b2 ≤ 255) (w : World) (hc0 : w.cell? ad = some (.int .u8 b0)) (hc1 : w.cell? (ad.add 1) = some (.int .u8 b1)) (hc2 : w.cell? (ad.add 2) = some (.int .u8 b2)) (hb0 : 224 ≤ b0) (hb0u : b0 < 240) (hlo : (bdL b0 1).1 ≤ b1) (hhi : b1 ≤ (bdL b0 1).2) (hb2l : 128 ≤ b2) (hb2h : b2 ≤ 191) :
    Calls Tryd.prog 25 #[.slice (some ad) n cap] w fun e w' => e = .returned (gotV ⟨0, 3, 1, 64 * (64 * (b0 % 16) + b1 % 64) + b2 % 64⟩) ∧ Below w.heap.size w w' := by
  have HB0 := Lib.hid (fun W => bounds_nil (some ad) cap W)
  have hq1 := fun W (hc : W.cell? ad = some (.int .u8 b0)) => bounds_1 ad cap b0 b0l b0u W hc
  obtain ⟨⟨lo, hi⟩, hbd⟩ : ∃ p, bdL b0 1 = p := ⟨_, rfl⟩
  rw [hbd] at hq1 hlo hhi
  dsimp only at hq1 hlo hhi
  have HB1 := Lib.hid hq1
  have hq2 := fun W (hc : W.cell? ad = some (.int .u8 b0)) => bounds_2 ad cap b0 b0l b0u W hc
  rw [show bdL b0 2 = (128, 191) from by unfold bdL; rw [if_neg (by unfold unitN; (repeat' split) <;> omega), if_neg (by decide)]] at hq2
  dsimp only at hq2 
  have HB2 := Lib.hid hq2
  have hq3 := fun W (hc : W.cell? ad = some (.int .u8 b0)) => bounds_3 ad cap b0 b0l b0u W hc
  rw [show bdL b0 3 = (0, 0) from by unfold bdL; rw [if_pos (by unfold unitN; (repeat' split) <;> omega)]] at hq3
  dsimp only at hq3 
  have HB3 := Lib.hid hq3
  clear hq1 hq2 hq3
  have hip : 0 < hi ∧ hi ≤ 255 ∧ 0 ≤ lo := by have : hi = (bdL b0 1).2 ∧ lo = (bdL b0 1).1 := ⟨(congrArg Prod.snd hbd).symm, (congrArg Prod.fst hbd).symm⟩; rw [this.1, this.2]; unfold bdL; rw [if_neg (by unfold unitN; (repeat' split) <;> omega), if_pos rfl]; (repeat' split) <;> simp <;> omega
  obtain ⟨hip0, hip1, hip2⟩ := hip
  have hz1 : (hi == 0) = false := by simp; omega
  have hz2 : (hi != 0) = true := by simp; omega
  have hl1 : decide (b1 < lo) = false := by simp; omega
  have hl2 : decide (hi < b1) = false := by simp; omega
  have hl2a : decide (b2 < 128) = false := by simp; omega
  have hl2b : decide (191 < b2) = false := by simp; omega
  try clear hbd
  have hA0 : (w.alloc (.cells #[.int .i64 0, .int .i64 0, .int .i64 0, .int .i32 0, .int .i32 0, .int .i64 0, .int .i64 0, .int .u32 0, .int .i32 0] 50)).cell? ad = some (.int .u8 b0) := (Below.cell ((Below.refl _ w).alloc (Nat.le_refl _) _) (block_lt_of_cell hc0)).trans hc0
  have hA1 : (w.alloc (.cells #[.int .i64 0, .int .i64 0, .int .i64 0, .int .i32 0, .int .i32 0, .int .i64 0, .int .i64 0, .int .u32 0, .int .i32 0] 50)).cell? { block := ad.block, off := ad.off + 1 } = some (.int .u8 b1) := (Below.cell ((Below.refl _ w).alloc (Nat.le_refl _) _) (block_lt_of_cell hc1)).trans hc1
  have hA2 : (w.alloc (.cells #[.int .i64 0, .int .i64 0, .int .i64 0, .int .i32 0, .int .i32 0, .int .i64 0, .int .i64 0, .int .u32 0, .int .i32 0] 50)).cell? { block := ad.block, off := ad.off + 2 } = some (.int .u8 b2) := (Below.cell ((Below.refl _ w).alloc (Nat.le_refl _) _) (block_lt_of_cell hc2)).trans hc2
  have hn0 : 0 < n := by omega
  have hN0 : (0 : Int) < (n : Int) := by omega
  have hk0 : (0 : Int) ≤ (cap : Int) := by omega
  have hK0 : 0 ≤ cap := by omega
  have hn1 : 1 < n := by omega
  have hN1 : (1 : Int) < (n : Int) := by omega
  have hk1 : (1 : Int) ≤ (cap : Int) := by omega
  have hK1 : 1 ≤ cap := by omega
  have hn2 : 2 < n := by omega
  have hN2 : (2 : Int) < (n : Int) := by omega
  have hk2 : (2 : Int) ≤ (cap : Int) := by omega
  have hK2 : 2 ≤ cap := by omega
  have hnm : 3 < n := by omega
  have hNm : (3 : Int) < (n : Int) := by omega
  have hke : 3 ≤ cap := by omega
  have hKe : (3 : Int) ≤ (cap : Int) := by omega
  clear hc0 hc1 hc2
  go_enter Tryd.func25, Tryd.ntmps25
  go_wp2_with fail
  refine wp_loop_rounds 6 ?_
  rw [rounds_succ]
  go_wp2_with fail
  refine (HB0.out _).mono ?_
  rintro e w' ⟨rfl, rfl⟩
  go_wp2_with fail
  rw [rounds_succ]
  go_wp2_with fail
  refine (HB1.out _ hA0).mono ?_
  rintro e w' ⟨rfl, rfl⟩
  go_wp2_with fail
  rw [rounds_succ]
  go_wp2_with fail
  refine (HB2.out _ hA0).mono ?_
  rintro e w' ⟨rfl, rfl⟩
  go_wp2_with fail
  rw [rounds_succ]
  go_wp2_with fail
  refine (HB3.out _ hA0).mono ?_
  rintro e w' ⟨rfl, rfl⟩
  go_wp2_with fail
  refine (HB3.out _ hA0).mono ?_
  rintro e w' ⟨rfl, rfl⟩
  go_wp2_with fail
  refine wp_loop_rounds 6 ?_
  rw [rounds_succ]
  go_wp2_with fail
  rw [rounds_succ]
  go_wp2_with fail
  rw [rounds_succ]
  go_wp2_with fail
  exact ⟨rfl, _, got_end (q := w.heap.size) (g := ⟨0, 3, 1, 64 * (64 * (b0 % 16) + b1 % 64) + b2 % 64⟩) rfl rfl (heap_alloc_new w _), rfl, (Below.refl _ _).alloc (Nat.le_refl _) _⟩
set_option maxRecDepth 100000 in
set_option maxHeartbeats 1600000 in
theorem get_four_m (ad : Addr) (n cap : Nat) (hn : 5 ≤ n) (hm : n ≤ 140737488351232) (hcap : n ≤ cap) (b0 : Int) (b0l : 0 ≤ b0) (b0u : b0 ≤ 255) (b1 : Int) (b1l : 0 ≤ b1) (b1u : b1 ≤ 255) (b2 : Int) (b2l : 0 ≤ b2) (b2u : b2 ≤ 255) (b3 : Int) (b3l : 0 ≤ b3) (b3u : b3 ≤ 255) (w : World) (hc0 : w.cell? ad = some (.int .u8 b0)) (hc1 : w.cell? (ad.add 1) = some (.int .u8 b1)) (hc2 : w.cell? (ad.add 2) = some (.int .u8 b2)) (hc3 : w.cell? (ad.add 3) = some (.int .u8 b3)) (hb0 : 240 ≤ b0) (hb0u : b0 ≤ 244) (hlo : (bdL b0 1).1 ≤ b1) (hhi : b1 ≤ (bdL b0 1).2) (hb2l : 128 ≤ b2) (hb2h : b2 ≤ 191) (hb3l : 128 ≤ b3) (hb3h : b3 ≤ 191) :
    Calls Tryd.prog 25 #[.slice (some ad) n cap] w fun e w' => e = .returned (gotV ⟨0, 4, 1, 64 * (64 * (64 * (b0 % 8) + b1 % 64) + b2 % 64) + b3 % 64⟩) ∧ Below w.heap.size w w' := by
  have HB0 := Lib.hid (fun W => bounds_nil (some ad) cap W)
  have hq1 := fun W (hc : W.cell? ad = some (.int .u8 b0)) => bounds_1 ad cap b0 b0l b0u W hc
  obtain ⟨⟨lo, hi⟩, hbd⟩ : ∃ p, bdL b0 1 = p := ⟨_, rfl⟩
  rw [hbd] at hq1 hlo hhi
  dsimp only at hq1 hlo hhi
  have HB1 := Lib.hid hq1
  have hq2 := fun W (hc : W.cell? ad = some (.int .u8 b0)) => bounds_2 ad cap b0 b0l b0u W hc
  rw [show bdL b0 2 = (128, 191) from by unfold bdL; rw [if_neg (by unfold unitN; (repeat' split) <;> omega), if_neg (by decide)]] at hq2
  dsimp only at hq2 
  have HB2 := Lib.hid hq2
  have hq3 := fun W (hc : W.cell? ad = some (.int .u8 b0)) => bounds_3 ad cap b0 b0l b0u W hc
  rw [show bdL b0 3 = (128, 191) from by unfold bdL; rw [if_neg (by unfold unitN; (repeat' split) <;> omega), if_neg (by decide)]] at hq3
  dsimp only at hq3 
  have HB3 := Lib.hid hq3
  have hq4 := fun W (hc : W.cell? ad = some (.int .u8 b0)) => bounds_4 ad cap b0 b0l b0u W hc
  rw [show bdL b0 4 = (0, 0) from by unfold bdL; rw [if_pos (by unfold unitN; (repeat' split) <;> omega)]] at hq4
  dsimp only at hq4 
  have HB4 := Lib.hid hq4
  clear hq1 hq2 hq3 hq4
  have hip : 0 < hi ∧ hi ≤ 255 ∧ 0 ≤ lo := by have : hi = (bdL b0 1).2 ∧ lo = (bdL b0 1).1 := ⟨(congrArg Prod.snd hbd).symm, (congrArg Prod.fst hbd).symm⟩; rw [this.1, this.2]; unfold bdL; rw [if_neg (by unfold unitN; (repeat' split) <;> omega), if_pos rfl]; (repeat' split) <;> simp <;> omega
  obtain ⟨hip0, hip1, hip2⟩ := hip
  have hz1 : (hi == 0) = false := by simp; omega
  have hz2 : (hi != 0) = true := by simp; omega
  have hl1 : decide (b1 < lo) = false := by simp; omega
  have hl2 : decide (hi < b1) = false := by simp; omega
  have hl2a : decide (b2 < 128) = false := by simp; omega
  have hl2b : decide (191 < b2) = false := by simp; omega
  have hl3a : decide (b3 < 128) = false := by simp; omega
  have hl3b : decide (191 < b3) = false := by simp; omega
  try clear hbd
  have hA0 : (w.alloc (.cells #[.int .i64 0, .int .i64 0, .int .i64 0, .int .i32 0, .int .i32 0, .int .i64 0, .int .i64 0, .int .u32 0, .int .i32 0] 50)).cell? ad = some (.int .u8 b0) := (Below.cell ((Below.refl _ w).alloc (Nat.le_refl _) _) (block_lt_of_cell hc0)).trans hc0
  have hA1 : (w.alloc (.cells #[.int .i64 0, .int .i64 0, .int .i64 0, .int .i32 0, .int .i32 0, .int .i64 0, .int .i64 0, .int .u32 0, .int .i32 0] 50)).cell? { block := ad.block, off := ad.off + 1 } = some (.int .u8 b1) := (Below.cell ((Below.refl _ w).alloc (Nat.le_refl _) _) (block_lt_of_cell hc1)).trans hc1
  have hA2 : (w.alloc (.cells #[.int .i64 0, .int .i64 0, .int .i64 0, .int .i32 0, .int .i32 0, .int .i64 0, .int .i64 0, .int .u32 0, .int .i32 0] 50)).cell? { block := ad.block, off := ad.off + 2 } = some (.int .u8 b2) := (Below.cell ((Below.refl _ w).alloc (Nat.le_refl _) _) (block_lt_of_cell hc2)).trans hc2
  have hA3 : (w.alloc (.cells #[.int .i64 0, .int .i64 0, .int .i64 0, .int .i32 0, .int .i32 0, .int .i64 0, .int .i64 0, .int .u32 0, .int .i32 0] 50)).cell? { block := ad.block, off := ad.off + 3 } = some (.int .u8 b3) := (Below.cell ((Below.refl _ w).alloc (Nat.le_refl _) _) (block_lt_of_cell hc3)).trans hc3
  have hn0 : 0 < n := by omega
  have hN0 : (0 : Int) < (n : Int) := by omega
  have hk0 : (0 : Int) ≤ (cap : Int) := by omega
  have hK0 : 0 ≤ cap := by omega
  have hn1 : 1 < n := by omega
  have hN1 : (1 : Int) < (n : Int) := by omega
  have hk1 : (1 : Int) ≤ (cap : Int) := by omega
  have hK1 : 1 ≤ cap := by omega
  have hn2 : 2 < n := by omega
  have hN2 : (2 : Int) < (n : Int) := by omega
  have hk2 : (2 : Int) ≤ (cap : Int) := by omega
  have hK2 : 2 ≤ cap := by omega
  have hn3 : 3 < n := by omega
  have hN3 : (3 : Int) < (n : Int) := by omega
  have hk3 : (3 : Int) ≤ (cap : Int) := by omega
  have hK3 : 3 ≤ cap := by omega
  have hnm : 4 < n := by omega
  have hNm : (4 : Int) < (n : Int) := by omega
  have hke : 4 ≤ cap := by omega
  have hKe : (4 : Int) ≤ (cap : Int) := by omega
  clear hc0 hc1 hc2 hc3
  go_enter Tryd.func25, Tryd.ntmps25
  go_wp2_with fail
  refine wp_loop_rounds 6 ?_
  rw [rounds_succ]
  go_wp2_with fail
  refine (HB0.out _).mono ?_
  rintro e w' ⟨rfl, rfl⟩
  go_wp2_with fail
  rw [rounds_succ]
  go_wp2_with fail
  refine (HB1.out _ hA0).mono ?_
  rintro e w' ⟨rfl, rfl⟩
  go_wp2_with fail
  rw [rounds_succ]
  go_wp2_with fail
  refine (HB2.out _ hA0).mono ?_
  rintro e w' ⟨rfl, rfl⟩
  go_wp2_with fail
  rw [rounds_succ]
  go_wp2_with fail
  refine (HB3.out _ hA0).mono ?_
  rintro e w' ⟨rfl, rfl⟩
  go_wp2_with fail
  rw [rounds_succ]
  go_wp2_with fail
  refine (HB4.out _ hA0).mono ?_
  rintro e w' ⟨rfl, rfl⟩
  go_wp2_with fail
  refine (HB4.out _ hA0).mono ?_
  rintro e w' ⟨rfl, rfl⟩
  go_wp2_with fail
  refine wp_loop_rounds 6 ?_
  rw [rounds_succ]
  go_wp2_with fail
  rw [rounds_succ]
  go_wp2_with fail
  rw [rounds_succ]
  go_wp2_with fail
  rw [rounds_succ]
  go_wp2_with fail
  exact ⟨rfl, _, got_end (q := w.heap.size) (g := ⟨0, 4, 1, 64 * (64 * (64 * (b0 % 8) + b1 % 64) + b2 % 64) + b3 % 64⟩) rfl rfl (heap_alloc_new w _), rfl, (Below.refl _ _).alloc (Nat.le_refl _) _⟩
set_option maxRecDepth 100000 in
set_option maxHeartbeats 1600000 in
theorem get_ill0a (ad : Addr) (n cap : Nat) (hn : 1 ≤ n) (hm : n ≤ 140737488351232) (hcap : n ≤ cap) (b0 : Int) (b0l : 0 ≤ b0) (b0u : b0 ≤ 255) (w : World) (hc0 : w.cell? ad = some (.int .u8 b0)) (hb : 128 ≤ b0) (hb2 : b0 < 194) :
    Calls Tryd.prog 25 #[.slice (some ad) n cap] w fun e w' => e = .returned (gotV ⟨10, 1, 0, 0⟩) ∧ Below w.heap.size w w' := by
  have HB0 := Lib.hid (fun W => bounds_nil (some ad) cap W)
  try clear hbd
  have hA0 : (w.alloc (.cells #[.int .i64 0, .int .i64 0, .int .i64 0, .int .i32 0, .int .i32 0, .int .i64 0, .int .i64 0, .int .u32 0, .int .i32 0] 50)).cell? ad = some (.int .u8 b0) := (Below.cell ((Below.refl _ w).alloc (Nat.le_refl _) _) (block_lt_of_cell hc0)).trans hc0
  have hn0 : 0 < n := by omega
  have hN0 : (0 : Int) < (n : Int) := by omega
  have hk0 : (0 : Int) ≤ (cap : Int) := by omega
  have hK0 : 0 ≤ cap := by omega
  have hke : 1 ≤ cap := by omega
  have hKe : (1 : Int) ≤ (cap : Int) := by omega
  clear hc0
  go_enter Tryd.func25, Tryd.ntmps25
  go_wp2_with fail
  refine wp_loop_rounds 6 ?_
  rw [rounds_succ]
  go_wp2_with fail
  refine (HB0.out _).mono ?_
  rintro e w' ⟨rfl, rfl⟩
  go_wp2_with fail
  exact ⟨rfl, _, got_end (q := w.heap.size) (g := ⟨10, 1, 0, 0⟩) rfl rfl (heap_alloc_new w _), rfl, (Below.refl _ _).alloc (Nat.le_refl _) _⟩
set_option maxRecDepth 100000 in
set_option maxHeartbeats 1600000 in
theorem get_ill0b (ad : Addr) (n cap : Nat) (hn : 1 ≤ n) (hm : n ≤ 140737488351232) (hcap : n ≤ cap) (b0 : Int) (b0l : 0 ≤ b0) (b0u : b0 ≤ 255) (w : World) (hc0 : w.cell? ad = some (.int .u8 b0)) (hb : 244 < b0) :
    Calls Tryd.prog 25 #[.slice (some ad) n cap] w fun e w' => e = .returned (gotV ⟨10, 1, 0, 0⟩) ∧ Below w.heap.size w w' := by
  have HB0 := Lib.hid (fun W => bounds_nil (some ad) cap W)
  try clear hbd
  have hA0 : (w.alloc (.cells #[.int .i64 0, .int .i64 0, .int .i64 0, .int .i32 0, .int .i32 0, .int .i64 0, .int .i64 0, .int .u32 0, .int .i32 0] 50)).cell? ad = some (.int .u8 b0) := (Below.cell ((Below.refl _ w).alloc (Nat.le_refl _) _) (block_lt_of_cell hc0)).trans hc0
  have hn0 : 0 < n := by omega
  have hN0 : (0 : Int) < (n : Int) := by omega
  have hk0 : (0 : Int) ≤ (cap : Int) := by omega
  have hK0 : 0 ≤ cap := by omega
  have hke : 1 ≤ cap := by omega
  have hKe : (1 : Int) ≤ (cap : Int) := by omega
  clear hc0
  go_enter Tryd.func25, Tryd.ntmps25
  go_wp2_with fail
  refine wp_loop_rounds 6 ?_
  rw [rounds_succ]
  go_wp2_with fail
  refine (HB0.out _).mono ?_
  rintro e w' ⟨rfl, rfl⟩
  go_wp2_with fail
  exact ⟨rfl, _, got_end (q := w.heap.size) (g := ⟨10, 1, 0, 0⟩) rfl rfl (heap_alloc_new w _), rfl, (Below.refl _ _).alloc (Nat.le_refl _) _⟩
set_option maxRecDepth 100000 in
set_option maxHeartbeats 1600000 in
theorem get_more1 (ad : Addr) (cap : Nat) (hcap : 1 ≤ cap) (b0 : Int) (b0l : 0 ≤ b0) (b0u : b0 ≤ 255) (w : World) (hc0 : w.cell? ad = some (.int .u8 b0)) (hb0 : 194 ≤ b0) (hb0u : b0 ≤ 244) :
    Calls Tryd.prog 25 #[.slice (some ad) 1 cap] w fun e w' => e = .returned (gotV ⟨1, 0, 0, 0⟩) ∧ Below w.heap.size w w' := by
  have HB0 := Lib.hid (fun W => bounds_nil (some ad) cap W)
  have hq1 := fun W (hc : W.cell? ad = some (.int .u8 b0)) => bounds_1 ad cap b0 b0l b0u W hc
  obtain ⟨⟨lo, hi⟩, hbd⟩ : ∃ p, bdL b0 1 = p := ⟨_, rfl⟩
  rw [hbd] at hq1 
  dsimp only at hq1 
  have HB1 := Lib.hid hq1
  clear hq1
  have hip : 0 < hi ∧ hi ≤ 255 ∧ 0 ≤ lo := by have : hi = (bdL b0 1).2 ∧ lo = (bdL b0 1).1 := ⟨(congrArg Prod.snd hbd).symm, (congrArg Prod.fst hbd).symm⟩; rw [this.1, this.2]; unfold bdL; rw [if_neg (by unfold unitN; (repeat' split) <;> omega), if_pos rfl]; (repeat' split) <;> simp <;> omega
  obtain ⟨hip0, hip1, hip2⟩ := hip
  have hz1 : (hi == 0) = false := by simp; omega
  have hz2 : (hi != 0) = true := by simp; omega
  try clear hbd
  have hA0 : (w.alloc (.cells #[.int .i64 0, .int .i64 0, .int .i64 0, .int .i32 0, .int .i32 0, .int .i64 0, .int .i64 0, .int .u32 0, .int .i32 0] 50)).cell? ad = some (.int .u8 b0) := (Below.cell ((Below.refl _ w).alloc (Nat.le_refl _) _) (block_lt_of_cell hc0)).trans hc0
  have hk0 : (0 : Int) ≤ (cap : Int) := by omega
  have hK0 : 0 ≤ cap := by omega
  have hke : 1 ≤ cap := by omega
  have hKe : (1 : Int) ≤ (cap : Int) := by omega
  clear hc0
  go_enter Tryd.func25, Tryd.ntmps25
  go_wp2_with fail
  refine wp_loop_rounds 6 ?_
  rw [rounds_succ]
  go_wp2_with fail
  refine (HB0.out _).mono ?_
  rintro e w' ⟨rfl, rfl⟩
  go_wp2_with fail
  rw [rounds_succ]
  go_wp2_with fail
  refine (HB1.out _ hA0).mono ?_
  rintro e w' ⟨rfl, rfl⟩
  go_wp2_with fail
  exact ⟨rfl, _, got_end (q := w.heap.size) (g := ⟨1, 0, 0, 0⟩) rfl rfl (heap_alloc_new w _), rfl, (Below.refl _ _).alloc (Nat.le_refl _) _⟩
set_option maxRecDepth 100000 in
set_option maxHeartbeats 1600000 in
theorem get_ill1a (ad : Addr) (n cap : Nat) (hn : 2 ≤ n) (hm : n ≤ 140737488351232) (hcap : n ≤ cap) (b0 : Int) (b0l : 0 ≤ b0) (b0u : b0 ≤ 255) (b1 : Int) (b1l : 0 ≤ b1) (b1u : b1 ≤ 255) (w : World) (hc0 : w.cell? ad = some (.int .u8 b0)) (hc1 : w.cell? (ad.add 1) = some (.int .u8 b1)) (hb0 : 194 ≤ b0) (hb0u : b0 ≤ 244) (hlo : b1 < (bdL b0 1).1) :
    Calls Tryd.prog 25 #[.slice (some ad) n cap] w fun e w' => e = .returned (gotV ⟨10, 1, 0, 0⟩) ∧ Below w.heap.size w w' := by
  have HB0 := Lib.hid (fun W => bounds_nil (some ad) cap W)
  have hq1 := fun W (hc : W.cell? ad = some (.int .u8 b0)) => bounds_1 ad cap b0 b0l b0u W hc
  obtain ⟨⟨lo, hi⟩, hbd⟩ : ∃ p, bdL b0 1 = p := ⟨_, rfl⟩
  rw [hbd] at hq1 hlo
  dsimp only at hq1 hlo
  have HB1 := Lib.hid hq1
  clear hq1
  have hip : 0 < hi ∧ hi ≤ 255 ∧ 0 ≤ lo := by have : hi = (bdL b0 1).2 ∧ lo = (bdL b0 1).1 := ⟨(congrArg Prod.snd hbd).symm, (congrArg Prod.fst hbd).symm⟩; rw [this.1, this.2]; unfold bdL; rw [if_neg (by unfold unitN; (repeat' split) <;> omega), if_pos rfl]; (repeat' split) <;> simp <;> omega
  obtain ⟨hip0, hip1, hip2⟩ := hip
  have hz1 : (hi == 0) = false := by simp; omega
  have hz2 : (hi != 0) = true := by simp; omega
  have hl1 : decide (b1 < lo) = true := by simp; omega
  try clear hbd
  have hA0 : (w.alloc (.cells #[.int .i64 0, .int .i64 0, .int .i64 0, .int .i32 0, .int .i32 0, .int .i64 0, .int .i64 0, .int .u32 0, .int .i32 0] 50)).cell? ad = some (.int .u8 b0) := (Below.cell ((Below.refl _ w).alloc (Nat.le_refl _) _) (block_lt_of_cell hc0)).trans hc0
  have hA1 : (w.alloc (.cells #[.int .i64 0, .int .i64 0, .int .i64 0, .int .i32 0, .int .i32 0, .int .i64 0, .int .i64 0, .int .u32 0, .int .i32 0] 50)).cell? { block := ad.block, off := ad.off + 1 } = some (.int .u8 b1) := (Below.cell ((Below.refl _ w).alloc (Nat.le_refl _) _) (block_lt_of_cell hc1)).trans hc1
  have hn0 : 0 < n := by omega
  have hN0 : (0 : Int) < (n : Int) := by omega
  have hk0 : (0 : Int) ≤ (cap : Int) := by omega
  have hK0 : 0 ≤ cap := by omega
  have hn1 : 1 < n := by omega
  have hN1 : (1 : Int) < (n : Int) := by omega
  have hk1 : (1 : Int) ≤ (cap : Int) := by omega
  have hK1 : 1 ≤ cap := by omega
  have hke : 2 ≤ cap := by omega
  have hKe : (2 : Int) ≤ (cap : Int) := by omega
  clear hc0 hc1
  go_enter Tryd.func25, Tryd.ntmps25
  go_wp2_with fail
  refine wp_loop_rounds 6 ?_
  rw [rounds_succ]
  go_wp2_with fail
  refine (HB0.out _).mono ?_
  rintro e w' ⟨rfl, rfl⟩
  go_wp2_with fail
  rw [rounds_succ]
  go_wp2_with fail
  refine (HB1.out _ hA0).mono ?_
  rintro e w' ⟨rfl, rfl⟩
  go_wp2_with fail
  exact ⟨rfl, _, got_end (q := w.heap.size) (g := ⟨10, 1, 0, 0⟩) rfl rfl (heap_alloc_new w _), rfl, (Below.refl _ _).alloc (Nat.le_refl _) _⟩
set_option maxRecDepth 100000 in
set_option maxHeartbeats 1600000 in
theorem get_ill1b (ad : Addr) (n cap : Nat) (hn : 2 ≤ n) (hm : n ≤ 140737488351232) (hcap : n ≤ cap) (b0 : Int) (b0l : 0 ≤ b0) (b0u : b0 ≤ 255) (b1 : Int) (b1l : 0 ≤ b1) (b1u : b1 ≤ 255) (w : World) (hc0 : w.cell? ad = some (.int .u8 b0)) (hc1 : w.cell? (ad.add 1) = some (.int .u8 b1)) (hb0 : 194 ≤ b0) (hb0u : b0 ≤ 244) (hlo : (bdL b0 1).1 ≤ b1) (hhi : (bdL b0 1).2 < b1) :
    Calls Tryd.prog 25 #[.slice (some ad) n cap] w fun e w' => e = .returned (gotV ⟨10, 1, 0, 0⟩) ∧ Below w.heap.size w w' := by
  have HB0 := Lib.hid (fun W => bounds_nil (some ad) cap W)
  have hq1 := fun W (hc : W.cell? ad = some (.int .u8 b0)) => bounds_1 ad cap b0 b0l b0u W hc
  obtain ⟨⟨lo, hi⟩, hbd⟩ : ∃ p, bdL b0 1 = p := ⟨_, rfl⟩
  rw [hbd] at hq1 hlo hhi
  dsimp only at hq1 hlo hhi
  have HB1 := Lib.hid hq1
  clear hq1
  have hip : 0 < hi ∧ hi ≤ 255 ∧ 0 ≤ lo := by have : hi = (bdL b0 1).2 ∧ lo = (bdL b0 1).1 := ⟨(congrArg Prod.snd hbd).symm, (congrArg Prod.fst hbd).symm⟩; rw [this.1, this.2]; unfold bdL; rw [if_neg (by unfold unitN; (repeat' split) <;> omega), if_pos rfl]; (repeat' split) <;> simp <;> omega
  obtain ⟨hip0, hip1, hip2⟩ := hip
  have hz1 : (hi == 0) = false := by simp; omega
  have hz2 : (hi != 0) = true := by simp; omega
  have hl1 : decide (b1 < lo) = false := by simp; omega
  have hl2 : decide (hi < b1) = true := by simp; omega
  try clear hbd
  have hA0 : (w.alloc (.cells #[.int .i64 0, .int .i64 0, .int .i64 0, .int .i32 0, .int .i32 0, .int .i64 0, .int .i64 0, .int .u32 0, .int .i32 0] 50)).cell? ad = some (.int .u8 b0) := (Below.cell ((Below.refl _ w).alloc (Nat.le_refl _) _) (block_lt_of_cell hc0)).trans hc0
  have hA1 : (w.alloc (.cells #[.int .i64 0, .int .i64 0, .int .i64 0, .int .i32 0, .int .i32 0, .int .i64 0, .int .i64 0, .int .u32 0, .int .i32 0] 50)).cell? { block := ad.block, off := ad.off + 1 } = some (.int .u8 b1) := (Below.cell ((Below.refl _ w).alloc (Nat.le_refl _) _) (block_lt_of_cell hc1)).trans hc1
  have hn0 : 0 < n := by omega
  have hN0 : (0 : Int) < (n : Int) := by omega
  have hk0 : (0 : Int) ≤ (cap : Int) := by omega
  have hK0 : 0 ≤ cap := by omega
  have hn1 : 1 < n := by omega
  have hN1 : (1 : Int) < (n : Int) := by omega
  have hk1 : (1 : Int) ≤ (cap : Int) := by omega
  have hK1 : 1 ≤ cap := by omega
  have hke : 2 ≤ cap := by omega
  have hKe : (2 : Int) ≤ (cap : Int) := by omega
  clear hc0 hc1
  go_enter Tryd.func25, Tryd.ntmps25
  go_wp2_with fail
  refine wp_loop_rounds 6 ?_
  rw [rounds_succ]
  go_wp2_with fail
  refine (HB0.out _).mono ?_
  rintro e w' ⟨rfl, rfl⟩
  go_wp2_with fail
  rw [rounds_succ]
  go_wp2_with fail
  refine (HB1.out _ hA0).mono ?_
  rintro e w' ⟨rfl, rfl⟩
  go_wp2_with fail
  exact ⟨rfl, _, got_end (q := w.heap.size) (g := ⟨10, 1, 0, 0⟩) rfl rfl (heap_alloc_new w _), rfl, (Below.refl _ _).alloc (Nat.le_refl _) _⟩
set_option maxRecDepth 100000 in
set_option maxHeartbeats 1600000 in
theorem get_more2 (ad : Addr) (cap : Nat) (hcap : 2 ≤ cap) (b0 : Int) (b0l : 0 ≤ b0) (b0u : b0 ≤ 255) (b1 : Int) (b1l : 0 ≤ b1) (b1u : b1 ≤ 255) (w : World) (hc0 : w.cell? ad = some (.int .u8 b0)) (hc1 : w.cell? (ad.add 1) = some (.int .u8 b1)) (hb0 : 224 ≤ b0) (hb0u : b0 ≤ 244) (hlo : (bdL b0 1).1 ≤ b1) (hhi : b1 ≤ (bdL b0 1).2) :
    Calls Tryd.prog 25 #[.slice (some ad) 2 cap] w fun e w' => e = .returned (gotV ⟨1, 0, 0, 0⟩) ∧ Below w.heap.size w w' := by
  have HB0 := Lib.hid (fun W => bounds_nil (some ad) cap W)
  have hq1 := fun W (hc : W.cell? ad = some (.int .u8 b0)) => bounds_1 ad cap b0 b0l b0u W hc
  obtain ⟨⟨lo, hi⟩, hbd⟩ : ∃ p, bdL b0 1 = p := ⟨_, rfl⟩
  rw [hbd] at hq1 hlo hhi
  dsimp only at hq1 hlo hhi
  have HB1 := Lib.hid hq1
  have hq2 := fun W (hc : W.cell? ad = some (.int .u8 b0)) => bounds_2 ad cap b0 b0l b0u W hc
  rw [show bdL b0 2 = (128, 191) from by unfold bdL; rw [if_neg (by unfold unitN; (repeat' split) <;> omega), if_neg (by decide)]] at hq2
  dsimp only at hq2 
  have HB2 := Lib.hid hq2
  clear hq1 hq2
  have hip : 0 < hi ∧ hi ≤ 255 ∧ 0 ≤ lo := by have : hi = (bdL b0 1).2 ∧ lo = (bdL b0 1).1 := ⟨(congrArg Prod.snd hbd).symm, (congrArg Prod.fst hbd).symm⟩; rw [this.1, this.2]; unfold bdL; rw [if_neg (by unfold unitN; (repeat' split) <;> omega), if_pos rfl]; (repeat' split) <;> simp <;> omega
  obtain ⟨hip0, hip1, hip2⟩ := hip
  have hz1 : (hi == 0) = false := by simp; omega
  have hz2 : (hi != 0) = true := by simp; omega
  have hl1 : decide (b1 < lo) = false := by simp; omega
  have hl2 : decide (hi < b1) = false := by simp; omega
  try clear hbd
  have hA0 : (w.alloc (.cells #[.int .i64 0, .int .i64 0, .int .i64 0, .int .i32 0, .int .i32 0, .int .i64 0, .int .i64 0, .int .u32 0, .int .i32 0] 50)).cell? ad = some (.int .u8 b0) := (Below.cell ((Below.refl _ w).alloc (Nat.le_refl _) _) (block_lt_of_cell hc0)).trans hc0
  have hA1 : (w.alloc (.cells #[.int .i64 0, .int .i64 0, .int .i64 0, .int .i32 0, .int .i32 0, .int .i64 0, .int .i64 0, .int .u32 0, .int .i32 0] 50)).cell? { block := ad.block, off := ad.off + 1 } = some (.int .u8 b1) := (Below.cell ((Below.refl _ w).alloc (Nat.le_refl _) _) (block_lt_of_cell hc1)).trans hc1
  have hk0 : (0 : Int) ≤ (cap : Int) := by omega
  have hK0 : 0 ≤ cap := by omega
  have hk1 : (1 : Int) ≤ (cap : Int) := by omega
  have hK1 : 1 ≤ cap := by omega
  have hke : 2 ≤ cap := by omega
  have hKe : (2 : Int) ≤ (cap : Int) := by omega
  clear hc0 hc1
  go_enter Tryd.func25, Tryd.ntmps25
  go_wp2_with fail
  refine wp_loop_rounds 6 ?_
  rw [rounds_succ]
  go_wp2_with fail
  refine (HB0.out _).mono ?_
  rintro e w' ⟨rfl, rfl⟩
  go_wp2_with fail
  rw [rounds_succ]
  go_wp2_with fail
  refine (HB1.out _ hA0).mono ?_
  rintro e w' ⟨rfl, rfl⟩
  go_wp2_with fail
  rw [rounds_succ]
  go_wp2_with fail
  refine (HB2.out _ hA0).mono ?_
  rintro e w' ⟨rfl, rfl⟩
  go_wp2_with fail
  exact ⟨rfl, _, got_end (q := w.heap.size) (g := ⟨1, 0, 0, 0⟩) rfl rfl (heap_alloc_new w _), rfl, (Below.refl _ _).alloc (Nat.le_refl _) _⟩
set_option maxRecDepth 100000 in
set_option maxHeartbeats 1600000 in
theorem get_ill2a (ad : Addr) (n cap : Nat) (hn : 3 ≤ n) (hm : n ≤ 140737488351232) (hcap : n ≤ cap) (b0 : Int) (b0l : 0 ≤ b0) (b0u : b0 ≤ 255) (b1 : Int) (b1l : 0 ≤ b1) (b1u : b1 ≤ 255) (b2 : Int) (b2l : 0 ≤ b2) (b2u : b2 ≤ 255) (w : World) (hc0 : w.cell? ad = some (.int .u8 b0)) (hc1 : w.cell? (ad.add 1) = some (.int .u8 b1)) (hc2 : w.cell? (ad.add 2) = some (.int .u8 b2)) (hb0 : 224 ≤ b0) (hb0u : b0 ≤ 244) (hlo : (bdL b0 1).1 ≤ b1) (hhi : b1 ≤ (bdL b0 1).2) (hb2l : b2 < 128) :
    Calls Tryd.prog 25 #[.slice (some ad) n cap] w fun e w' => e = .returned (gotV ⟨10, 2, 0, 0⟩) ∧ Below w.heap.size w w' := by
  have HB0 := Lib.hid (fun W => bounds_nil (some ad) cap W)
  have hq1 := fun W (hc : W.cell? ad = some (.int .u8 b0)) => bounds_1 ad cap b0 b0l b0u W hc
  obtain ⟨⟨lo, hi⟩, hbd⟩ : ∃ p, bdL b0 1 = p := ⟨_, rfl⟩
  rw [hbd] at hq1 hlo hhi
  dsimp only at hq1 hlo hhi
  have HB1 := Lib.hid hq1
  have hq2 := fun W (hc : W.cell? ad = some (.int .u8 b0)) => bounds_2 ad cap b0 b0l b0u W hc
  rw [show bdL b0 2 = (128, 191) from by unfold bdL; rw [if_neg (by unfold unitN; (repeat' split) <;> omega), if_neg (by decide)]] at hq2
  dsimp only at hq2 
  have HB2 := Lib.hid hq2
  clear hq1 hq2
  have hip : 0 < hi ∧ hi ≤ 255 ∧ 0 ≤ lo := by have : hi = (bdL b0 1).2 ∧ lo = (bdL b0 1).1 := ⟨(congrArg Prod.snd hbd).symm, (congrArg Prod.fst hbd).symm⟩; rw [this.1, this.2]; unfold bdL; rw [if_neg (by unfold unitN; (repeat' split) <;> omega), if_pos rfl]; (repeat' split) <;> simp <;> omega
  obtain ⟨hip0, hip1, hip2⟩ := hip
  have hz1 : (hi == 0) = false := by simp; omega
  have hz2 : (hi != 0) = true := by simp; omega
  have hl1 : decide (b1 < lo) = false := by simp; omega
  have hl2 : decide (hi < b1) = false := by simp; omega
  have hl2a : decide (b2 < 128) = true := by simp; omega
  try clear hbd
  have hA0 : (w.alloc (.cells #[.int .i64 0, .int .i64 0, .int .i64 0, .int .i32 0, .int .i32 0, .int .i64 0, .int .i64 0, .int .u32 0, .int .i32 0] 50)).cell? ad = some (.int .u8 b0) := (Below.cell ((Below.refl _ w).alloc (Nat.le_refl _) _) (block_lt_of_cell hc0)).trans hc0
  have hA1 : (w.alloc (.cells #[.int .i64 0, .int .i64 0, .int .i64 0, .int .i32 0, .int .i32 0, .int .i64 0, .int .i64 0, .int .u32 0, .int .i32 0] 50)).cell? { block := ad.block, off := ad.off + 1 } = some (.int .u8 b1) := (Below.cell ((Below.refl _ w).alloc (Nat.le_refl _) _) (block_lt_of_cell hc1)).trans hc1
  have hA2 : (w.alloc (.cells #[.int .i64 0, .int .i64 0, .int .i64 0, .int .i32 0, .int .i32 0, .int .i64 0, .int .i64 0, .int .u32 0, .int .i32 0] 50)).cell? { block := ad.block, off := ad.off + 2 } = some (.int .u8 b2) := (Below.cell ((Below.refl _ w).alloc (Nat.le_refl _) _) (block_lt_of_cell hc2)).trans hc2
  have hn0 : 0 < n := by omega
  have hN0 : (0 : Int) < (n : Int) := by omega
  have hk0 : (0 : Int) ≤ (cap : Int) := by omega
  have hK0 : 0 ≤ cap := by omega
  have hn1 : 1 < n := by omega
  have hN1 : (1 : Int) < (n : Int) := by omega
  have hk1 : (1 : Int) ≤ (cap : Int) := by omega
  have hK1 : 1 ≤ cap := by omega
  have hn2 : 2 < n := by omega
  have hN2 : (2 : Int) < (n : Int) := by omega
  have hk2 : (2 : Int) ≤ (cap : Int) := by omega
  have hK2 : 2 ≤ cap := by omega
  have hke : 3 ≤ cap := by omega
  have hKe : (3 : Int) ≤ (cap : Int) := by omega
  clear hc0 hc1 hc2
  go_enter Tryd.func25, Tryd.ntmps25
  go_wp2_with fail
  refine wp_loop_rounds 6 ?_
  rw [rounds_succ]
  go_wp2_with fail
  refine (HB0.out _).mono ?_
  rintro e w' ⟨rfl, rfl⟩
  go_wp2_with fail
  rw [rounds_succ]
  go_wp2_with fail
  refine (HB1.out _ hA0).mono ?_
  rintro e w' ⟨rfl, rfl⟩
  go_wp2_with fail
  rw [rounds_succ]
  go_wp2_with fail
  refine (HB2.out _ hA0).mono ?_
  rintro e w' ⟨rfl, rfl⟩
  go_wp2_with fail
  exact ⟨rfl, _, got_end (q := w.heap.size) (g := ⟨10, 2, 0, 0⟩) rfl rfl (heap_alloc_new w _), rfl, (Below.refl _ _).alloc (Nat.le_refl _) _⟩
set_option maxRecDepth 100000 in
set_option maxHeartbeats 1600000 in
theorem get_ill2b (ad : Addr) (n cap : Nat) (hn : 3 ≤ n) (hm : n ≤ 140737488351232) (hcap : n ≤ cap) (b0 : Int) (b0l : 0 ≤ b0) (b0u : b0 ≤ 255) (b1 : Int) (b1l : 0 ≤ b1) (b1u : b1 ≤ 255) (b2 : Int) (b2l : 0 ≤ b2) (b2u : b2 ≤ 255) (w : World) (hc0 : w.cell? ad = some (.int .u8 b0)) (hc1 : w.cell? (ad.add 1) = some (.int .u8 b1)) (hc2 : w.cell? (ad.add 2) = some (.int .u8 b2)) (hb0 : 224 ≤ b0) (hb0u : b0 ≤ 244) (hlo : (bdL b0 1).1 ≤ b1) (hhi : b1 ≤ (bdL b0 1).2) (hb2l : 191 < b2) :
    Calls Tryd.prog 25 #[.slice (some ad) n cap] w fun e w' => e = .returned (gotV ⟨10, 2, 0, 0⟩) ∧ Below w.heap.size w w' := by
  have HB0 := Lib.hid (fun W => bounds_nil (some ad) cap W)
  have hq1 := fun W (hc : W.cell? ad = some (.int .u8 b0)) => bounds_1 ad cap b0 b0l b0u W hc
  obtain ⟨⟨lo, hi⟩, hbd⟩ : ∃ p, bdL b0 1 = p := ⟨_, rfl⟩
  rw [hbd] at hq1 hlo hhi
  dsimp only at hq1 hlo hhi
  have HB1 := Lib.hid hq1
  have hq2 := fun W (hc : W.cell? ad = some (.int .u8 b0)) => bounds_2 ad cap b0 b0l b0u W hc
  rw [show bdL b0 2 = (128, 191) from by unfold bdL; rw [if_neg (by unfold unitN; (repeat' split) <;> omega), if_neg (by decide)]] at hq2
  dsimp only at hq2 
  have HB2 := Lib.hid hq2
  clear hq1 hq2
  have hip : 0 < hi ∧ hi ≤ 255 ∧ 0 ≤ lo := by have : hi = (bdL b0 1).2 ∧ lo = (bdL b0 1).1 := ⟨(congrArg Prod.snd hbd).symm, (congrArg Prod.fst hbd).symm⟩; rw [this.1, this.2]; unfold bdL; rw [if_neg (by unfold unitN; (repeat' split) <;> omega), if_pos rfl]; (repeat' split) <;> simp <;> omega
  obtain ⟨hip0, hip1, hip2⟩ := hip
  have hz1 : (hi == 0) = false := by simp; omega
  have hz2 : (hi != 0) = true := by simp; omega
  have hl1 : decide (b1 < lo) = false := by simp; omega
  have hl2 : decide (hi < b1) = false := by simp; omega
  have hl2a : decide (b2 < 128) = false := by simp; omega
  have hl2b : decide (191 < b2) = true := by simp; omega
  try clear hbd
  have hA0 : (w.alloc (.cells #[.int .i64 0, .int .i64 0, .int .i64 0, .int .i32 0, .int .i32 0, .int .i64 0, .int .i64 0, .int .u32 0, .int .i32 0] 50)).cell? ad = some (.int .u8 b0) := (Below.cell ((Below.refl _ w).alloc (Nat.le_refl _) _) (block_lt_of_cell hc0)).trans hc0
  have hA1 : (w.alloc (.cells #[.int .i64 0, .int .i64 0, .int .i64 0, .int .i32 0, .int .i32 0, .int .i64 0, .int .i64 0, .int .u32 0, .int .i32 0] 50)).cell? { block := ad.block, off := ad.off + 1 } = some (.int .u8 b1) := (Below.cell ((Below.refl _ w).alloc (Nat.le_refl _) _) (block_lt_of_cell hc1)).trans hc1
  have hA2 : (w.alloc (.cells #[.int .i64 0, .int .i64 0, .int .i64 0, .int .i32 0, .int .i32 0, .int .i64 0, .int .i64 0, .int .u32 0, .int .i32 0] 50)).cell? { block := ad.block, off := ad.off + 2 } = some (.int .u8 b2) := (Below.cell ((Below.refl _ w).alloc (Nat.le_refl _) _) (block_lt_of_cell hc2)).trans hc2
  have hn0 : 0 < n := by omega
  have hN0 : (0 : Int) < (n : Int) := by omega
  have hk0 : (0 : Int) ≤ (cap : Int) := by omega
  have hK0 : 0 ≤ cap := by omega
  have hn1 : 1 < n := by omega
  have hN1 : (1 : Int) < (n : Int) := by omega
  have hk1 : (1 : Int) ≤ (cap : Int) := by omega
  have hK1 : 1 ≤ cap := by omega
  have hn2 : 2 < n := by omega
  have hN2 : (2 : Int) < (n : Int) := by omega
  have hk2 : (2 : Int) ≤ (cap : Int) := by omega
  have hK2 : 2 ≤ cap := by omega
  have hke : 3 ≤ cap := by omega
  have hKe : (3 : Int) ≤ (cap : Int) := by omega
  clear hc0 hc1 hc2
  go_enter Tryd.func25, Tryd.ntmps25
  go_wp2_with fail
  refine wp_loop_rounds 6 ?_
  rw [rounds_succ]
  go_wp2_with fail
  refine (HB0.out _).mono ?_
  rintro e w' ⟨rfl, rfl⟩
  go_wp2_with fail
  rw [rounds_succ]
  go_wp2_with fail
  refine (HB1.out _ hA0).mono ?_
  rintro e w' ⟨rfl, rfl⟩
  go_wp2_with fail
  rw [rounds_succ]
  go_wp2_with fail
  refine (HB2.out _ hA0).mono ?_
  rintro e w' ⟨rfl, rfl⟩
  go_wp2_with fail
  exact ⟨rfl, _, got_end (q := w.heap.size) (g := ⟨10, 2, 0, 0⟩) rfl rfl (heap_alloc_new w _), rfl, (Below.refl _ _).alloc (Nat.le_refl _) _⟩
set_option maxRecDepth 100000 in
set_option maxHeartbeats 1600000 in
theorem get_more3 (ad : Addr) (cap : Nat) (hcap : 3 ≤ cap) (b0 : Int) (b0l : 0 ≤ b0) (b0u : b0 ≤ 255) (b1 : Int) (b1l : 0 ≤ b1) (b1u : b1 ≤ 255) (b2 : Int) (b2l : 0 ≤ b2) (b2u : b2 ≤ 255) (w : World) (hc0 : w.cell? ad = some (.int .u8 b0)) (hc1 : w.cell? (ad.add 1) = some (.int .u8 b1)) (hc2 : w.cell? (ad.add 2) = some (.int .u8 b2)) (hb0 : 240 ≤ b0) (hb0u : b0 ≤ 244) (hlo : (bdL b0 1).1 ≤ b1) (hhi : b1 ≤ (bdL b0 1).2) (hb2l : 128 ≤ b2) (hb2h : b2 ≤ 191) :
    Calls Tryd.prog 25 #[.slice (some ad) 3 cap] w fun e w' => e = .returned (gotV ⟨1, 0, 0, 0⟩) ∧ Below w.heap.size w w' := by
  have HB0 := Lib.hid (fun W => bounds_nil (some ad) cap W)
  have hq1 := fun W (hc : W.cell? ad = some (.int .u8 b0)) => bounds_1 ad cap b0 b0l b0u W hc
  obtain ⟨⟨lo, hi⟩, hbd⟩ : ∃ p, bdL b0 1 = p := ⟨_, rfl⟩
  rw [hbd] at hq1 hlo hhi
  dsimp only at hq1 hlo hhi
  have HB1 := Lib.hid hq1
  have hq2 := fun W (hc : W.cell? ad = some (.int .u8 b0)) => bounds_2 ad cap b0 b0l b0u W hc
  rw [show bdL b0 2 = (128, 191) from by unfold bdL; rw [if_neg (by unfold unitN; (repeat' split) <;> omega), if_neg (by decide)]] at hq2
  dsimp only at hq2 
  have HB2 := Lib.hid hq2
  have hq3 := fun W (hc : W.cell? ad = some (.int .u8 b0)) => bounds_3 ad cap b0 b0l b0u W hc
  rw [show bdL b0 3 = (128, 191) from by unfold bdL; rw [if_neg (by unfold unitN; (repeat' split) <;> omega), if_neg (by decide)]] at hq3
  dsimp only at hq3 
  have HB3 := Lib.hid hq3
  clear hq1 hq2 hq3
  have hip : 0 < hi ∧ hi ≤ 255 ∧ 0 ≤ lo := by have : hi = (bdL b0 1).2 ∧ lo = (bdL b0 1).1 := ⟨(congrArg Prod.snd hbd).symm, (congrArg Prod.fst hbd).symm⟩; rw [this.1, this.2]; unfold bdL; rw [if_neg (by unfold unitN; (repeat' split) <;> omega), if_pos rfl]; (repeat' split) <;> simp <;> omega
  obtain ⟨hip0, hip1, hip2⟩ := hip
  have hz1 : (hi == 0) = false := by simp; omega
  have hz2 : (hi != 0) = true := by simp; omega
  have hl1 : decide (b1 < lo) = false := by simp; omega
  have hl2 : decide (hi < b1) = false := by simp; omega
  have hl2a : decide (b2 < 128) = false := by simp; omega
  have hl2b : decide (191 < b2) = false := by simp; omega
  try clear hbd
  have hA0 : (w.alloc (.cells #[.int .i64 0, .int .i64 0, .int .i64 0, .int .i32 0, .int .i32 0, .int .i64 0, .int .i64 0, .int .u32 0, .int .i32 0] 50)).cell? ad = some (.int .u8 b0) := (Below.cell ((Below.refl _ w).alloc (Nat.le_refl _) _) (block_lt_of_cell hc0)).trans hc0
  have hA1 : (w.alloc (.cells #[.int .i64 0, .int .i64 0, .int .i64 0, .int .i32 0, .int .i32 0, .int .i64 0, .int .i64 0, .int .u32 0, .int .i32 0] 50)).cell? { block := ad.block, off := ad.off + 1 } = some (.int .u8 b1) := (Below.cell ((Below.refl _ w).alloc (Nat.le_refl _) _) (block_lt_of_cell hc1)).trans hc1
  have hA2 : (w.alloc (.cells #[.int .i64 0, .int .i64 0, .int .i64 0, .int .i32 0, .int .i32 0, .int .i64 0, .int .i64 0, .int .u32 0, .int .i32 0] 50)).cell? { block := ad.block, off := ad.off + 2 } = some (.int .u8 b2) := (Below.cell ((Below.refl _ w).alloc (Nat.le_refl _) _) (block_lt_of_cell hc2)).trans hc2
  have hk0 : (0 : Int) ≤ (cap : Int) := by omega
  have hK0 : 0 ≤ cap := by omega
  have hk1 : (1 : Int) ≤ (cap : Int) := by omega
  have hK1 : 1 ≤ cap := by omega
  have hk2 : (2 : Int) ≤ (cap : Int) := by omega
  have hK2 : 2 ≤ cap := by omega
  have hke : 3 ≤ cap := by omega
  have hKe : (3 : Int) ≤ (cap : Int) := by omega
  clear hc0 hc1 hc2
  go_enter Tryd.func25, Tryd.ntmps25
  go_wp2_with fail
  refine wp_loop_rounds 6 ?_
  rw [rounds_succ]
  go_wp2_with fail
  refine (HB0.out _).mono ?_
  rintro e w' ⟨rfl, rfl⟩
  go_wp2_with fail
  rw [rounds_succ]
  go_wp2_with fail
  refine (HB1.out _ hA0).mono ?_
  rintro e w' ⟨rfl, rfl⟩
  go_wp2_with fail
  rw [rounds_succ]
  go_wp2_with fail
  refine (HB2.out _ hA0).mono ?_
  rintro e w' ⟨rfl, rfl⟩
  go_wp2_with fail
  rw [rounds_succ]
  go_wp2_with fail
  refine (HB3.out _ hA0).mono ?_
  rintro e w' ⟨rfl, rfl⟩
  go_wp2_with fail
  exact ⟨rfl, _, got_end (q := w.heap.size) (g := ⟨1, 0, 0, 0⟩) rfl rfl (heap_alloc_new w _), rfl, (Below.refl _ _).alloc (Nat.le_refl _) _⟩
set_option maxRecDepth 100000 in
set_option maxHeartbeats 1600000 in
theorem get_ill3a (ad : Addr) (n cap : Nat) (hn : 4 ≤ n) (hm : n ≤ 140737488351232) (hcap : n ≤ cap) (b0 : Int) (b0l : 0 ≤ b0) (b0u : b0 ≤ 255) (b1 : Int) (b1l : 0 ≤ b1) (b1u : b1 ≤ 255) (b2 : Int) (b2l : 0 ≤ b2) (b2u : b2 ≤ 255) (b3 : Int) (b3l : 0 ≤ b3) (b3u : b3 ≤ 255) (w : World) (hc0 : w.cell? ad = some (.int .u8 b0)) (hc1 : w.cell? (ad.add 1) = some (.int .u8 b1)) (hc2 : w.cell? (ad.add 2) = some (.int .u8 b2)) (hc3 : w.cell? (ad.add 3) = some (.int .u8 b3)) (hb0 : 240 ≤ b0) (hb0u : b0 ≤ 244) (hlo : (bdL b0 1).1 ≤ b1) (hhi : b1 ≤ (bdL b0 1).2) (hb2l : 128 ≤ b2) (hb2h : b2 ≤ 191) (hb3l : b3 < 128) :
    Calls Tryd.prog 25 #[.slice (some ad) n cap] w fun e w' => e = .returned (gotV ⟨10, 3, 0, 0⟩) ∧ Below w.heap.size w w' := by
  have HB0 := Lib.hid (fun W => bounds_nil (some ad) cap W)
  have hq1 := fun W (hc : W.cell? ad = some (.int .u8 b0)) => bounds_1 ad cap b0 b0l b0u W hc
  obtain ⟨⟨lo, hi⟩, hbd⟩ : ∃ p, bdL b0 1 = p := ⟨_, rfl⟩
  rw [hbd] at hq1 hlo hhi
  dsimp only at hq1 hlo hhi
  have HB1 := Lib.hid hq1
  have hq2 := fun W (hc : W.cell? ad = some (.int .u8 b0)) => bounds_2 ad cap b0 b0l b0u W hc
  rw [show bdL b0 2 = (128, 191) from by unfold bdL; rw [if_neg (by unfold unitN; (repeat' split) <;> omega), if_neg (by decide)]] at hq2
  dsimp only at hq2 
  have HB2 := Lib.hid hq2
  have hq3 := fun W (hc : W.cell? ad = some (.int .u8 b0)) => bounds_3 ad cap b0 b0l b0u W hc
  rw [show bdL b0 3 = (128, 191) from by unfold bdL; rw [if_neg (by unfold unitN; (repeat' split) <;> omega), if_neg (by decide)]] at hq3
  dsimp only at hq3 
  have HB3 := Lib.hid hq3
  clear hq1 hq2 hq3
  have hip : 0 < hi ∧ hi ≤ 255 ∧ 0 ≤ lo := by have : hi = (bdL b0 1).2 ∧ lo = (bdL b0 1).1 := ⟨(congrArg Prod.snd hbd).symm, (congrArg Prod.fst hbd).symm⟩; rw [this.1, this.2]; unfold bdL; rw [if_neg (by unfold unitN; (repeat' split) <;> omega), if_pos rfl]; (repeat' split) <;> simp <;> omega
  obtain ⟨hip0, hip1, hip2⟩ := hip
  have hz1 : (hi == 0) = false := by simp; omega
  have hz2 : (hi != 0) = true := by simp; omega
  have hl1 : decide (b1 < lo) = false := by simp; omega
  have hl2 : decide (hi < b1) = false := by simp; omega
  have hl2a : decide (b2 < 128) = false := by simp; omega
  have hl2b : decide (191 < b2) = false := by simp; omega
  have hl3a : decide (b3 < 128) = true := by simp; omega
  try clear hbd
  have hA0 : (w.alloc (.cells #[.int .i64 0, .int .i64 0, .int .i64 0, .int .i32 0, .int .i32 0, .int .i64 0, .int .i64 0, .int .u32 0, .int .i32 0] 50)).cell? ad = some (.int .u8 b0) := (Below.cell ((Below.refl _ w).alloc (Nat.le_refl _) _) (block_lt_of_cell hc0)).trans hc0
  have hA1 : (w.alloc (.cells #[.int .i64 0, .int .i64 0, .int .i64 0, .int .i32 0, .int .i32 0, .int .i64 0, .int .i64 0, .int .u32 0, .int .i32 0] 50)).cell? { block := ad.block, off := ad.off + 1 } = some (.int .u8 b1) := (Below.cell ((Below.refl _ w).alloc (Nat.le_refl _) _) (block_lt_of_cell hc1)).trans hc1
  have hA2 : (w.alloc (.cells #[.int .i64 0, .int .i64 0, .int .i64 0, .int .i32 0, .int .i32 0, .int .i64 0, .int .i64 0, .int .u32 0, .int .i32 0] 50)).cell? { block := ad.block, off := ad.off + 2 } = some (.int .u8 b2) := (Below.cell ((Below.refl _ w).alloc (Nat.le_refl _) _) (block_lt_of_cell hc2)).trans hc2
  have hA3 : (w.alloc (.cells #[.int .i64 0, .int .i64 0, .int .i64 0, .int .i32 0, .int .i32 0, .int .i64 0, .int .i64 0, .int .u32 0, .int .i32 0] 50)).cell? { block := ad.block, off := ad.off + 3 } = some (.int .u8 b3) := (Below.cell ((Below.refl _ w).alloc (Nat.le_refl _) _) (block_lt_of_cell hc3)).trans hc3
  have hn0 : 0 < n := by omega
  have hN0 : (0 : Int) < (n : Int) := by omega
  have hk0 : (0 : Int) ≤ (cap : Int) := by omega
  have hK0 : 0 ≤ cap := by omega
  have hn1 : 1 < n := by omega
  have hN1 : (1 : Int) < (n : Int) := by omega
  have hk1 : (1 : Int) ≤ (cap : Int) := by omega
  have hK1 : 1 ≤ cap := by omega
  have hn2 : 2 < n := by omega
  have hN2 : (2 : Int) < (n : Int) := by omega
  have hk2 : (2 : Int) ≤ (cap : Int) := by omega
  have hK2 : 2 ≤ cap := by omega
  have hn3 : 3 < n := by omega
  have hN3 : (3 : Int) < (n : Int) := by omega
  have hk3 : (3 : Int) ≤ (cap : Int) := by omega
  have hK3 : 3 ≤ cap := by omega
  have hke : 4 ≤ cap := by omega
  have hKe : (4 : Int) ≤ (cap : Int) := by omega
  clear hc0 hc1 hc2 hc3
  go_enter Tryd.func25, Tryd.ntmps25
  go_wp2_with fail
  refine wp_loop_rounds 6 ?_
  rw [rounds_succ]
  go_wp2_with fail
  refine (HB0.out _).mono ?_
  rintro e w' ⟨rfl, rfl⟩
  go_wp2_with fail
  rw [rounds_succ]
  go_wp2_with fail
  refine (HB1.out _ hA0).mono ?_
  rintro e w' ⟨rfl, rfl⟩
  go_wp2_with fail
  rw [rounds_succ]
  go_wp2_with fail
  refine (HB2.out _ hA0).mono ?_
  rintro e w' ⟨rfl, rfl⟩
  go_wp2_with fail
  rw [rounds_succ]
  go_wp2_with fail
  refine (HB3.out _ hA0).mono ?_
  rintro e w' ⟨rfl, rfl⟩
  go_wp2_with fail
  exact ⟨rfl, _, got_end (q := w.heap.size) (g := ⟨10, 3, 0, 0⟩) rfl rfl (heap_alloc_new w _), rfl, (Below.refl _ _).alloc (Nat.le_refl _) _⟩
set_option maxRecDepth 100000 in
set_option maxHeartbeats 1600000 in
theorem get_ill3b (ad : Addr) (n cap : Nat) (hn : 4 ≤ n) (hm : n ≤ 140737488351232) (hcap : n ≤ cap) (b0 : Int) (b0l : 0 ≤ b0) (b0u : b0 ≤ 255) (b1 : Int) (b1l : 0 ≤ b1) (b1u : b1 ≤ 255) (b2 : Int) (b2l : 0 ≤ b2) (b2u : b2 ≤ 255) (b3 : Int) (b3l : 0 ≤ b3) (b3u : b3 ≤ 255) (w : World) (hc0 : w.cell? ad = some (.int .u8 b0)) (hc1 : w.cell? (ad.add 1) = some (.int .u8 b1)) (hc2 : w.cell? (ad.add 2) = some (.int .u8 b2)) (hc3 : w.cell? (ad.add 3) = some (.int .u8 b3)) (hb0 : 240 ≤ b0) (hb0u : b0 ≤ 244) (hlo : (bdL b0 1).1 ≤ b1) (hhi : b1 ≤ (bdL b0 1).2) (hb2l : 128 ≤ b2) (hb2h : b2 ≤ 191) (hb3l : 191 < b3) :
    Calls Tryd.prog 25 #[.slice (some ad) n cap] w fun e w' => e = .returned (gotV ⟨10, 3, 0, 0⟩) ∧ Below w.heap.size w w' := by
  have HB0 := Lib.hid (fun W => bounds_nil (some ad) cap W)
  have hq1 := fun W (hc : W.cell? ad = some (.int .u8 b0)) => bounds_1 ad cap b0 b0l b0u W hc
  obtain ⟨⟨lo, hi⟩, hbd⟩ : ∃ p, bdL b0 1 = p := ⟨_, rfl⟩
  rw [hbd] at hq1 hlo hhi
  dsimp only at hq1 hlo hhi
  have HB1 := Lib.hid hq1
  have hq2 := fun W (hc : W.cell? ad = some (.int .u8 b0)) => bounds_2 ad cap b0 b0l b0u W hc
  rw [show bdL b0 2 = (128, 191) from by unfold bdL; rw [if_neg (by unfold unitN; (repeat' split) <;> omega), if_neg (by decide)]] at hq2
  dsimp only at hq2 
  have HB2 := Lib.hid hq2
  have hq3 := fun W (hc : W.cell? ad = some (.int .u8 b0)) => bounds_3 ad cap b0 b0l b0u W hc
  rw [show bdL b0 3 = (128, 191) from by unfold bdL; rw [if_neg (by unfold unitN; (repeat' split) <;> omega), if_neg (by decide)]] at hq3
  dsimp only at hq3 
  have HB3 := Lib.hid hq3
  clear hq1 hq2 hq3
  have hip : 0 < hi ∧ hi ≤ 255 ∧ 0 ≤ lo := by have : hi = (bdL b0 1).2 ∧ lo = (bdL b0 1).1 := ⟨(congrArg Prod.snd hbd).symm, (congrArg Prod.fst hbd).symm⟩; rw [this.1, this.2]; unfold bdL; rw [if_neg (by unfold unitN; (repeat' split) <;> omega), if_pos rfl]; (repeat' split) <;> simp <;> omega
  obtain ⟨hip0, hip1, hip2⟩ := hip
  have hz1 : (hi == 0) = false := by simp; omega
  have hz2 : (hi != 0) = true := by simp; omega
  have hl1 : decide (b1 < lo) = false := by simp; omega
  have hl2 : decide (hi < b1) = false := by simp; omega
  have hl2a : decide (b2 < 128) = false := by simp; omega
  have hl2b : decide (191 < b2) = false := by simp; omega
  have hl3a : decide (b3 < 128) = false := by simp; omega
  have hl3b : decide (191 < b3) = true := by simp; omega
  try clear hbd
  have hA0 : (w.alloc (.cells #[.int .i64 0, .int .i64 0, .int .i64 0, .int .i32 0, .int .i32 0, .int .i64 0, .int .i64 0, .int .u32 0, .int .i32 0] 50)).cell? ad = some (.int .u8 b0) := (Below.cell ((Below.refl _ w).alloc (Nat.le_refl _) _) (block_lt_of_cell hc0)).trans hc0
  have hA1 : (w.alloc (.cells #[.int .i64 0, .int .i64 0, .int .i64 0, .int .i32 0, .int .i32 0, .int .i64 0, .int .i64 0, .int .u32 0, .int .i32 0] 50)).cell? { block := ad.block, off := ad.off + 1 } = some (.int .u8 b1) := (Below.cell ((Below.refl _ w).alloc (Nat.le_refl _) _) (block_lt_of_cell hc1)).trans hc1
  have hA2 : (w.alloc (.cells #[.int .i64 0, .int .i64 0, .int .i64 0, .int .i32 0, .int .i32 0, .int .i64 0, .int .i64 0, .int .u32 0, .int .i32 0] 50)).cell? { block := ad.block, off := ad.off + 2 } = some (.int .u8 b2) := (Below.cell ((Below.refl _ w).alloc (Nat.le_refl _) _) (block_lt_of_cell hc2)).trans hc2
  have hA3 : (w.alloc (.cells #[.int .i64 0, .int .i64 0, .int .i64 0, .int .i32 0, .int .i32 0, .int .i64 0, .int .i64 0, .int .u32 0, .int .i32 0] 50)).cell? { block := ad.block, off := ad.off + 3 } = some (.int .u8 b3) := (Below.cell ((Below.refl _ w).alloc (Nat.le_refl _) _) (block_lt_of_cell hc3)).trans hc3
  have hn0 : 0 < n := by omega
  have hN0 : (0 : Int) < (n : Int) := by omega
  have hk0 : (0 : Int) ≤ (cap : Int) := by omega
  have hK0 : 0 ≤ cap := by omega
  have hn1 : 1 < n := by omega
  have hN1 : (1 : Int) < (n : Int) := by omega
  have hk1 : (1 : Int) ≤ (cap : Int) := by omega
  have hK1 : 1 ≤ cap := by omega
  have hn2 : 2 < n := by omega
  have hN2 : (2 : Int) < (n : Int) := by omega
  have hk2 : (2 : Int) ≤ (cap : Int) := by omega
  have hK2 : 2 ≤ cap := by omega
  have hn3 : 3 < n := by omega
  have hN3 : (3 : Int) < (n : Int) := by omega
  have hk3 : (3 : Int) ≤ (cap : Int) := by omega
  have hK3 : 3 ≤ cap := by omega
  have hke : 4 ≤ cap := by omega
  have hKe : (4 : Int) ≤ (cap : Int) := by omega
  clear hc0 hc1 hc2 hc3
  go_enter Tryd.func25, Tryd.ntmps25
  go_wp2_with fail
  refine wp_loop_rounds 6 ?_
  rw [rounds_succ]
  go_wp2_with fail
  refine (HB0.out _).mono ?_
  rintro e w' ⟨rfl, rfl⟩
  go_wp2_with fail
  rw [rounds_succ]
  go_wp2_with fail
  refine (HB1.out _ hA0).mono ?_
  rintro e w' ⟨rfl, rfl⟩
  go_wp2_with fail
  rw [rounds_succ]
  go_wp2_with fail
  refine (HB2.out _ hA0).mono ?_
  rintro e w' ⟨rfl, rfl⟩
  go_wp2_with fail
  rw [rounds_succ]
  go_wp2_with fail
  refine (HB3.out _ hA0).mono ?_
  rintro e w' ⟨rfl, rfl⟩
  go_wp2_with fail
  exact ⟨rfl, _, got_end (q := w.heap.size) (g := ⟨10, 3, 0, 0⟩) rfl rfl (heap_alloc_new w _), rfl, (Below.refl _ _).alloc (Nat.le_refl _) _⟩
end Go.Proofs.YthafggbmomdkkaaDoor
