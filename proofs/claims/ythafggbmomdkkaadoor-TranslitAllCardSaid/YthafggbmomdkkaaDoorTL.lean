/- The reference's Set at ASCII; Candidates at wide forms. -/
import Derived.Test.YthafggbmomdkkaaDoorTK
namespace Go.Proofs.YthafggbmomdkkaaDoor
open Go.RowKit
/-- What the reference's Candidates hands back. -/
def RPost (u : Int) (w : World) (e : Ending) (w' : World) : Prop :=
  ∃ v, e = .returned v ∧ w'.ownsRow w.heap.size 9 1 v (candL u).length ((candL u).map Value.string) ∧ Below w.heap.size w w'
theorem own_new (w : World) (xs : List Value) (h1 : xs.length ≤ 1000) : (w.alloc (.cells xs.toArray 9)).ownsRow w.heap.size 9 1 (.slice (some ⟨w.heap.size, 0, none⟩) xs.length xs.length) xs.length xs :=
  ⟨by simp, .inr ⟨_, _, _, rfl, Nat.le_refl _, heap_alloc_new w _, Nat.le_refl _, by unfold maxLen; omega, by simp, by simp⟩⟩
theorem scalar_ok (x : Int) (h0 : 0 ≤ x) (h1 : x < 128) (w : World) : Calls Tryd.prog 29 #[.int .i32 x] w fun e w' => e = .returned (.bool true) ∧ w = w' := by
  have d1 : decide (x ≤ 1114111) = true := by simp; omega
  have d2 : decide (x < 55296) = true := by simp; omega
  have d3 : decide (0 ≤ x) = true := by simp; omega
  go_enter Tryd.func29, Tryd.ntmps29
  go_wp2
  go_ret
  exact ⟨rfl, rfl⟩
theorem bytes_one (x : Int) (h0 : 0 ≤ x) (h1 : x < 128) (w : World) : Calls Tryd.prog 30 #[.int .i32 x, .int .i64 1] w fun e w' => e = .returned (.slice (some ⟨w.heap.size, 0, none⟩) 1 1) ∧ w' = w.alloc (.cells #[.int .u8 x] 5) := by
  have hw : IntKind.u8.wrap x = x := by rw [IntKind.wrap_u8]; omega
  go_enter Tryd.func30, Tryd.ntmps30
  go_wp2
  go_ret
  exact ⟨rfl, by first | rfl | (rw [hw])⟩
theorem conv1 (x : Int) (W : World) :
    (convert 35 9 (.slice (some ⟨W.heap.size, 0, none⟩) 1 1)).run Tryd.prog (W.alloc (.cells #[.int .u8 x] 5)) = .ok (.string (byteS x)) (W.alloc (.cells #[.int .u8 x] 5)) := by
  have h := run_convert_bytes_arg (P := Tryd.prog) (W.alloc (.cells #[.int .u8 x] 5)) 35 5 Tryd.underlying35 Tryd.underlying5 W.heap.size 0 1 1 [x] rfl (fun i hi => by
    have : i = 0 := by omega
    subst this
    simp) 9 Tryd.underlying9
  exact h
def putC (e : Int) (s : ByteArray) : Array Value := #[.int .i64 e, .string s, .int .i64 0, .int .i64 0, .int .u32 0, .int .i32 0]
theorem info46 : (Tryd.prog.info? 46).map (·.size) = some 6 := by kernel_rfl
theorem put_end {W : World} {fn : Func} {p q : Nat} (hr : fn.results = #[.cell p 46]) {tmps : Array Value} (hp : tmps.getD p undef = .pointer (some ⟨q, 0, none⟩)) {e : Int} {s : ByteArray}
    (hh : W.heap[q]? = some (.cells (putC e s) 46 (0, 0))) : (results fn tmps).run Tryd.prog W = .ok (.agg (putC e s)) W :=
  results_cell_row hr _ _ _ 46 _ (0, 0) _ hp hh Tryd.underlying46 rfl info46
set_option maxHeartbeats 1600000 in
theorem set_ascii (x : Int) (h0 : 0 ≤ x) (h1 : x < 128) (w : World) : Calls Tryd.prog 20 #[.int .i32 x] w fun e w' => e = .returned (.agg (putC 0 (byteS x))) ∧ Below w.heap.size w w' := by
  have HS := Lib.hid (scalar_ok x h0 h1)
  have HB := Lib.hid (bytes_one x h0 h1)
  have d1 : ¬ 65535 < x := by omega
  have d2 : ¬ 2047 < x := by omega
  have d3 : ¬ 127 < x := by omega
  have hcv := conv1 x (w.alloc (.cells #[.int .i64 0, .string ⟨#[]⟩, .int .i64 0, .int .i64 0, .int .u32 0, .int .i32 0] 46))
  rw [World.size_alloc] at hcv
  go_enter Tryd.func20, Tryd.ntmps20
  go_wp2_with fail
  refine (HS.out _).mono ?_
  rintro e w' ⟨rfl, rfl⟩
  go_wp2_with fail
  refine (HB.out _).mono ?_
  rintro e w' ⟨rfl, rfl⟩
  go_wp2_with fail
  exact ⟨rfl, _, put_end (q := w.heap.size) rfl rfl (heap_alloc2_old w _ _), rfl, ((Below.refl _ _).alloc (Nat.le_refl _) _).alloc (by simp) _⟩
set_option maxRecDepth 100000 in
set_option maxHeartbeats 1600000 in
theorem rcand_wide (u : Int) (h0 : 65281 ≤ u) (h1 : u ≤ 65374) (w : World) : Calls Tryd.prog 13 #[.int .i32 u] w (RPost u w) := by
  have HC := Lib.hid (show candL u = [byteS (u - 65248)] from if_pos ⟨h0, h1⟩)
  have HS := Lib.hid (set_ascii (u - 65248) (by omega) (by omega))
  have hf : ∀ (s : ByteArray) (w : World), (Instr.field 46 (.agg #[.int .i64 0, .string s, .int .i64 0, .int .i64 0, .int .u32 0, .int .i32 0]) 1).run Tryd.prog w = .ok (.string s) w := fun s w => by kernel_rfl
  go_enter Tryd.func13, Tryd.ntmps13
  go_wp2_with fail
  refine (HS.out _).mono ?_
  rintro e w1 ⟨rfl, hb⟩
  have HB := Lib.hid hb
  clear hb
  unfold putC
  go_wp2_with fail
  go_ret
  refine ⟨_, rfl, ?_, HB.out.alloc HB.out.size _⟩
  rw [HC.out]
  exact Joins.ownsRow_le (own_new w1 [.string (byteS (u - 65248))] (by simp)) HB.out.size
end Go.Proofs.YthafggbmomdkkaaDoor
