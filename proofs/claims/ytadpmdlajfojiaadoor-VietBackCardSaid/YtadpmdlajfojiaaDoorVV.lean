/- The walk of works; one byte of the call's own; the walk of VietBytes. -/
import Derived.Test.YtadpmdlajfojiaaDoorVU
import Derived.Lib.SlBytesConst
namespace Go.Proofs.YtadpmdlajfojiaaDoor
open Go.RowKit
theorem first_new (W : World) (y : Int) (h0 : 0 ≤ y) (h1 : y ≤ 255) (t : TypeId) (fr : Nat × Nat) : First (W.alloc (.cells #[.int .u8 y] t fr)) (some ⟨W.heap.size, 0, none⟩) 1 (some y) :=
  .inr ⟨_, y, by omega, by omega, rfl, rfl, h0, h1, by rw [cell_of_row _ _ _ _ _ _ (heap_alloc_new W _)]; rfl⟩
theorem works_parts : composeL 65 768 = some 192 ∧ setR 7844 = (0, ⟨#[194, 236]⟩) ∧ setR 19968 = (11, ⟨#[]⟩) := ⟨by kernel_rfl, by kernel_rfl, by kernel_rfl⟩
theorem works_get : getR 0 0 0 65 (some 66) = ⟨0, 1, 2, 65, 66, 0, 0, 0, 0⟩ := by kernel_rfl
set_option maxRecDepth 100000 in
set_option maxHeartbeats 1600000 in
theorem works_calls (w : World) (hw : ListAt w) : Calls Tryd.prog 16 #[] w fun e w' => e = .returned (.bool true) ∧ Below w.heap.size w w' := by
  have h1 := compose_calls 65 768
  rw [works_parts.1] at h1
  have h2 := set_any 7844
  rw [works_parts.2.1] at h2
  have h3 := set_any 19968
  rw [works_parts.2.2] at h3
  unfold putV at h2 h3
  have h4 := fun A n cap w => get_any 0 0 0 65 A n cap (some 66) w
  rw [works_get] at h4
  unfold gotV gotC at h4
  dsimp only at h4
  have H1 := Lib.hid h1
  have H2 := Lib.hid h2
  have H3 := Lib.hid h3
  have H4 := Lib.hid h4
  have HW := Lib.hid hw
  have hfl : ∀ (s : ByteArray) (w : World), (Instr.field 27 (.agg #[.int .i64 11, .string s, .int .i64 0, .int .i64 0, .int .u32 0, .int .i32 0]) 0).run Tryd.prog w = .ok (.int .i64 11) w := fun s w => by kernel_rfl
  have kc := fun (w : World) (C : Array Value) (n c : Nat) => Lib.run_convert_bytes_const (P := Tryd.prog) w 30 5 C n c Tryd.underlying30 Tryd.underlying5
  clear h1 h2 h3 h4 hw
  go_enter Tryd.func16, Tryd.ntmps16
  go_wp2_with fail
  refine (H1.out _).mono ?_
  rintro e w1 ⟨rfl, hb⟩
  have B1 := Lib.hid hb
  clear hb
  go_wp2_with fail
  refine (H2.out _ (HW.out.below B1.out)).mono ?_
  rintro e w2 ⟨rfl, hb⟩
  have B2 := Lib.hid (below_then B1.out B1.out.size hb)
  clear hb B1
  go_wp2_with fail
  refine (H3.out _ (HW.out.below B2.out)).mono ?_
  rintro e w3 ⟨rfl, hb⟩
  have B3 := Lib.hid (below_then B2.out B2.out.size hb)
  clear hb B2
  go_wp2_with fail
  refine (H4.out _ _ _ _ (HW.out.below (B3.out.alloc B3.out.size _)) (first_new _ 66 (by omega) (by omega) _ _)).mono ?_
  rintro e w4 ⟨rfl, hb⟩
  have B4 := Lib.hid (B3.out.trans ((put_below hb).mono B3.out.size))
  clear hb B3
  go_wp2_with fail
  go_ret
  exact ⟨rfl, B4.out⟩
end Go.Proofs.YtadpmdlajfojiaaDoor
