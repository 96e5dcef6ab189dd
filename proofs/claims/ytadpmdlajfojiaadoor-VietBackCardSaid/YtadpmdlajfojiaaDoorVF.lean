/- The program's Compose and Split, out of tables. -/
import Derived.Test.YtadpmdlajfojiaaDoorVE
namespace Go.Proofs.YtadpmdlajfojiaaDoor
open Go.RowKit
theorem lookup_resL (T : List (Int × Int × Int)) (l m : Int) : lookL (resL T) (l, m) = (T.find? fun t => decide (t.1 = l ∧ t.2.1 = m)).map fun t => .int .i32 t.2.2 := by
  unfold lookL resL
  rw [List.find?_map, Option.map_map]
  have e : (fun t : Int × Int × Int => decide (t.1 = l ∧ t.2.1 = m)) = (fun p : (Int × Int) × Value => decide (p.1 = (l, m))) ∘ (fun t : Int × Int × Int => ((t.1, t.2.1), Value.int .i32 t.2.2)) := by
    funext t
    simp only [Function.comp, Prod.mk.injEq]
  rw [e]
  rfl
theorem lookup_partL (T : List (Int × Int × Int)) (u : Int) : lookL (partL T) u = (T.find? fun t => decide (t.2.2 = u)).map fun t => keyPair (t.1, t.2.1) := by
  unfold lookL partL
  rw [List.find?_map, Option.map_map]
  rfl
theorem zero21 (w : World) : (zeroValue 21).run Tryd.prog w = .ok (.int .i32 0) w := by kernel_rfl
theorem zero56 (w : World) : (zeroValue 56).run Tryd.prog w = .ok (keyPair (0, 0)) w := by kernel_rfl
theorem below_drewN {B : Nat} {w W : World} (h : Below B w W) (n : Nat) : Below B w (W.drewN n) := ⟨h.os, h.tape, h.output, h.size, h.block⟩
theorem field_0 (a b c : Option Nat) (w : World) : (Instr.field 54 (.agg #[.map a, .map b, .map c]) 0).run Tryd.prog w = .ok (.map a) w := by kernel_rfl
theorem field_1 (a b c : Option Nat) (w : World) : (Instr.field 54 (.agg #[.map a, .map b, .map c]) 1).run Tryd.prog w = .ok (.map b) w := by kernel_rfl
theorem part_0 (a b : Int) (w : World) : (Instr.index 56 (.agg #[.int .i32 a, .int .i32 b]) (.int .i64 0)).run Tryd.prog w = .ok (.int .i32 a) w := by kernel_rfl
theorem part_1 (a b : Int) (w : World) : (Instr.index 56 (.agg #[.int .i32 a, .int .i32 b]) (.int .i64 1)).run Tryd.prog w = .ok (.int .i32 b) w := by kernel_rfl
set_option maxHeartbeats 400000 in
theorem compose_calls (l m : Int) (w : World) : Calls Tryd.prog 17 #[.int .i32 l, .int .i32 m] w fun e w' => e = .returned (.tuple #[.int .i32 ((composeL l m).getD 0), .bool (composeL l m).isSome]) ∧ Below w.heap.size w w' := by
  have hf0 := field_0
  go_enter Tryd.func17, Tryd.ntmps17
  go_wp2_with fail
  refine (tables_calls _).mono ?_
  rintro e w' ⟨b1, b2, b3, rfl, h1, h2, hb⟩
  have hl := h1.lookAt pairT Tryd.underlying50 (zero21 w') (l, m)
  rw [lookup_resL] at hl
  have hl' : (Instr.lookup 50 (.map (some b1)) (.agg #[.int .i32 l, .int .i32 m]) true).run Tryd.prog w' = .ok (.tuple #[.int .i32 ((composeL l m).getD 0), .bool (composeL l m).isSome]) w' := by
    refine hl.trans ?_
    unfold composeL
    cases allT.find? (fun t => decide (t.1 = l ∧ t.2.1 = m)) <;> rfl
  have H1 := Lib.hid h1
  have HB := Lib.hid hb
  clear h1 h2 hb hl
  go_wp2
  go_ret2
  exact ⟨rfl, HB.out⟩
set_option maxHeartbeats 400000 in
theorem split_calls (u : Int) (w : World) : Calls Tryd.prog 19 #[.int .i32 u] w fun e w' => e = .returned (splitV u) ∧ Below w.heap.size w w' := by
  have hf1 := field_1
  have hp0 := part_0
  have hp1 := part_1
  go_enter Tryd.func19, Tryd.ntmps19
  go_wp2_with fail
  refine (tables_calls _).mono ?_
  rintro e w' ⟨b1, b2, b3, rfl, h1, h2, hb⟩
  have hl := h2.lookAt intT Tryd.underlying51 (zero56 w') u
  rw [lookup_partL] at hl
  have hl' : (Instr.lookup 51 (.map (some b2)) (.int .i32 u) true).run Tryd.prog w' = .ok (.tuple #[.agg #[.int .i32 (((splitL u).map (·.1)).getD 0), .int .i32 (((splitL u).map (·.2)).getD 0)], .bool (splitL u).isSome]) w' := by
    refine hl.trans ?_
    unfold splitL
    cases allT.find? (fun t => decide (t.2.2 = u)) <;> rfl
  have HB := Lib.hid hb
  clear h1 h2 hb hl
  obtain ⟨x, hx⟩ : ∃ x, ((splitL u).map (·.1)).getD 0 = x := ⟨_, rfl⟩
  obtain ⟨y, hy⟩ : ∃ y, ((splitL u).map (·.2)).getD 0 = y := ⟨_, rfl⟩
  obtain ⟨z, hz⟩ : ∃ z, (splitL u).isSome = z := ⟨_, rfl⟩
  have HV := Lib.hid (show splitV u = .tuple #[.int .i32 x, .int .i32 y, .bool z] by unfold splitV; rw [hx, hy, hz])
  rw [hx, hy, hz] at hl'
  clear hx hy hz
  go_wp2
  go_quiet (fail)
  go_wp2
  go_ret3
  exact ⟨by rw [HV.out]; rfl, by repeat (first | exact HB.out | apply Below.drew | exact HB.out.alloc HB.out.size _ | apply below_drewN)⟩
end Go.Proofs.YtadpmdlajfojiaaDoor
