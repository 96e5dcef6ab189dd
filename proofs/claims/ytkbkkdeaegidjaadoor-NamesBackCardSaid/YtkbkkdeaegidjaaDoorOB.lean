/- The walk of NamesParts. -/
import Derived.Test.YtkbkkdeaegidjaaDoorOA
import Derived.Deep.RegionHeld3
namespace Go.Proofs.YtkbkkdeaegidjaaDoor
open Go.RowKit
theorem parse_any (s : ByteArray) (w : World) (hw : MaxAt w) : Calls Tryd.prog 10 #[.string s] w fun e w' => e = .returned (wishV (parseL s)) ∧ Below w.heap.size w w' := by
  by_cases h : 64 < s.size
  · exact parse_long s h w
  · exact parse_short s (by omega) w hw
theorem rparse_any (s : ByteArray) (w : World) : Calls Tryd.prog 20 #[.string s] w fun e w' => e = .returned (wishV (parseL s)) ∧ Below w.heap.size w w' := by
  by_cases h : 64 < s.size
  · exact rparse_long s h w
  · exact rparse_short s (by omega) w
theorem ps_keep {w X Y : World} {q : Nat} {a b c : Value} (h : X.cell? ⟨q, 0, none⟩ = some a ∧ X.cell? ⟨q, 1, none⟩ = some b ∧ X.cell? ⟨q, 2, none⟩ = some c ∧ MaxAt X ∧ Below w.heap.size w X) (hb : Below X.heap.size X Y) : Y.cell? ⟨q, 0, none⟩ = some a ∧ Y.cell? ⟨q, 1, none⟩ = some b ∧ Y.cell? ⟨q, 2, none⟩ = some c ∧ MaxAt Y ∧ Below w.heap.size w Y :=
  ⟨(hb.cell (block_lt_of_cell h.1)).trans h.1, (hb.cell (block_lt_of_cell h.2.1)).trans h.2.1, (hb.cell (block_lt_of_cell h.2.2.1)).trans h.2.2.1, h.2.2.2.1.below hb, below_then h.2.2.2.2 h.2.2.2.2.size hb⟩
set_option maxRecDepth 100000 in
set_option maxHeartbeats 3200000 in
theorem nparts_calls (s : ByteArray) (k : Int) (t i : Bool) (w : World) (hw : MaxAt w) : Calls Tryd.prog 7 #[.string s, .agg #[.int .i64 k, .bool t, .bool i]] w fun e w' => e = .returned (.bool true) ∧ Below w.heap.size w w' := by
  obtain ⟨⟨a, b, c, d⟩, hq⟩ : ∃ q, parseL s = q := ⟨_, rfl⟩
  have HA := Lib.hid (parse_any s)
  have HB := Lib.hid (rparse_any s)
  rw [hq] at HA HB
  unfold wishV wishC at HA HB
  have HP := Lib.hid (print_calls k t i)
  have HR := Lib.hid (rprint_calls k t i)
  obtain ⟨x, hx⟩ : ∃ x, printL k t i = x := ⟨_, rfl⟩
  rw [hx] at HP HR
  have HW := Lib.hid hw
  clear hw hq hx
  go_enter Tryd.func7, Tryd.ntmps7
  go_wp2_with fail
  refine (HA.out _ (HW.out.below ((Below.refl _ w).alloc (Nat.le_refl _) (.cells #[.int .i64 k, .bool t, .bool i] 46)))).mono ?_
  rintro e w1 ⟨rfl, hb⟩
  have B1 := Lib.hid (below_then ((Below.refl _ w).alloc (Nat.le_refl _) (.cells #[.int .i64 k, .bool t, .bool i] 46)) (by simp) hb)
  have R1 := Lib.hid ((hb.block w.heap.size (by simp)).trans (heap_alloc_new w (.cells #[.int .i64 k, .bool t, .bool i] 46)))
  clear hb
  go_wp2_with fail
  refine (HB.out _).mono ?_
  rintro e w2 ⟨rfl, hb⟩
  have hz1 : w.heap.size < w1.heap.size := (Array.getElem?_eq_some_iff.1 R1.out).1
  have B2 := Lib.hid (below_then (B1.out.alloc B1.out.size (.cells #[.int .i64 a, .bool b, .bool c] 28)) (by have := B1.out.size; simp; omega) hb)
  have R2 := Lib.hid ((hb.block w.heap.size (by simp; omega)).trans ((heap_alloc_old _ _ hz1).trans R1.out))
  have R3 := Lib.hid ((hb.block w1.heap.size (by simp)).trans (heap_alloc_new w1 (.cells #[.int .i64 a, .bool b, .bool c] 28)))
  have hz3 : w1.heap.size < w2.heap.size := (Array.getElem?_eq_some_iff.1 R3.out).1
  obtain ⟨y0, y1, y2, g0, g1, g2⟩ := three_at ((heap_alloc_old w2 (.cells #[.int .i64 a, .bool b, .bool c] 46) hz3).trans R3.out)
  have hz2 : w.heap.size < w2.heap.size := (Array.getElem?_eq_some_iff.1 R2.out).1
  clear hb
  go_wp2_with fail
  have hz4 : w.heap.size < w2.heap.size := hz2
  obtain ⟨s0, s1, s2, _, _, _⟩ := three_at ((heap_alloc_old w2 (.cells #[.int .i64 a, .bool b, .bool c] 46) hz4).trans R2.out)
  have hB3 := B2.out.alloc (Nat.le_of_lt hz2) (.cells #[.int .i64 a, .bool b, .bool c] 46)
  have S3 := And.intro s0 (And.intro s1 (And.intro s2 (And.intro (HW.out.below hB3) hB3)))
  clear y0 y1 y2 g0 g1 g2 s0 s1 s2 hB3
  obtain ⟨X, hX⟩ : ∃ X, w2.alloc (.cells #[.int .i64 a, .bool b, .bool c] 46) = X := ⟨_, rfl⟩
  rw [hX] at S3 ⊢
  clear hX
  have S3 : X.drew.cell? ⟨w.heap.size, 0, none⟩ = some (.int .i64 k) ∧ X.drew.cell? ⟨w.heap.size, 1, none⟩ = some (.bool t) ∧ X.drew.cell? ⟨w.heap.size, 2, none⟩ = some (.bool i) ∧ MaxAt X.drew ∧ Below w.heap.size w X.drew := ⟨S3.1, S3.2.1, S3.2.2.1, S3.2.2.2.1, S3.2.2.2.2.drew⟩
  go_wp2_with fail
  go_region_held3 (fun X => X.cell? ⟨w.heap.size, 0, none⟩ = some (.int .i64 k) ∧ X.cell? ⟨w.heap.size, 1, none⟩ = some (.bool t) ∧ X.cell? ⟨w.heap.size, 2, none⟩ = some (.bool i) ∧ MaxAt X ∧ Below w.heap.size w X)
    ((first | exact S3 | exact S4))
    (first | (go_at_call 11; (first | refine (HP.out _ S3.2.2.2.1).mono ?_ | refine (HP.out _ S4.2.2.2.1).mono ?_); rintro e w4 ⟨rfl, hb⟩; have S4 := (by first | exact ps_keep S3 hb | exact ps_keep S4 hb : w4.cell? ⟨w.heap.size, 0, none⟩ = some (.int .i64 k) ∧ w4.cell? ⟨w.heap.size, 1, none⟩ = some (.bool t) ∧ w4.cell? ⟨w.heap.size, 2, none⟩ = some (.bool i) ∧ MaxAt w4 ∧ Below w.heap.size w w4); clear hb) | (go_at_call 21; refine (HR.out _).mono ?_; rintro e w4 ⟨rfl, hb⟩; have S4 := (by first | exact ps_keep S3 hb | exact ps_keep S4 hb : w4.cell? ⟨w.heap.size, 0, none⟩ = some (.int .i64 k) ∧ w4.cell? ⟨w.heap.size, 1, none⟩ = some (.bool t) ∧ w4.cell? ⟨w.heap.size, 2, none⟩ = some (.bool i) ∧ MaxAt w4 ∧ Below w.heap.size w w4); clear hb))
  all_goals (go_wp2_with fail; go_ret; exact ⟨rfl, S4.2.2.2.2⟩)
end Go.Proofs.YtkbkkdeaegidjaaDoor
