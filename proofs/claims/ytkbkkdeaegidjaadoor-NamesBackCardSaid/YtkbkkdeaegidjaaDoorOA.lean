/- Both Prints (written by mkoa.py). -/
import Derived.Test.YtkbkkdeaegidjaaDoorNY
namespace Go.Proofs.YtkbkkdeaegidjaaDoor
open Go.RowKit
def trM : ByteArray := ⟨#[47, 47, 84, 82, 65, 78, 83, 76, 73, 84]⟩
def igM : ByteArray := ⟨#[47, 47, 73, 71, 78, 79, 82, 69]⟩
/-- A wish as a name. -/
def printL (k : Int) (t i : Bool) : ByteArray := if (nameL k).size = 0 then ⟨#[]⟩ else match t, i with
  | true, true => nameL k ++ trM ++ igM
  | true, false => nameL k ++ trM
  | false, true => nameL k ++ igM
  | false, false => nameL k
theorem name_small : nameT.all (fun t => decide (((splitBlank t.2).headD ⟨#[]⟩).size ≤ 60)) = true := by decide +kernel
theorem name_len (k : Int) : (nameL k).size ≤ 60 := by
  unfold nameL aliL
  cases h : nameT.find? (fun t => decide (t.1 = k)) with
  | none => decide
  | some t => exact of_decide_eq_true (List.all_eq_true.1 name_small t (List.mem_of_find?_eq_some h))
set_option maxRecDepth 100000 in
set_option maxHeartbeats 1600000 in
theorem print_calls (k : Int) (t i : Bool) (w : World) (hw : MaxAt w) : Calls Tryd.prog 11 #[.agg #[.int .i64 k, .bool t, .bool i]] w fun e w' => e = .returned (.string (printL k t i)) ∧ Below w.heap.size w w' := by
  have HN := Lib.hid (name_calls k)
  have hlen := name_len k
  have HW := Lib.hid hw
  clear hw
  obtain ⟨s, hs⟩ : ∃ s, nameL k = s := ⟨_, rfl⟩
  have HP := Lib.hid (show printL k t i = if s.size = 0 then ⟨#[]⟩ else match t, i with | true, true => s ++ trM ++ igM | true, false => s ++ trM | false, true => s ++ igM | false, false => s by unfold printL; rw [hs])
  rw [hs] at HN hlen
  clear hs
  have hsum : ¬ (9223372036854775807 < s.size + 10) := by omega
  have hsum2 : ¬ (9223372036854775807 < s.size + 8) := by omega
  have hsum3 : ¬ (9223372036854775807 < s.size + 10 + 8) := by omega
  by_cases he : s.size = 0
  · have hne : s.toList.isEmpty = true := by rw [empty_size]; simp [he]
    have HF := Lib.hid (show printL k t i = ⟨#[]⟩ by rw [HP.out, if_pos he])
    clear he HP
    go_enter Tryd.func11, Tryd.ntmps11
    go_wp2_with fail
    refine (HN.out _ (HW.out.below ((Below.refl _ w).alloc (Nat.le_refl _) (.cells #[.int .i64 k, .bool t, .bool i] 28)))).mono ?_
    rintro e w1 ⟨rfl, hb⟩
    have B1 := Lib.hid (below_then ((Below.refl _ w).alloc (Nat.le_refl _) (.cells #[.int .i64 k, .bool t, .bool i] 28)) (by simp) hb)
    clear hb
    go_wp2_with fail
    go_ret
    exact ⟨by rw [HF.out]; rfl, B1.out⟩
  · have hne : s.toList.isEmpty = false := by rw [empty_size]; simp [he]
    rw [if_neg he] at HP
    clear he
    cases t <;> cases i <;> (
      go_enter Tryd.func11, Tryd.ntmps11
      go_wp2_with fail
      refine (HN.out _ (HW.out.below ((Below.refl _ w).alloc (Nat.le_refl _) (.cells #[.int .i64 k, .bool _, .bool _] 28)))).mono ?_
      rintro e w1 ⟨rfl, hb⟩
      have B1 := Lib.hid (below_then ((Below.refl _ w).alloc (Nat.le_refl _) (.cells #[.int .i64 k, .bool _, .bool _] 28)) (by simp) hb)
      obtain ⟨y0, y1, y2, g0, g1, g2⟩ := three_at ((hb.block w.heap.size (by simp)).trans (heap_alloc_new w _))
      clear hb
      go_wp2_with fail
      go_ret
      exact ⟨by rw [HP.out]; rfl, B1.out⟩)
set_option maxRecDepth 100000 in
set_option maxHeartbeats 1600000 in
theorem rprint_calls (k : Int) (t i : Bool) (w : World) : Calls Tryd.prog 21 #[.agg #[.int .i64 k, .bool t, .bool i]] w fun e w' => e = .returned (.string (printL k t i)) ∧ Below w.heap.size w w' := by
  have HN := Lib.hid (rname_calls k)
  have hlen := name_len k
  obtain ⟨s, hs⟩ : ∃ s, nameL k = s := ⟨_, rfl⟩
  have HP := Lib.hid (show printL k t i = if s.size = 0 then ⟨#[]⟩ else match t, i with | true, true => s ++ trM ++ igM | true, false => s ++ trM | false, true => s ++ igM | false, false => s by unfold printL; rw [hs])
  rw [hs] at HN hlen
  clear hs
  have hsum : ¬ (9223372036854775807 < s.size + 10) := by omega
  have hsum2 : ¬ (9223372036854775807 < s.size + 8) := by omega
  have hsum3 : ¬ (9223372036854775807 < s.size + 10 + 8) := by omega
  by_cases he : s.size = 0
  · have hne : s.toList.isEmpty = true := by rw [empty_size]; simp [he]
    have HF := Lib.hid (show printL k t i = ⟨#[]⟩ by rw [HP.out, if_pos he])
    clear he HP
    go_enter Tryd.func21, Tryd.ntmps21
    go_wp2_with fail
    refine (HN.out _).mono ?_
    rintro e w1 ⟨rfl, hb⟩
    have B1 := Lib.hid (below_then ((Below.refl _ w).alloc (Nat.le_refl _) (.cells #[.int .i64 k, .bool t, .bool i] 46)) (by simp) hb)
    clear hb
    go_wp2_with fail
    go_ret
    exact ⟨by rw [HF.out]; rfl, B1.out⟩
  · have hne : s.toList.isEmpty = false := by rw [empty_size]; simp [he]
    rw [if_neg he] at HP
    clear he
    cases t <;> cases i <;> (
      go_enter Tryd.func21, Tryd.ntmps21
      go_wp2_with fail
      refine (HN.out _).mono ?_
      rintro e w1 ⟨rfl, hb⟩
      have B1 := Lib.hid (below_then ((Below.refl _ w).alloc (Nat.le_refl _) (.cells #[.int .i64 k, .bool _, .bool _] 46)) (by simp) hb)
      obtain ⟨y0, y1, y2, g0, g1, g2⟩ := three_at ((hb.block w.heap.size (by simp)).trans (heap_alloc_new w _))
      clear hb
      go_wp2_with fail
      go_ret
      exact ⟨by rw [HP.out]; rfl, B1.out⟩)
end Go.Proofs.YtkbkkdeaegidjaaDoor
