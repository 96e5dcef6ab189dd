/- works. -/
import Derived.Test.YtkbkkdeaegidjaaDoorOB
namespace Go.Proofs.YtkbkkdeaegidjaaDoor
open Go.RowKit
def s1 : ByteArray := ⟨#[108, 97, 116, 105, 110, 49]⟩
def s2 : ByteArray := ⟨#[117, 116, 102, 45, 56, 47, 47, 116, 114, 97, 110, 115, 108, 105, 116, 47, 47, 73, 71, 78, 79, 82, 69]⟩
def s3 : ByteArray := ⟨#[47, 47, 84, 82, 65, 78, 83, 76, 73, 84]⟩
theorem works_a : (findE s1).map (·.1) = some 21 := by decide +kernel
theorem works_b : (parseL s2).kind = 2 ∧ (parseL s2).tr = true ∧ (parseL s2).ig = true ∧ (parseL s2).err = 0 := by decide +kernel
theorem works_c : (parseL s3).err = 20 := by decide +kernel
theorem works_d : nameL 2 = ⟨#[85, 84, 70, 45, 56]⟩ := by decide +kernel
theorem found_a : foundV s1 = twoV 21 0 := by
  have h := works_a
  unfold foundV
  cases hf : findE s1 with
  | none => rw [hf] at h; cases h
  | some x =>
    rw [hf] at h
    simp at h
    show twoV x.1 0 = _
    rw [h]
theorem parse_b : parseL s2 = ⟨2, true, true, 0⟩ := by
  have h := works_b
  cases hp : parseL s2 with
  | mk a b c d =>
    rw [hp] at h
    obtain ⟨h1, h2, h3, h4⟩ := h
    simp only at h1 h2 h3 h4
    subst h1 h2 h3 h4
    rfl
set_option maxRecDepth 100000 in
set_option maxHeartbeats 1600000 in
theorem works_calls (w : World) (hw : MaxAt w) : Calls Tryd.prog 8 #[] w fun e w' => e = .returned (.bool true) ∧ Below w.heap.size w w' := by
  have HA := Lib.hid (fun w => by have := lookup_str s1 (by decide) w; rwa [found_a] at this)
  have HB := Lib.hid (fun w hw => by have := parse_any s2 w hw; rwa [parse_b] at this)
  obtain ⟨⟨a, b, c, d⟩, hq⟩ : ∃ q, parseL s3 = q := ⟨_, rfl⟩
  have hd := works_c
  rw [hq] at hd
  simp only at hd
  subst hd
  have HC := Lib.hid (fun w hw => by have := parse_any s3 w hw; rwa [hq] at this)
  have HD := Lib.hid (fun w hw => by have := name_calls 2 w hw; rwa [works_d] at this)
  unfold twoV at HA
  unfold wishV wishC at HB HC
  have HW := Lib.hid hw
  clear hw hq
  go_enter Tryd.func8, Tryd.ntmps8
  go_wp2_with fail
  refine (HA.out _).mono ?_
  rintro e w1 ⟨rfl, hb⟩
  have B1 := Lib.hid hb
  clear hb
  go_wp2_with fail
  refine (HB.out _ (HW.out.below B1.out)).mono ?_
  rintro e w2 ⟨rfl, hb⟩
  have B2 := Lib.hid (below_then B1.out B1.out.size hb)
  have B3 := Lib.hid (B2.out.alloc B2.out.size (.cells #[.int .i64 2, .bool true, .bool true] 28))
  clear hb
  go_wp2_with fail
  refine (HC.out _ (HW.out.below B3.out)).mono ?_
  rintro e w3 ⟨rfl, hb⟩
  have R2 := Lib.hid ((hb.block w2.heap.size (by simp)).trans (heap_alloc_new w2 (.cells #[.int .i64 2, .bool true, .bool true] 28)))
  have B4 := Lib.hid (below_then B3.out B3.out.size hb)
  have hz : w2.heap.size < w3.heap.size := (Array.getElem?_eq_some_iff.1 R2.out).1
  obtain ⟨x0, x1, x2, _, _, _⟩ := three_at ((heap_alloc_old w3 (.cells #[.int .i64 a, .bool b, .bool c] 28) hz).trans R2.out)
  have B5 := Lib.hid (B4.out.alloc B4.out.size (.cells #[.int .i64 a, .bool b, .bool c] 28))
  clear hb
  go_wp2_with fail
  refine (HD.out _ (HW.out.below B5.out)).mono ?_
  rintro e w4 ⟨rfl, hb⟩
  have B6 := Lib.hid (below_then B5.out B5.out.size hb)
  clear hb
  go_wp2_with fail
  go_ret
  exact ⟨rfl, B6.out⟩
end Go.Proofs.YtkbkkdeaegidjaaDoor
