/- Both Names, both Kinds, same. -/
import Derived.Test.YtkbkkdeaegidjaaDoorND
import Derived.Deep.LoopGhost
import Derived.Deep.QuietTactic
import Derived.BigQuiet
import Derived.Deep.Draws
import Derived.OwnWalk
namespace Go.Proofs.YtkbkkdeaegidjaaDoor
open Go.RowKit
/-- A kind's first name. -/
def nameL (u : Int) : ByteArray := (aliL u).headD ⟨#[]⟩
theorem ali_cell {w : World} {g : Nat} {l : List ByteArray} (h : w.heap[g]? = some (.cells (l.map Value.string).toArray 9 (0, 0))) {k : Nat} {c : ByteArray} (hk : l[k]? = some c) : w.cell? ⟨g, k, none⟩ = some (.string c) := by
  rw [cell_of_row w _ _ _ _ _ h]
  have hlt := (List.getElem?_eq_some_iff.1 hk).1
  simp [List.getElem?_map, hk]
theorem len_pos {l : List ByteArray} (h : l ≠ []) : ∃ c r, l = c :: r := by
  cases l with
  | nil => exact absurd rfl h
  | cons c r => exact ⟨c, r, rfl⟩
set_option maxRecDepth 100000 in
set_option maxHeartbeats 800000 in
theorem name_calls (u : Int) (w : World) (hw : MaxAt w) : Calls Tryd.prog 14 #[.int .i64 u] w fun e w' => e = .returned (.string (nameL u)) ∧ Below w.heap.size w w' := by
  have HA := Lib.hid (ali_any u)
  have HW := Lib.hid hw
  clear hw
  go_enter Tryd.func14, Tryd.ntmps14
  go_wp2_with fail
  refine (HA.out _ HW.out).mono ?_
  rintro e w1 ⟨h, hb⟩
  have HB := Lib.hid hb
  clear hb
  rcases h with ⟨h, rfl⟩ | ⟨g, hg, hn, rfl, hc⟩
  · have HN := Lib.hid (show nameL u = ⟨#[]⟩ by unfold nameL; rw [h]; rfl)
    clear h
    go_wp2_with fail
    go_ret
    exact ⟨by rw [HN.out]; rfl, HB.out⟩
  · obtain ⟨c, r, hl⟩ := len_pos hn
    rw [hl] at hc ⊢
    have h0 : w1.cell? ⟨g, 0, none⟩ = some (.string c) := ali_cell hc rfl
    have HN := Lib.hid (show nameL u = c by unfold nameL; rw [hl]; rfl)
    have hlen : 0 < (c :: r).length := by simp
    obtain ⟨n, hnn⟩ : ∃ n, (c :: r).length = n := ⟨_, rfl⟩
    rw [hnn] at hlen ⊢
    clear hnn hl hc hn hg
    go_wp2_with fail
    go_ret
    exact ⟨by rw [HN.out]; rfl, HB.out⟩
set_option maxRecDepth 100000 in
set_option maxHeartbeats 800000 in
theorem rname_calls (u : Int) (w : World) : Calls Tryd.prog 17 #[.int .i64 u] w fun e w' => e = .returned (.string (nameL u)) ∧ Below w.heap.size w w' := by
  have HA := Lib.hid (rali_any u)
  go_enter Tryd.func17, Tryd.ntmps17
  go_wp2_with fail
  refine (HA.out _).mono ?_
  rintro e w1 ⟨h, hb⟩
  have HB := Lib.hid hb
  clear hb
  rcases h with ⟨h, rfl⟩ | ⟨g, hg, hn, rfl, hc⟩
  · have HN := Lib.hid (show nameL u = ⟨#[]⟩ by unfold nameL; rw [h]; rfl)
    clear h
    go_wp2_with fail
    go_ret
    exact ⟨by rw [HN.out]; rfl, HB.out⟩
  · obtain ⟨c, r, hl⟩ := len_pos hn
    rw [hl] at hc ⊢
    have h0 : w1.cell? ⟨g, 0, none⟩ = some (.string c) := ali_cell hc rfl
    have HN := Lib.hid (show nameL u = c by unfold nameL; rw [hl]; rfl)
    have hlen : 0 < (c :: r).length := by simp
    obtain ⟨n, hnn⟩ : ∃ n, (c :: r).length = n := ⟨_, rfl⟩
    rw [hnn] at hlen ⊢
    have hz : ((n : Int) == 0) = false := by simp; omega
    clear hnn hl hc hn hg
    go_wp2_with fail
    go_ret
    exact ⟨by rw [HN.out]; rfl, HB.out⟩
end Go.Proofs.YtkbkkdeaegidjaaDoor
