/- same, at two slices that hold the same texts. -/
import Derived.Test.YtkbkkdeaegidjaaDoorNF
namespace Go.Proofs.YtkbkkdeaegidjaaDoor
open Go.RowKit
theorem drewN_cells {w : World} {n : Nat} {g : Nat} : (w.drewN n).heap[g]? = w.heap[g]? := rfl
set_option maxRecDepth 100000 in
set_option maxHeartbeats 800000 in
theorem same_nil (w : World) : Calls Tryd.prog 16 #[.slice none 0 0, .slice none 0 0] w fun e w' => e = .returned (.bool true) ∧ w = w' := by
  go_enter Tryd.func16, Tryd.ntmps16
  go_wp2_with fail
  refine wp_loop_rounds 1 ?_
  rw [rounds_succ]
  go_wp2_with fail
  go_ret
  exact ⟨rfl, rfl⟩
set_option maxRecDepth 100000 in
set_option maxHeartbeats 1600000 in
theorem same_calls (g1 g2 : Nat) (L : List ByteArray) (hl : L.length ≤ 1000) (w : World) (h1 : w.heap[g1]? = some (.cells (L.map Value.string).toArray 9 (0, 0))) (h2 : w.heap[g2]? = some (.cells (L.map Value.string).toArray 9 (0, 0))) :
    Calls Tryd.prog 16 #[.slice (some ⟨g1, 0, none⟩) L.length L.length, .slice (some ⟨g2, 0, none⟩) L.length L.length] w fun e w' => e = .returned (.bool true) ∧ ∃ n, w' = w.drewN n := by
  have H1 := Lib.hid h1
  have H2 := Lib.hid h2
  clear h1 h2
  go_enter Tryd.func16, Tryd.ntmps16
  go_wp2_with fail
  go_loopg [5] L.length (fun gg i wr => ∃ k n : Nat, k + gg = L.length ∧ i = .int .i64 (k : Int) ∧ wr = w.drewN n)
  case atStart => exact ⟨0, 0, by omega, rfl, rfl⟩
  case round =>
    obtain ⟨k, n, hk, rfl, rfl⟩ := hrel
    cases gk with
    | zero =>
      have hkz : ¬ ((k : Int) < (L.length : Int)) := by omega
      go_wp2_with fail
      go_ret
      exact ⟨rfl, _, rfl⟩
    | succ gg =>
      have hkz : (k : Int) < (L.length : Int) := by omega
      have hk0 : (0 : Int) ≤ (k : Int) := by omega
      obtain ⟨c, hc⟩ : ∃ c, L[k]? = some c := ⟨_, List.getElem?_eq_getElem (by omega)⟩
      have c1 : (w.drewN n).cell? ⟨g1, k, none⟩ = some (.string c) := ali_cell (w := w.drewN n) H1.out hc
      have c2 : (w.drewN n).cell? ⟨g2, k, none⟩ = some (.string c) := ali_cell (w := w.drewN n) H2.out hc
      clear hc
      obtain ⟨X, hX⟩ : ∃ X, w.drewN n = X := ⟨_, rfl⟩
      have HX := Lib.hid hX
      rw [hX] at c1 c2 ⊢
      clear hX
      go_wp2_with fail
      go_quiet (fail)
      go_wp2_with fail
      go_roundg gg
      case measure => omega
      case rel => exact ⟨k + 1, _, by omega, by go_num, by rw [← HX.out, World.drewN_drewN]⟩
end Go.Proofs.YtkbkkdeaegidjaaDoor
