/- SameRunes at the list; the walk of TranslitAll. -/
import Derived.Test.YthafggbmomdkkaaDoorUE
import Derived.Deep.RegionHeld3
namespace Go.Proofs.YthafggbmomdkkaaDoor
open Go.RowKit
set_option maxRecDepth 100000 in
set_option maxHeartbeats 1600000 in
theorem sames_calls (g1 c1 g2 c2 : Nat) (w : World) (h1 : RunesAt w g1) (h2 : RunesAt w g2) :
    Calls Tryd.prog 11 #[.slice (some ⟨g1, 0, none⟩) 212 c1, .slice (some ⟨g2, 0, none⟩) 212 c2] w fun e w' => e = .returned (.bool true) ∧ Below w.heap.size w w' := by
  have H1 := Lib.hid h1
  have H2 := Lib.hid h2
  clear h1 h2
  go_enter Tryd.func11, Tryd.ntmps11
  go_wp2_with fail
  go_loopg [5] 212 (fun gg i wr => ∃ k n : Nat, k + gg = 212 ∧ i = .int .i64 (k : Int) ∧ wr = w.drewN n)
  case atStart => exact ⟨0, 0, rfl, rfl, rfl⟩
  case round =>
    obtain ⟨k, n, hk, rfl, rfl⟩ := hrel
    cases gk with
    | zero =>
      obtain rfl : k = 212 := by omega
      go_wp2_with fail
      go_ret
      exact ⟨rfl, below_drewN (Below.refl _ _) _⟩
    | succ gg =>
      have hkz : (k : Int) < 212 := by omega
      have hk0 : (0 : Int) ≤ (k : Int) := by omega
      have c1 : (w.drewN n).cell? ⟨g1, k, none⟩ = some (.int .i32 (allL.getD k 0)) := H1.out k (by omega)
      have c2 : (w.drewN n).cell? ⟨g2, k, none⟩ = some (.int .i32 (allL.getD k 0)) := H2.out k (by omega)
      obtain ⟨x, hx⟩ : ∃ x, allL.getD k 0 = x := ⟨_, rfl⟩
      rw [hx] at c1 c2
      obtain ⟨X, hX⟩ : ∃ X, w.drewN n = X := ⟨_, rfl⟩
      have HX := Lib.hid hX
      rw [hX] at c1 c2 ⊢
      clear hX hx
      go_wp2_with fail
      go_quiet (fail)
      go_wp2_with fail
      go_roundg gg
      case measure => omega
      case rel => exact ⟨k + 1, _, by omega, by go_num, by rw [← HX.out, World.drewN_drewN]⟩
/-- Between two rounds. -/
structure UInv (w W : World) (g : Nat) : Prop where
  bl : Below w.heap.size w W
  at_ : RunesAt W g
  mx : MaxAt W
theorem UInv.below {w W X : World} {g : Nat} (h : UInv w W g) (hb : Below W.heap.size W X) : UInv w X g := ⟨below_then h.bl h.bl.size hb, h.at_.below hb, h.mx.below hb⟩
theorem UInv.drew {w W : World} {g : Nat} (h : UInv w W g) : UInv w W.drew g := ⟨h.bl.drew, h.at_, h.mx⟩
theorem any_take {k : Nat} {u : Int} (h : k < 212) : (allL.take (k + 1)).any (· == u) = ((allL.take k).any (· == u) || (allL.getD k 0 == u)) := by
  have h1 : allL[k]? = some (allL.getD k 0) := by rw [List.getD_eq_getElem?_getD, List.getElem?_eq_getElem (by rw [allL_len]; exact h)]; rfl
  rw [List.take_add_one, h1, List.any_append]
  simp
theorem any_all (u : Int) : (allL.take 212).any (· == u) = decide (0 < (candL u).length) := by
  rw [List.take_of_length_le (by rw [allL_len]; omega), ← all_contains, List.contains_eq_any_beq]
  congr 1
  funext x
  exact Bool.beq_comm ..
theorem cand_all {k : Nat} (h : k < 212) : candL (allL.getD k 0) ≠ [] := by
  refine (mem_all _).1 ?_
  rw [List.getD_eq_getElem?_getD, List.getElem?_eq_getElem (by rw [allL_len]; exact h)]
  exact List.getElem_mem _
end Go.Proofs.YthafggbmomdkkaaDoor
