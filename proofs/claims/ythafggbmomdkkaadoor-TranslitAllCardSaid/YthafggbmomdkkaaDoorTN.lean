/- The walk of TranslitTells. -/
import Derived.Test.YthafggbmomdkkaaDoorTM
import Derived.Deep.QuietTactic
import Derived.OneCell
namespace Go.Proofs.YthafggbmomdkkaaDoor
open Go.RowKit
theorem str_at {w : World} {B g cap n : Nat} {l : List ByteArray} (h : w.ownsRow B 9 1 (.slice (some ⟨g, 0, none⟩) n cap) n (l.map Value.string)) {j : Nat} {c : ByteArray} (hj : l[j]? = some c) : w.cell? ⟨g, j, none⟩ = some (.string c) := by
  have := h.cells (g := g) rfl j (.string c) (by rw [List.getElem?_map, hj]; rfl)
  have e : ((⟨g, 0, none⟩ : Addr).add j) = ⟨g, j, none⟩ := by cases j <;> simp [Addr.add]
  rwa [e] at this
theorem txt_cell {w : World} {g : Nat} {l : List ByteArray} (h : w.heap[g]? = some (.cells (l.map Value.string).toArray 9 (0, 0))) {k : Nat} {c : ByteArray} (hk : l[k]? = some c) : w.cell? ⟨g, k, none⟩ = some (.string c) := by
  rw [cell_of_row w _ _ _ _ _ h]
  have hlt := (List.getElem?_eq_some_iff.1 hk).1
  simp [List.getElem?_map, hk]
theorem rcand_nil (u : Int) (h : candL u = []) (w : World) : Calls Tryd.prog 13 #[.int .i32 u] w fun e w' => ∃ A cap, e = .returned (.slice A 0 cap) ∧ Below w.heap.size w w' :=
  (rcand_any u w).mono fun e w' ⟨v, h1, h2, h3⟩ => by
    rw [h] at h2
    obtain ⟨A, cap, rfl⟩ := str_form h2
    exact ⟨A, cap, h1, h3⟩
theorem rcand_some (u : Int) (l : List ByteArray) (h : candL u = l) (hl : l ≠ []) (w : World) : Calls Tryd.prog 13 #[.int .i32 u] w fun e w' => ∃ g cap, w.heap.size ≤ g ∧ e = .returned (.slice (some ⟨g, 0, none⟩) l.length cap) ∧ w'.ownsRow w.heap.size 9 1 (.slice (some ⟨g, 0, none⟩) l.length cap) l.length (l.map Value.string) ∧ Below w.heap.size w w' :=
  (rcand_any u w).mono fun e w' ⟨v, h1, h2, h3⟩ => by
    subst h
    obtain ⟨g, cap, rfl⟩ := Joins.ownsRow_form h2 (List.length_pos_iff.2 hl)
    exact ⟨g, cap, (h2.lt g rfl).1, h1, h2, h3⟩
set_option maxRecDepth 100000 in
set_option maxHeartbeats 1600000 in
theorem tells_nil (u : Int) (h : candL u = []) (w : World) (hw : MaxAt w) : Calls Tryd.prog 4 #[.int .i32 u] w fun e w' => e = .returned (.bool true) ∧ Below w.heap.size w w' := by
  have HA := Lib.hid (cand_none u h)
  have HR := Lib.hid (rcand_nil u h)
  have HW := Lib.hid hw
  clear h hw
  go_enter Tryd.func4, Tryd.ntmps4
  go_wp2_with fail
  refine (HA.out _ HW.out).mono ?_
  rintro e w1 ⟨rfl, hb⟩
  have B1 := Lib.hid hb
  clear hb
  go_wp2_with fail
  refine (HR.out _).mono ?_
  rintro e w2 ⟨A, cap, rfl, hb⟩
  have B2 := Lib.hid (below_then B1.out B1.out.size hb)
  clear hb
  go_wp2_with fail
  refine wp_loop_rounds 1 ?_
  rw [rounds_succ]
  go_wp2_with fail
  refine (HA.out _ (HW.out.below B2.out)).mono ?_
  rintro e w3 ⟨rfl, hb⟩
  have B3 := Lib.hid (below_then B2.out B2.out.size hb)
  clear hb
  go_wp2_with fail
  refine wp_loop_rounds 1 ?_
  rw [rounds_succ]
  go_wp2_with fail
  go_ret
  exact ⟨rfl, B3.out⟩
/-- The first loop's world. -/
structure SInv (w W : World) (ga gb cap k : Nat) (l : List ByteArray) : Prop where
  bl : Below w.heap.size w W
  lo : w.heap.size ≤ ga
  ne : ga < gb
  ow : W.ownsRow 0 9 1 (.slice (some ⟨gb, 0, none⟩) l.length cap) l.length (l.map Value.string)
  cs : ∃ cs : Array Value, W.heap[ga]? = some (.cells cs 9 (0, 0)) ∧ cs.size = l.length ∧ ∀ j c, k ≤ j → l[j]? = some c → cs[j]? = some (.string c)
theorem SInv.drewN {w W : World} {ga gb cap k : Nat} {l : List ByteArray} (h : SInv w W ga gb cap k l) (n : Nat) : SInv w (W.drewN n) ga gb cap k l := ⟨below_drewN h.bl n, h.lo, h.ne, h.ow, h.cs⟩
theorem SInv.cell {w W : World} {ga gb cap k : Nat} {l : List ByteArray} (h : SInv w W ga gb cap k l) {c : ByteArray} (hc : l[k]? = some c) : W.cell? ⟨ga, k, none⟩ = some (.string c) ∧ W.frozen? ⟨ga, k, none⟩ = false := by
  obtain ⟨cs, h1, h2, h3⟩ := h.cs
  exact ⟨by rw [cell_of_row W _ _ _ _ _ h1]; exact h3 k c (Nat.le_refl _) hc, frozen_of_row W ga k cs 9 h1⟩
theorem SInv.set {w W : World} {ga gb cap k : Nat} {l : List ByteArray} (h : SInv w W ga gb cap k l) (v : Value) : SInv w (W.setCell ⟨ga, k, none⟩ v) ga gb cap (k + 1) l := by
  obtain ⟨cs, h1, h2, h3⟩ := h.cs
  refine ⟨h.bl.setCell (p := ⟨ga, k, none⟩) h.lo v, h.lo, h.ne, ownsRow_setCell_other h.ow (by have := h.ne; simp [Value.ownBlock]; omega) v, _, heap_setCell_same W ga k cs 9 v h1, by simpa using h2, fun j c hj hc => ?_⟩
  rw [Array.getElem?_setIfInBounds_ne (by omega)]
  exact h3 j c (by omega) hc
set_option maxRecDepth 100000 in
set_option maxHeartbeats 3200000 in
theorem tells_some (u : Int) (l : List ByteArray) (h : candL u = l) (hl : l ≠ []) (w : World) (hw : MaxAt w) : Calls Tryd.prog 4 #[.int .i32 u] w fun e w' => e = .returned (.bool true) ∧ Below w.heap.size w w' := by
  have HA := Lib.hid (cand_some u l h hl)
  have HR := Lib.hid (rcand_some u l h hl)
  have HW := Lib.hid hw
  have hlen : l.length ≤ 1000 := by have := (cand_len u).1; rw [h] at this; omega
  clear h hw hl
  go_enter Tryd.func4, Tryd.ntmps4
  go_wp2_with fail
  refine (HA.out _ HW.out).mono ?_
  rintro e w1 ⟨ga, hg, rfl, hc, hb⟩
  have I1 := Lib.hid (show FInv w w1 ga l from ⟨hb, hg, hc⟩)
  clear hg hc hb
  go_wp2_with fail
  refine (HR.out _).mono ?_
  rintro e w2 ⟨gb, cap, hg, rfl, ho, hb⟩
  have S2 := Lib.hid (show SInv w w2 ga gb cap 0 l from ⟨(I1.out.below hb).bl, I1.out.lo, Nat.lt_of_lt_of_le I1.out.lt hg, Joins.ownsRow_le ho (Nat.zero_le _), _, (I1.out.below hb).row, by simp, fun j c _ hj => by simp [List.getElem?_map, hj]⟩)
  clear hg ho hb I1
  go_wp2_with fail
  go_loopg [5] l.length (fun gg i wr => ∃ k : Nat, k + gg = l.length ∧ i = .int .i64 (k : Int) ∧ Hid (SInv w wr ga gb cap k l))
  case atStart => exact ⟨0, by omega, rfl, S2⟩
  case round =>
    obtain ⟨k, hk, rfl, HI⟩ := hrel
    cases gk with
    | zero =>
      have hkz : ¬ ((k : Int) < (l.length : Int)) := by omega
      go_wp2_with fail
      refine (HA.out _ (HW.out.below HI.out.bl)).mono ?_
      rintro e w3 ⟨gc, hg, rfl, hc, hb⟩
      have B3 := Lib.hid (below_then HI.out.bl HI.out.bl.size hb)
      have O3 := Lib.hid (own_lt HI.out.ow hb)
      have C3 := Lib.hid hc
      clear hg hc hb
      go_wp2_with fail
      go_loopg [7] l.length (fun gg i wx => ∃ m n : Nat, m + gg = l.length ∧ i = .int .i64 (m : Int) ∧ wx = w3.drewN n)
      case atStart => exact ⟨0, 0, by omega, rfl, rfl⟩
      case round =>
        obtain ⟨m, n, hm, rfl, rfl⟩ := hrel
        cases gk with
        | zero =>
          have hmz : ¬ ((m : Int) < (l.length : Int)) := by omega
          go_wp2_with fail
          go_ret
          exact ⟨rfl, below_drewN B3.out _⟩
        | succ gg =>
          have hmz : (m : Int) < (l.length : Int) := by omega
          have hm0 : (0 : Int) ≤ (m : Int) := by omega
          obtain ⟨c, hc⟩ : ∃ c, l[m]? = some c := ⟨_, List.getElem?_eq_getElem (by omega)⟩
          have c1 : (w3.drewN n).cell? ⟨gc, m, none⟩ = some (.string c) := txt_cell (w := w3.drewN n) C3.out hc
          have c2 : (w3.drewN n).cell? ⟨gb, m, none⟩ = some (.string c) := str_at (w := w3.drewN n) (B := 0) (cap := cap) (n := l.length) O3.out hc
          clear hc
          obtain ⟨X, hX⟩ : ∃ X, w3.drewN n = X := ⟨_, rfl⟩
          have HX := Lib.hid hX
          rw [hX] at c1 c2 ⊢
          clear hX
          go_wp2_with fail
          go_quiet (fail)
          go_wp2_with fail
          go_roundg gg
          case measure => omega
          case rel => exact ⟨m + 1, _, by omega, by go_num, by rw [← HX.out, World.drewN_drewN]⟩
    | succ gg =>
      have hkz : (k : Int) < (l.length : Int) := by omega
      have hk0 : (0 : Int) ≤ (k : Int) := by omega
      obtain ⟨c, hc⟩ : ∃ c, l[k]? = some c := ⟨_, List.getElem?_eq_getElem (by omega)⟩
      have c1 := (HI.out.cell hc).1
      have c2 := str_at HI.out.ow hc
      have HC := Lib.hid hc
      clear hc
      go_wp2_with fail
      go_quiet (fail)
      have I2 := Lib.hid (HI.out.drewN nq)
      obtain ⟨X, hX⟩ : ∃ X, wr.drewN nq = X := ⟨_, rfl⟩
      rw [hX] at I2 ⊢
      clear hX c1 c2
      have c1 := (I2.out.cell HC.out).1
      have f1 := (I2.out.cell HC.out).2
      go_wp2_with fail
      go_roundg gg
      case measure => omega
      case rel => exact ⟨k + 1, by omega, by go_num, Lib.hid (I2.out.set _)⟩
theorem tells_calls (u : Int) (w : World) (hw : MaxAt w) : Calls Tryd.prog 4 #[.int .i32 u] w fun e w' => e = .returned (.bool true) ∧ Below w.heap.size w w' := by
  by_cases h : candL u = []
  · exact tells_nil u h w hw
  · exact tells_some u _ rfl h w hw
end Go.Proofs.YthafggbmomdkkaaDoor
