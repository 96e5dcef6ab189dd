/- The program's All. -/
import Derived.Test.YthafggbmomdkkaaDoorUC
namespace Go.Proofs.YthafggbmomdkkaaDoor
open Go.RowKit
theorem one_newA (w : World) (x : Value) (t : TypeId) {j : Nat} {u : Value} (hj : [x][j]? = some u) : (w.alloc (.cells #[x] t)).cell? ((⟨w.heap.size, 0, none⟩ : Addr).add j) = some u := by
  match j, hj with
  | 0, hj =>
    simp at hj
    subst hj
    show (w.alloc (.cells #[x] t)).cell? ⟨w.heap.size, 0, none⟩ = _
    rw [cell_of_row _ _ _ _ _ _ (heap_alloc_new _ _)]
    rfl
theorem take_ent {k : Nat} {t : Int × ByteArray} (h : entT[k]? = some t) : allL.take (k + 1) = allL.take k ++ [t.1] := by
  have h1 : allL[k]? = some t.1 := by
    unfold allL
    have := (List.getElem?_eq_some_iff.1 h).1
    rw [List.getElem?_append_left (by simpa using this), List.getElem?_map, h]
    rfl
  rw [List.take_add_one, h1]
  rfl
theorem take_wide {k : Nat} (h : k < 94) : allL.take (118 + k + 1) = allL.take (118 + k) ++ [65281 + (k : Int)] := by
  have h1 : allL[118 + k]? = some (65281 + (k : Int)) := by
    unfold allL
    rw [List.getElem?_append_right (by simp [entT_len]), List.getElem?_map]
    simp [entT_len, h]
  rw [List.take_add_one, h1]
  rfl
theorem runes_own {w : World} {B g cap : Nat} (h : w.ownsRow B 21 1 (.slice (some ⟨g, 0, none⟩) 212 cap) 212 (allL.map (Value.int .i32))) : RunesAt w g := fun j hj =>
  row_at h (j := j) (x := allL.getD j 0) (by rw [List.getD_eq_getElem?_getD, List.getElem?_eq_getElem (by rw [allL_len]; exact hj)]; rfl)
set_option maxRecDepth 100000 in
set_option maxHeartbeats 3200000 in
theorem all_calls (w : World) : Calls Tryd.prog 9 #[] w fun e w' => ∃ g cap, e = .returned (.slice (some ⟨g, 0, none⟩) 212 cap) ∧ RunesAt w' g ∧ Below w.heap.size w w' := by
  obtain ⟨i0, hi, hz0, hz1, hz2⟩ := info_parts info21
  go_enter Tryd.func9, Tryd.ntmps9
  go_wp2_with (first | (go_at_call 17; (with_reducible refine (ent_calls _).mono ?_); rintro e w' ⟨rfl, hb⟩))
  have H0 := Lib.hid hb
  clear hb
  go_loopg [1, 6] 118 (fun gg v i wr => ∃ k : Nat, k + gg = 118 ∧ i = .int .i64 (k : Int) ∧ wr.ownsRow w.heap.size 21 1 v k ((allL.take k).map (Value.int .i32)) ∧ Below w.heap.size w wr)
  case atStart => exact ⟨0, rfl, rfl, World.ownsRow_nil _ _ _ _, H0.out⟩
  case round =>
    obtain ⟨k, hk, rfl, ho, hb⟩ := hrel
    have HO := Lib.hid ho
    have HB := Lib.hid hb
    have hsz : w.heap.size ≤ wr.heap.size := hb.size
    clear ho hb
    cases gk with
    | zero =>
      obtain rfl : k = 118 := by omega
      go_wp2_with fail
      clear H0
      go_loopg [1, 15] 94 (fun gg v i wr => ∃ k : Nat, k + gg = 94 ∧ i = .int .i32 (k : Int) ∧ wr.ownsRow w.heap.size 21 1 v (118 + k) ((allL.take (118 + k)).map (Value.int .i32)) ∧ Below w.heap.size w wr)
      case atStart => exact ⟨0, rfl, rfl, HO.out, HB.out⟩
      case round =>
        obtain ⟨k, hk, rfl, ho, hb⟩ := hrel
        have HO2 := Lib.hid ho
        have HB2 := Lib.hid hb
        have hsz2 := hb.size
        clear ho hb
        cases gk with
        | zero =>
          obtain rfl : k = 94 := by omega
          have ho := HO2.out
          rw [List.take_of_length_le (by rw [allL_len]; omega)] at ho
          obtain ⟨g, cap, rfl⟩ := Joins.ownsRow_form ho (by omega)
          have HRA := Lib.hid (runes_own ho)
          have HS := Lib.hid (sort_calls g cap _ HRA.out)
          clear ho
          go_wp2_with fail
          refine HS.out.mono ?_
          rintro e w2 ⟨rfl, hb⟩
          have HR2 := Lib.hid (HRA.out.below hb)
          have HB3 := Lib.hid (below_then HB2.out hsz2 hb)
          clear hb
          go_wp2_with fail
          go_ret
          exact ⟨g, cap, rfl, HR2.out, HB3.out⟩
        | succ gg =>
          have hlt : (k : Int) < 94 := by omega
          have HT := Lib.hid (take_wide (k := k) (by omega))
          have HO3 := Lib.hid (HO2.out.alloc (.cells #[.int .i32 (65281 + (k : Int))] 21))
          go_wp2_with (at_builtin; go_loud (refine wpList_append_own _ rfl _ _ 23 rfl w.heap.size 21 i0 (.int .i32 0) 1 4 Tryd.underlying23 hi hz0 hz1 hz2 rfl (by decide) _ _ _ rfl HO3.out ⟨_, 0, none⟩ 1 1 [.int .i32 (65281 + (k : Int))] rfl rfl (fun j u hj => one_newA _ _ _ hj) (by simp [Value.oneCell']) (by unfold maxLen; omega) (by omega) (by simp; omega) ?_))
          intro v' w1 hown hgrow _
          have HR := Lib.hid (And.intro hown ((HB2.out.alloc hsz2 (.cells #[.int .i32 (65281 + (k : Int))] 21)).grown hgrow (by simp; omega) (fun q hq => (HO3.out.lt q hq).1)))
          clear hown hgrow
          go_wp2_with fail
          go_roundg gg
          case measure => omega
          case rel => exact ⟨k + 1, by omega, by go_num, by have := HR.out.1; rw [show 118 + (k + 1) = 118 + k + 1 by omega, HT.out]; simpa using this, HR.out.2⟩
    | succ gg =>
      have hlt : k < 118 := by omega
      obtain ⟨⟨a, b⟩, ht⟩ : ∃ t, entT[k]? = some t := ⟨_, List.getElem?_eq_getElem (show k < entT.length by rw [entT_len]; exact hlt)⟩
      have hix := ent_at k (a, b) ht
      have HT := Lib.hid (take_ent ht)
      have HO1 := Lib.hid ((HO.out.alloc (.cells #[.int .i32 a, .string b] 37)).alloc (.cells #[.int .i32 a] 21))
      clear ht
      go_wp2_with (at_builtin; go_loud (refine wpList_append_own _ rfl _ _ 23 rfl w.heap.size 21 i0 (.int .i32 0) 1 4 Tryd.underlying23 hi hz0 hz1 hz2 rfl (by decide) _ _ _ rfl HO1.out ⟨wr.heap.size + 1, 0, none⟩ 1 1 [.int .i32 a] rfl rfl (fun j u hj => one_new2 _ _ _ _ hj) (by simp [Value.oneCell']) (by unfold maxLen; omega) (by omega) (by simp; omega) ?_))
      intro v' w1 hown hgrow _
      have HR := Lib.hid (And.intro hown (((HB.out.alloc hsz (.cells #[.int .i32 a, .string b] 37)).alloc (by simp; omega) (.cells #[.int .i32 a] 21)).grown hgrow (by simp; omega) (fun q hq => (HO1.out.lt q hq).1)))
      clear hown hgrow hix
      go_wp2_with fail
      go_roundg gg
      case measure => omega
      case rel => exact ⟨k + 1, by omega, by go_num, by have := HR.out.1; rw [HT.out]; simpa using this, HR.out.2⟩
end Go.Proofs.YthafggbmomdkkaaDoor
