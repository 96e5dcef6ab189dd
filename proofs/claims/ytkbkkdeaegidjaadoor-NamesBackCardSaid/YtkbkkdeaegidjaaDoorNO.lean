/- The reference's Large. -/
import Derived.Test.YtkbkkdeaegidjaaDoorNN
import Derived.Test.YtkbkkdeaegidjaaDoorNF
namespace Go.Proofs.YtkbkkdeaegidjaaDoor
open Go.RowKit
theorem info5 : (Tryd.prog.info? 5).map (fun i => (i.zero, i.size, i.bytes)) = some (some (.int .u8 0), 1, 1) := by kernel_rfl
theorem byte_get (s : ByteArray) (k : Nat) (h : k < s.size) : (((s[k]'h).toNat : Nat) : Int) = (bytesL s).getD k 0 := by
  have hl : k < s.data.toList.length := by simpa using h
  simp [bytesL, List.getD_eq_getElem?_getD, List.getElem?_map, List.getElem?_eq_getElem hl]
  rfl
theorem row_cells {w : World} {B g cap n : Nat} {k : IntKind} {e : TypeId} {xs : List Int} (h : w.ownsRow B e 1 (.slice (some ⟨g, 0, none⟩) n cap) n (xs.map (Value.int k))) {j : Nat} {x : Int} (hj : xs[j]? = some x) : w.cell? ⟨g, j, none⟩ = some (.int k x) := by
  rcases h.2 with ⟨h0, _⟩ | ⟨g', cap', cur, hv, h2, h3, h4, h5, h6, h7⟩
  · cases h0
  · injection hv with e1 e2 e3
    injection e1 with e1
    injection e1 with e1
    subst e1
    rw [cell_of_row _ _ _ _ _ _ h3]
    have hlt := (List.getElem?_eq_some_iff.1 hj).1
    have h8 : (cur.toList.take (n * 1))[j]? = some (.int k x) := by rw [h7, List.getElem?_map, hj]; rfl
    rw [List.getElem?_take] at h8
    split at h8
    · simpa using h8
    · cases h8
set_option maxRecDepth 100000 in
set_option maxHeartbeats 1600000 in
theorem rlarge_calls (s : ByteArray) (hs : s.size ≤ 140737488351232) (w : World) : Calls Tryd.prog 27 #[.string s] w fun e w' => e = .returned (.string (largeB s)) ∧ Below w.heap.size w w' := by
  obtain ⟨i0, hi, hz0, hz1, hz2⟩ := info_parts info5
  have hlen : (largeL s).length = s.size := by unfold largeL; rw [List.length_map, bytesL_len]
  go_enter Tryd.func27, Tryd.ntmps27
  go_wp2_with fail
  go_loopg [3, 4] s.size (fun gg v i wr => ∃ k : Nat, k + gg = s.size ∧ i = .int .i64 (k : Int) ∧ Hid (wr.ownsRow w.heap.size 5 1 v k (((largeL s).take k).map (Value.int .u8))) ∧ Hid (Below w.heap.size w wr))
  case atStart => exact ⟨0, by omega, rfl, Lib.hid (World.ownsRow_nil _ _ _ _), Lib.hid (Below.refl _ _)⟩
  case round =>
    obtain ⟨k, hk, rfl, HO, HB⟩ := hrel
    have hsz : w.heap.size ≤ wr.heap.size := HB.out.size
    cases gk with
    | zero =>
      obtain rfl : k = s.size := by omega
      have hkz : ¬ ((s.size : Int) < (s.size : Int)) := by omega
      have hO := HO.out
      rw [List.take_of_length_le (by omega)] at hO
      rcases Joins.ownsRow_forms hO with ⟨rfl, h0⟩ | ⟨g, cap, rfl⟩
      · have he : largeB s = ⟨#[]⟩ := by
          have : largeL s = [] := List.eq_nil_of_length_eq_zero (by omega)
          unfold largeB
          rw [this]
          rfl
        have HE := Lib.hid he
        have hcv := run_convert_bytes_nil (P := Tryd.prog) wr 35 5 Tryd.underlying35 Tryd.underlying5 0 0 9 Tryd.underlying9
        clear hO he
        go_wp2_with fail
        go_ret
        exact ⟨by rw [HE.out]; rfl, HB.out⟩
      · have hcv := run_convert_bytes_arg (P := Tryd.prog) wr 35 5 Tryd.underlying35 Tryd.underlying5 g 0 s.size cap (largeL s) hlen (fun i hi => by
          rw [Nat.zero_add]
          have hl : i < (largeL s).length := by omega
          refine row_cells hO (by rw [List.getD_eq_getElem?_getD, List.getElem?_eq_getElem hl]; rfl)) 9 Tryd.underlying9
        clear hO
        go_wp2_with fail
        go_ret
        exact ⟨rfl, HB.out⟩
    | succ gg =>
      have hkz : (k : Int) < (s.size : Int) := by omega
      have hk0 : (0 : Int) ≤ (k : Int) := by omega
      have hks : k < s.size := by omega
      have hkw : wrap64 ((k : Int) + 1) = (k : Int) + 1 := by unfold wrap64; omega
      obtain ⟨hx0, hx1⟩ := byte_range s k
      have hbx := byte_get s k hks
      obtain ⟨x, hx⟩ : ∃ x, (bytesL s).getD k 0 = x := ⟨_, rfl⟩
      have HT := Lib.hid (show (largeL s).take (k + 1) = (largeL s).take k ++ [upI x] by
        have hl : k < (bytesL s).length := by rw [bytesL_len]; exact hks
        have : (largeL s)[k]? = some (upI x) := by
          unfold largeL
          rw [List.getElem?_map, ← hx, List.getD_eq_getElem?_getD, List.getElem?_eq_getElem hl]
          rfl
        rw [List.take_add_one, this]
        rfl)
      rw [hx] at hbx hx0 hx1
      clear hx
      obtain ⟨y, hy⟩ : ∃ y, upI x = y := ⟨_, rfl⟩
      have HO1 := Lib.hid (HO.out.alloc (.cells #[.int .u8 y] 5))
      rw [hy] at HT
      by_cases q1 : 97 ≤ x
      · by_cases q2 : x ≤ 122
        · have q3 : decide (97 ≤ x) = true := decide_eq_true q1
          have q4 : decide (x ≤ 122) = true := decide_eq_true q2
          have q5 : IntKind.u8.wrap (x - 32) = y := by rw [IntKind.wrap_u8, ← hy]; unfold upI; rw [if_pos ⟨q1, q2⟩]; omega
          clear hy
          go_wp2_with (at_builtin; go_loud (refine wpList_append_own _ rfl _ _ 35 rfl w.heap.size 5 i0 (.int .u8 0) 1 1 Tryd.underlying35 hi hz0 hz1 hz2 rfl (by decide) _ _ _ rfl HO1.out ⟨wr.heap.size, 0, none⟩ 1 1 [.int .u8 y] rfl rfl (fun j u hj => one_new _ _ _ hj) (by simp [Value.oneCell']) (by unfold maxLen; omega) (by omega) (by simp; omega) ?_))
          intro v' w1 hown hgrow _
          have HR := Lib.hid (And.intro hown ((HB.out.alloc hsz (.cells #[.int .u8 y] 5)).grown hgrow (by simp; omega) (fun q hq => (HO1.out.lt q hq).1)))
          clear hown hgrow
          go_wp2_with fail
          go_roundg gg
          case measure => omega
          case rel => exact ⟨k + 1, by omega, by go_num, Lib.hid (by have := HR.out.1; rw [HT.out]; simpa using this), Lib.hid HR.out.2⟩
        · have q3 : decide (97 ≤ x) = true := decide_eq_true q1
          have q4 : decide (x ≤ 122) = false := decide_eq_false q2
          have q5 : y = x := by rw [← hy]; exact up_keep (by omega)
          subst q5
          clear hy
          go_wp2_with (at_builtin; go_loud (refine wpList_append_own _ rfl _ _ 35 rfl w.heap.size 5 i0 (.int .u8 0) 1 1 Tryd.underlying35 hi hz0 hz1 hz2 rfl (by decide) _ _ _ rfl HO1.out ⟨wr.heap.size, 0, none⟩ 1 1 [.int .u8 y] rfl rfl (fun j u hj => one_new _ _ _ hj) (by simp [Value.oneCell']) (by unfold maxLen; omega) (by omega) (by simp; omega) ?_))
          intro v' w1 hown hgrow _
          have HR := Lib.hid (And.intro hown ((HB.out.alloc hsz (.cells #[.int .u8 y] 5)).grown hgrow (by simp; omega) (fun q hq => (HO1.out.lt q hq).1)))
          clear hown hgrow
          go_wp2_with fail
          go_roundg gg
          case measure => omega
          case rel => exact ⟨k + 1, by omega, by go_num, Lib.hid (by have := HR.out.1; rw [HT.out]; simpa using this), Lib.hid HR.out.2⟩
      · have q3 : decide (97 ≤ x) = false := decide_eq_false q1
        have q5 : y = x := by rw [← hy]; exact up_keep (by omega)
        subst q5
        clear hy
        go_wp2_with (at_builtin; go_loud (refine wpList_append_own _ rfl _ _ 35 rfl w.heap.size 5 i0 (.int .u8 0) 1 1 Tryd.underlying35 hi hz0 hz1 hz2 rfl (by decide) _ _ _ rfl HO1.out ⟨wr.heap.size, 0, none⟩ 1 1 [.int .u8 y] rfl rfl (fun j u hj => one_new _ _ _ hj) (by simp [Value.oneCell']) (by unfold maxLen; omega) (by omega) (by simp; omega) ?_))
        intro v' w1 hown hgrow _
        have HR := Lib.hid (And.intro hown ((HB.out.alloc hsz (.cells #[.int .u8 y] 5)).grown hgrow (by simp; omega) (fun q hq => (HO1.out.lt q hq).1)))
        clear hown hgrow
        go_wp2_with fail
        go_roundg gg
        case measure => omega
        case rel => exact ⟨k + 1, by omega, by go_num, Lib.hid (by have := HR.out.1; rw [HT.out]; simpa using this), Lib.hid HR.out.2⟩
end Go.Proofs.YtkbkkdeaegidjaaDoor
