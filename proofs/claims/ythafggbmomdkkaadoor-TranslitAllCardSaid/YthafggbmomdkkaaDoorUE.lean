/- The reference's All (written by mkue.py). -/
import Derived.Test.YthafggbmomdkkaaDoorUD
namespace Go.Proofs.YthafggbmomdkkaaDoor
open Go.RowKit
theorem ways (k : Nat) : (k < 256) ∨ (256 ≤ k ∧ k < 512) ∨ (512 ≤ k ∧ k < 8192) ∨ (8192 ≤ k ∧ k < 12544) ∨ (12544 ≤ k ∧ k < 64256) ∨ (64256 ≤ k) := by omega
theorem upTo_off {k : Nat} (h : candL (k : Int) = []) : upTo (((k + 1 : Nat)) : Int) = upTo (k : Int) := by
  rw [show (((k + 1 : Nat)) : Int) = (k : Int) + 1 by omega, upTo_next, if_neg (fun hm => (mem_all _).1 hm h), List.append_nil]
theorem upTo_on {k : Nat} (h : candL (k : Int) ≠ []) : upTo (((k + 1 : Nat)) : Int) = upTo (k : Int) ++ [(k : Int)] := by
  rw [show (((k + 1 : Nat)) : Int) = (k : Int) + 1 by omega, upTo_next, if_pos ((mem_all _).2 h)]
theorem cand_off {k : Nat} (h : (512 ≤ k ∧ k < 8192) ∨ (12544 ≤ k ∧ k < 64256)) : candL (k : Int) = [] :=
  Classical.byContradiction fun hc => all_off (u := (k : Int)) (by omega) ((mem_all _).2 hc)
/-- What All hands back. -/
def AllPost (w : World) (e : Ending) (w' : World) : Prop := ∃ g cap, e = .returned (.slice (some ⟨g, 0, none⟩) 212 cap) ∧ RunesAt w' g ∧ Below w.heap.size w w'
theorem all_end {w w' : World} {v : Value} (h : w'.ownsRow w.heap.size 21 1 v (upTo 65536).length ((upTo 65536).map (Value.int .i32))) (hb : Below w.heap.size w w') : AllPost w (.returned v) w' := by
  rw [upTo_end, allL_len] at h
  obtain ⟨g, cap, rfl⟩ := Joins.ownsRow_form h (by omega)
  exact ⟨g, cap, rfl, runes_own h, hb⟩
set_option maxRecDepth 100000 in
set_option maxHeartbeats 6400000 in
theorem rall_calls (w : World) : Calls Tryd.prog 12 #[] w (AllPost w) := by
  obtain ⟨i0, hi, hz0, hz1, hz2⟩ := info_parts info21
  go_enter Tryd.func12, Tryd.ntmps12
  go_wp2_with fail
  go_loopg [1, 2] 65536 (fun gg v i wr => ∃ k : Nat, k + gg = 65536 ∧ i = .int .i32 (k : Int) ∧ wr.ownsRow w.heap.size 21 1 v (upTo (k : Int)).length ((upTo (k : Int)).map (Value.int .i32)) ∧ Below w.heap.size w wr)
  case atStart => exact ⟨0, rfl, rfl, by rw [show upTo ((0 : Nat) : Int) = [] from upTo_zero]; exact World.ownsRow_nil _ _ _ _, Below.refl _ _⟩
  case round =>
    obtain ⟨k, hk, rfl, ho, hb⟩ := hrel
    have HO := Lib.hid ho
    have HB := Lib.hid hb
    have hsz : w.heap.size ≤ wr.heap.size := hb.size
    clear ho hb
    cases gk with
    | zero =>
      obtain rfl : k = 65536 := by omega
      go_wp2_with fail
      go_ret
      exact all_end HO.out HB.out
    | succ gg =>
      have hlt : (k : Int) < 65536 := by omega
      have hkl := upTo_len (k : Int)
      obtain ⟨L, hL⟩ : ∃ L, upTo (k : Int) = L := ⟨_, rfl⟩
      rw [hL] at HO hkl
      have HL := Lib.hid hL
      clear hL
      rcases ways k with h | h | h | h | h | h
      · -- k < 256
        have f0 : ¬ (256 ≤ (k : Int)) := by omega
        have d0 := decide_eq_false f0
        have f1 : (k : Int) < 8192 := by omega
        have f2 : ¬ (511 < (k : Int)) := by omega
        have d2 := decide_eq_false f2
        have f3 : ¬ (12544 ≤ (k : Int)) := by omega
        have d3 := decide_eq_false f3
        have f4 : (k : Int) < 64256 := by omega
        clear h
        by_cases hc : candL (k : Int) = []
        · have HE := Lib.hid (upTo_off hc)
          have HC := Lib.hid (rcand_nil (k : Int) hc)
          clear hc
          go_wp2_with fail
          refine (HC.out _).mono ?_
          rintro e w1 ⟨A1, cap1, rfl, hb⟩
          have B1 := Lib.hid (below_then HB.out hsz hb)
          have O1 := Lib.hid (own_lt HO.out hb)
          clear hb
          go_wp2_with fail
          go_roundg gg
          case measure => omega
          case rel => exact ⟨k + 1, by omega, by go_num, by rw [HE.out, HL.out]; exact O1.out, B1.out⟩
        · have HE := Lib.hid (upTo_on hc)
          have HC := Lib.hid (rcand_some (k : Int) _ rfl hc)
          have hn : (0 : Int) < ((candL (k : Int)).length : Int) := by have := List.length_pos_iff.2 hc; omega
          obtain ⟨n, hnn⟩ : ∃ n, (candL (k : Int)).length = n := ⟨_, rfl⟩
          rw [hnn] at hn HC
          clear hc hnn
          go_wp2_with fail
          refine (HC.out _).mono ?_
          rintro e w1 ⟨gb, capb, hg, rfl, hc, hb⟩
          have B1 := Lib.hid (below_then HB.out hsz hb)
          have O1 := Lib.hid ((own_lt HO.out hb).alloc (.cells #[.int .i32 (k : Int)] 21))
          have hsz1 : w.heap.size ≤ w1.heap.size := Nat.le_trans hsz hb.size
          clear hb hg hc hlt
          clear f0 f1 f2 f3 f4 d0 d2 d3
          go_wp2_with (at_builtin; go_loud (refine wpList_append_own _ rfl _ _ 23 rfl w.heap.size 21 i0 (.int .i32 0) 1 4 Tryd.underlying23 hi hz0 hz1 hz2 rfl (by decide) _ _ _ rfl O1.out ⟨_, 0, none⟩ 1 1 [.int .i32 (k : Int)] rfl rfl (fun j u hj => one_newA _ _ _ hj) (by simp [Value.oneCell']) (by unfold maxLen; omega) (by omega) (by simp; omega) ?_))
          intro v' w2 hown hgrow _
          have HR := Lib.hid (And.intro hown ((B1.out.alloc hsz1 (.cells #[.int .i32 (k : Int)] 21)).grown hgrow (by simp; omega) (fun q hq => (O1.out.lt q hq).1)))
          clear hown hgrow
          go_wp2_with fail
          go_roundg gg
          case measure => omega
          case rel => exact ⟨k + 1, by omega, by go_num, by rw [HE.out, HL.out, List.length_append, List.map_append]; exact HR.out.1, HR.out.2⟩
      · -- 256 ≤ k ∧ k < 512
        have f0 : 256 ≤ (k : Int) := by omega
        have f1 : (k : Int) < 8192 := by omega
        have f2 : ¬ (511 < (k : Int)) := by omega
        have d2 := decide_eq_false f2
        have f3 : ¬ (12544 ≤ (k : Int)) := by omega
        have d3 := decide_eq_false f3
        have f4 : (k : Int) < 64256 := by omega
        clear h
        by_cases hc : candL (k : Int) = []
        · have HE := Lib.hid (upTo_off hc)
          have HC := Lib.hid (rcand_nil (k : Int) hc)
          clear hc
          go_wp2_with fail
          refine (HC.out _).mono ?_
          rintro e w1 ⟨A1, cap1, rfl, hb⟩
          have B1 := Lib.hid (below_then HB.out hsz hb)
          have O1 := Lib.hid (own_lt HO.out hb)
          clear hb
          go_wp2_with fail
          go_roundg gg
          case measure => omega
          case rel => exact ⟨k + 1, by omega, by go_num, by rw [HE.out, HL.out]; exact O1.out, B1.out⟩
        · have HE := Lib.hid (upTo_on hc)
          have HC := Lib.hid (rcand_some (k : Int) _ rfl hc)
          have hn : (0 : Int) < ((candL (k : Int)).length : Int) := by have := List.length_pos_iff.2 hc; omega
          obtain ⟨n, hnn⟩ : ∃ n, (candL (k : Int)).length = n := ⟨_, rfl⟩
          rw [hnn] at hn HC
          clear hc hnn
          go_wp2_with fail
          refine (HC.out _).mono ?_
          rintro e w1 ⟨gb, capb, hg, rfl, hc, hb⟩
          have B1 := Lib.hid (below_then HB.out hsz hb)
          have O1 := Lib.hid ((own_lt HO.out hb).alloc (.cells #[.int .i32 (k : Int)] 21))
          have hsz1 : w.heap.size ≤ w1.heap.size := Nat.le_trans hsz hb.size
          clear hb hg hc hlt
          clear f0 f1 f2 f3 f4 d2 d3
          go_wp2_with (at_builtin; go_loud (refine wpList_append_own _ rfl _ _ 23 rfl w.heap.size 21 i0 (.int .i32 0) 1 4 Tryd.underlying23 hi hz0 hz1 hz2 rfl (by decide) _ _ _ rfl O1.out ⟨_, 0, none⟩ 1 1 [.int .i32 (k : Int)] rfl rfl (fun j u hj => one_newA _ _ _ hj) (by simp [Value.oneCell']) (by unfold maxLen; omega) (by omega) (by simp; omega) ?_))
          intro v' w2 hown hgrow _
          have HR := Lib.hid (And.intro hown ((B1.out.alloc hsz1 (.cells #[.int .i32 (k : Int)] 21)).grown hgrow (by simp; omega) (fun q hq => (O1.out.lt q hq).1)))
          clear hown hgrow
          go_wp2_with fail
          go_roundg gg
          case measure => omega
          case rel => exact ⟨k + 1, by omega, by go_num, by rw [HE.out, HL.out, List.length_append, List.map_append]; exact HR.out.1, HR.out.2⟩
      · -- 512 ≤ k ∧ k < 8192
        have f0 : 256 ≤ (k : Int) := by omega
        have f1 : (k : Int) < 8192 := by omega
        have f2 : 511 < (k : Int) := by omega
        have f3 : ¬ (12544 ≤ (k : Int)) := by omega
        have d3 := decide_eq_false f3
        have f4 : (k : Int) < 64256 := by omega
        have HE := Lib.hid (upTo_off (cand_off (k := k) (by omega)))
        clear h
        go_wp2_with fail
        go_roundg gg
        case measure => omega
        case rel => exact ⟨k + 1, by omega, by go_num, by rw [HE.out, HL.out]; exact HO.out, HB.out⟩
      · -- 8192 ≤ k ∧ k < 12544
        have f0 : 256 ≤ (k : Int) := by omega
        have f1 : ¬ ((k : Int) < 8192) := by omega
        have d1 := decide_eq_false f1
        have f2 : 511 < (k : Int) := by omega
        have f3 : ¬ (12544 ≤ (k : Int)) := by omega
        have d3 := decide_eq_false f3
        have f4 : (k : Int) < 64256 := by omega
        clear h
        by_cases hc : candL (k : Int) = []
        · have HE := Lib.hid (upTo_off hc)
          have HC := Lib.hid (rcand_nil (k : Int) hc)
          clear hc
          go_wp2_with fail
          refine (HC.out _).mono ?_
          rintro e w1 ⟨A1, cap1, rfl, hb⟩
          have B1 := Lib.hid (below_then HB.out hsz hb)
          have O1 := Lib.hid (own_lt HO.out hb)
          clear hb
          go_wp2_with fail
          go_roundg gg
          case measure => omega
          case rel => exact ⟨k + 1, by omega, by go_num, by rw [HE.out, HL.out]; exact O1.out, B1.out⟩
        · have HE := Lib.hid (upTo_on hc)
          have HC := Lib.hid (rcand_some (k : Int) _ rfl hc)
          have hn : (0 : Int) < ((candL (k : Int)).length : Int) := by have := List.length_pos_iff.2 hc; omega
          obtain ⟨n, hnn⟩ : ∃ n, (candL (k : Int)).length = n := ⟨_, rfl⟩
          rw [hnn] at hn HC
          clear hc hnn
          go_wp2_with fail
          refine (HC.out _).mono ?_
          rintro e w1 ⟨gb, capb, hg, rfl, hc, hb⟩
          have B1 := Lib.hid (below_then HB.out hsz hb)
          have O1 := Lib.hid ((own_lt HO.out hb).alloc (.cells #[.int .i32 (k : Int)] 21))
          have hsz1 : w.heap.size ≤ w1.heap.size := Nat.le_trans hsz hb.size
          clear hb hg hc hlt
          clear f0 f1 f2 f3 f4 d1 d3
          go_wp2_with (at_builtin; go_loud (refine wpList_append_own _ rfl _ _ 23 rfl w.heap.size 21 i0 (.int .i32 0) 1 4 Tryd.underlying23 hi hz0 hz1 hz2 rfl (by decide) _ _ _ rfl O1.out ⟨_, 0, none⟩ 1 1 [.int .i32 (k : Int)] rfl rfl (fun j u hj => one_newA _ _ _ hj) (by simp [Value.oneCell']) (by unfold maxLen; omega) (by omega) (by simp; omega) ?_))
          intro v' w2 hown hgrow _
          have HR := Lib.hid (And.intro hown ((B1.out.alloc hsz1 (.cells #[.int .i32 (k : Int)] 21)).grown hgrow (by simp; omega) (fun q hq => (O1.out.lt q hq).1)))
          clear hown hgrow
          go_wp2_with fail
          go_roundg gg
          case measure => omega
          case rel => exact ⟨k + 1, by omega, by go_num, by rw [HE.out, HL.out, List.length_append, List.map_append]; exact HR.out.1, HR.out.2⟩
      · -- 12544 ≤ k ∧ k < 64256
        have f0 : 256 ≤ (k : Int) := by omega
        have f1 : ¬ ((k : Int) < 8192) := by omega
        have d1 := decide_eq_false f1
        have f2 : 511 < (k : Int) := by omega
        have f3 : 12544 ≤ (k : Int) := by omega
        have f4 : (k : Int) < 64256 := by omega
        have HE := Lib.hid (upTo_off (cand_off (k := k) (by omega)))
        clear h
        go_wp2_with fail
        go_roundg gg
        case measure => omega
        case rel => exact ⟨k + 1, by omega, by go_num, by rw [HE.out, HL.out]; exact HO.out, HB.out⟩
      · -- 64256 ≤ k
        have f0 : 256 ≤ (k : Int) := by omega
        have f1 : ¬ ((k : Int) < 8192) := by omega
        have d1 := decide_eq_false f1
        have f2 : 511 < (k : Int) := by omega
        have f3 : 12544 ≤ (k : Int) := by omega
        have f4 : ¬ ((k : Int) < 64256) := by omega
        have d4 := decide_eq_false f4
        clear h
        by_cases hc : candL (k : Int) = []
        · have HE := Lib.hid (upTo_off hc)
          have HC := Lib.hid (rcand_nil (k : Int) hc)
          clear hc
          go_wp2_with fail
          refine (HC.out _).mono ?_
          rintro e w1 ⟨A1, cap1, rfl, hb⟩
          have B1 := Lib.hid (below_then HB.out hsz hb)
          have O1 := Lib.hid (own_lt HO.out hb)
          clear hb
          go_wp2_with fail
          go_roundg gg
          case measure => omega
          case rel => exact ⟨k + 1, by omega, by go_num, by rw [HE.out, HL.out]; exact O1.out, B1.out⟩
        · have HE := Lib.hid (upTo_on hc)
          have HC := Lib.hid (rcand_some (k : Int) _ rfl hc)
          have hn : (0 : Int) < ((candL (k : Int)).length : Int) := by have := List.length_pos_iff.2 hc; omega
          obtain ⟨n, hnn⟩ : ∃ n, (candL (k : Int)).length = n := ⟨_, rfl⟩
          rw [hnn] at hn HC
          clear hc hnn
          go_wp2_with fail
          refine (HC.out _).mono ?_
          rintro e w1 ⟨gb, capb, hg, rfl, hc, hb⟩
          have B1 := Lib.hid (below_then HB.out hsz hb)
          have O1 := Lib.hid ((own_lt HO.out hb).alloc (.cells #[.int .i32 (k : Int)] 21))
          have hsz1 : w.heap.size ≤ w1.heap.size := Nat.le_trans hsz hb.size
          clear hb hg hc hlt
          clear f0 f1 f2 f3 f4 d1 d4
          go_wp2_with (at_builtin; go_loud (refine wpList_append_own _ rfl _ _ 23 rfl w.heap.size 21 i0 (.int .i32 0) 1 4 Tryd.underlying23 hi hz0 hz1 hz2 rfl (by decide) _ _ _ rfl O1.out ⟨_, 0, none⟩ 1 1 [.int .i32 (k : Int)] rfl rfl (fun j u hj => one_newA _ _ _ hj) (by simp [Value.oneCell']) (by unfold maxLen; omega) (by omega) (by simp; omega) ?_))
          intro v' w2 hown hgrow _
          have HR := Lib.hid (And.intro hown ((B1.out.alloc hsz1 (.cells #[.int .i32 (k : Int)] 21)).grown hgrow (by simp; omega) (fun q hq => (O1.out.lt q hq).1)))
          clear hown hgrow
          go_wp2_with fail
          go_roundg gg
          case measure => omega
          case rel => exact ⟨k + 1, by omega, by go_num, by rw [HE.out, HL.out, List.length_append, List.map_append]; exact HR.out.1, HR.out.2⟩
end Go.Proofs.YthafggbmomdkkaaDoor
