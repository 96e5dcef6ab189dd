/- The library's iterator over the pieces of a text: what it hands on. -/
import Derived.Test.YtkbkkdeaegidjaaDoorNL
import Derived.RangeFuncCalls
import Derived.OwnWalkIn
import Derived.TacticsInMore
import Derived.LoopNIn
import Derived.LoopIn
import Derived.Lib.Split
import Derived.Lib.CountLaws
import Derived.Lib.CutLaws
import Derived.Lib.IndexBytes
import Derived.WalkSpells
namespace Go.Proofs.YtkbkkdeaegidjaaDoor
open Go.RowKit
attribute [local go_sem] Oper.semAt_some
theorem split_miss {s : ByteArray} (h : Lib.indexB s blankS = -1) : splitBlank s = [s] := by
  unfold splitBlank
  exact Lib.splitB_miss _ _ _ _ h
theorem split_hit {s : ByteArray} {i : Nat} (h : Lib.indexB s blankS = i) : splitBlank s = s.extract 0 i :: splitBlank (s.extract (i + 1) s.size) := by
  unfold splitBlank
  rw [Lib.countB_hit s blankS i (by decide) h, Nat.add_comm 1, Lib.splitB_hit blankS 0 _ s i h]
  rfl
theorem index_blank (s : ByteArray) (w : World) : Calls Tryd.prog 34 #[.string s, .string blankS] w fun e w' => e = .returned (.int .i64 (Lib.indexB s blankS)) ∧ w = w' :=
  (Tryd.strings_Index_one s 32 w).mono fun e w' ⟨h1, h2⟩ => ⟨by rw [h1]; unfold Lib.indexB; exact congrArg (fun x => Ending.returned (.int .i64 x)) (Lib.index_one s.data.toList 32).symm, h2.symm⟩
theorem one_at {W : World} {b : Nat} {v : Value} {t : TypeId} (h : W.heap[b]? = some (.cells #[v] t (0, 0))) : W.cell? ⟨b, 0, none⟩ = some v ∧ W.frozen? ⟨b, 0, none⟩ = false := by
  refine ⟨?_, frozen_of_row W b 0 _ t h⟩
  rw [cell_of_row W _ _ _ _ _ h]
  rfl
theorem grown_set (W : World) (b : Nat) (v : Value) : W.grownBy (W.setCell ⟨b, 0, none⟩ v) (some b) :=
  ⟨rfl, rfl, rfl, by simp, fun k _ hk => heap_setCell_other W ⟨b, 0, none⟩ k v (fun e => hk (by rw [e]))⟩
theorem set_one {W : World} {b : Nat} {v u : Value} {t : TypeId} (h : W.heap[b]? = some (.cells #[v] t (0, 0))) : (W.setCell ⟨b, 0, none⟩ u).heap[b]? = some (.cells #[u] t (0, 0)) := by
  rw [heap_setCell_same W b 0 _ t u h]
  rfl
/-- How long the text in a cell is. -/
def szAt (b : Nat) (w : World) : Nat := match w.heap[b]? with
  | some (Obj.cells cs _ _) => match cs.getD 0 undef with
    | Value.string s => s.size
    | _ => 0
  | _ => 0
theorem szAt_eq {w : World} {b : Nat} {s : ByteArray} {t : TypeId} (h : w.heap[b]? = some (.cells #[.string s] t (0, 0))) : szAt b w = s.size := by
  unfold szAt
  rw [h]
  rfl
set_option maxRecDepth 100000 in
set_option maxHeartbeats 2000000 in
theorem split_iter (n : Nat) (hn : 1 ≤ n) (l bsep bs bsave : Nat) (str : ByteArray) (hs : str.size ≤ 1000) (W : World) (hne1 : bsep ≠ bs) (hne2 : bsave ≠ bs)
    (h1 : W.heap[bsep]? = some (.cells #[.string blankS] 9 (0, 0))) (h2 : W.heap[bs]? = some (.cells #[.string str] 9 (0, 0))) (h3 : W.heap[bsave]? = some (.cells #[.int .i64 0] 3 (0, 0))) :
    Iterates Tryd.prog n 35 #[.pointer (some ⟨bsep, 0, none⟩), .pointer (some ⟨bs, 0, none⟩), .pointer (some ⟨bsave, 0, none⟩)] bs l (splitBlank str) W := by
  intro J Jx hJ hJx hY h0
  have f34 : Fence.wide.fn 34 := trivial
  have hbl : blankS.size = 1 := rfl
  have c1 := (one_at h1).1
  have H1 := Lib.hid h1
  have H2 := Lib.hid h2
  have H3 := Lib.hid h3
  clear h1 h2 h3
  refine callsIn_of_wp Tryd.func35 rfl trivial ?_ rfl
  simp only [Tryd.ntmps35, List.size_toArray, List.length_cons, List.length_nil, Nat.reduceAdd, Nat.reduceSub, Array.replicate_succ, Array.replicate_zero, List.push_toArray, List.append_toArray, List.nil_append, List.cons_append]
  gi_wp2
  gi_loopw [7] (fun _ wr => ∃ pre cur : _, Hid (splitBlank str = pre ++ splitBlank cur) ∧ J pre wr ∧ cur.size ≤ 1000 ∧ Hid (wr.heap[bsep]? = some (.cells #[.string blankS] 9 (0, 0))) ∧ Hid (wr.heap[bs]? = some (.cells #[.string cur] 9 (0, 0))) ∧ Hid (wr.heap[bsave]? = some (.cells #[.int .i64 0] 3 (0, 0)))) (fun _ wr => szAt bs wr)
  case atStart => exact ⟨[], str, Lib.hid rfl, h0, hs, H1, H2, H3⟩
  case round =>
    obtain ⟨pre, cur, HP, hj, hcur, G1, G2, G3⟩ := hrel
    clear c1
    have c1 := (one_at G1.out).1
    have c2 := (one_at G2.out).1
    have f2 := (one_at G2.out).2
    have c3 := (one_at G3.out).1
    have HX := Lib.hid (index_blank cur)
    rcases Lib.indexB_cases cur blankS with hi | ⟨i, hi, hi2⟩
    · have HP2 := Lib.hid (show splitBlank str = pre ++ [cur] by rw [HP.out, split_miss hi])
      rw [hi] at HX
      obtain ⟨fn, tmps, assign, body, hy, hR⟩ := hY pre cur wr hj ⟨[], HP2.out⟩
      clear hi
      gi_wp2_with (gi_at_call 34; refine (callsIn_wide.2 (HX.out _)).mono ?_; rintro e w' ⟨rfl, rfl⟩)
      refine hR.mono ?_
      rintro e B (⟨rfl, hJ3, hk3⟩ | ⟨rfl, hJx3⟩)
      · gi_wp2
        go_end0
        exact ⟨⟨_, rfl⟩, .inl (by rw [HP2.out]; exact hJ3)⟩
      · gi_wp2
        go_end0
        exact ⟨⟨_, rfl⟩, .inr ⟨_, hJx3⟩⟩
    · have HP2 := Lib.hid (show splitBlank str = pre ++ cur.extract 0 i :: splitBlank (cur.extract (i + 1) cur.size) by rw [HP.out, split_hit hi])
      rw [hi] at HX
      obtain ⟨fn, tmps, assign, body, hy, hR⟩ := hY pre (cur.extract 0 i) wr hj ⟨_, HP2.out⟩
      have hi3 : i + 1 ≤ cur.size := hi2
      have hi4 : (0 : Int) ≤ (i : Int) := by omega
      have hi5 : (i : Int) ≤ (cur.size : Int) := by omega
      have hi6 : (i : Int) + 1 ≤ (cur.size : Int) := by omega
      have hi7 : (0 : Int) ≤ (i : Int) + 1 := by omega
      clear hi hi2
      gi_wp2_with (gi_at_call 34; refine (callsIn_wide.2 (HX.out _)).mono ?_; rintro e w' ⟨rfl, rfl⟩)
      refine hR.mono ?_
      rintro e B (⟨rfl, hJ3, hk3⟩ | ⟨rfl, hJx3⟩)
      · have K1 := Lib.hid ((hk3.block _ (Array.getElem?_eq_some_iff.1 G1.out).1).trans G1.out)
        have K2 := Lib.hid ((hk3.block _ (Array.getElem?_eq_some_iff.1 G2.out).1).trans G2.out)
        have K3 := Lib.hid ((hk3.block _ (Array.getElem?_eq_some_iff.1 G3.out).1).trans G3.out)
        clear c1 c2 c3 f2 hk3
        have c1 := (one_at K1.out).1
        have c2 := (one_at K2.out).1
        have f2 := (one_at K2.out).2
        have c3 := (one_at K3.out).1
        gi_wp2
        go_roundw
        case rel =>
          refine ⟨pre ++ [cur.extract 0 i], cur.extract (i + 1) cur.size, Lib.hid (by rw [HP2.out]; simp), hJ _ _ _ hJ3 (grown_set _ _ _), ?_, Lib.hid ((heap_setCell_other _ _ _ _ hne1).trans K1.out), Lib.hid (set_one K2.out), Lib.hid ((heap_setCell_other _ _ _ _ hne2).trans K3.out)⟩
          rw [ByteArray.size_extract]
          omega
        case measure =>
          rw [szAt_eq G2.out, szAt_eq (set_one K2.out), ByteArray.size_extract]
          omega
      · gi_wp2
        refine bodyPost_ret (results_none rfl _ _ _) rfl ?_
        exact ⟨⟨_, rfl⟩, .inr ⟨_, hJx3⟩⟩
end Go.Proofs.YtkbkkdeaegidjaaDoor
