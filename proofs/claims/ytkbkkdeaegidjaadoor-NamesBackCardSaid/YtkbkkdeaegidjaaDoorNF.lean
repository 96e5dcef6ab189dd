/- Both Kinds. -/
import Derived.Test.YtkbkkdeaegidjaaDoorNE
import Derived.Lib.SmallJoins
namespace Go.Proofs.YtkbkkdeaegidjaaDoor
open Go.RowKit
/-- All kinds, rising. -/
def kindsL : List Int := nameT.map (·.1)
theorem kindsL_len : kindsL.length = 56 := rfl
theorem info3 : (Tryd.prog.info? 3).map (fun i => (i.zero, i.size, i.bytes)) = some (some (.int .i64 0), 1, 8) := by kernel_rfl
theorem own_lt {w : World} {B : Nat} {e : TypeId} {v : Value} {n : Nat} {xs : List Value} (h : w.ownsRow B e 1 v n xs) {w' : World} (hb : Below w.heap.size w w') : w'.ownsRow B e 1 v n xs := by
  refine ⟨h.1, ?_⟩
  rcases h.2 with h0 | ⟨g, cap, cur, h1, h2, h3, h4⟩
  · exact .inl h0
  · exact .inr ⟨g, cap, cur, h1, h2, (hb.block g (Array.getElem?_eq_some_iff.1 h3).1).trans h3, h4⟩
theorem one_new2 (w : World) (o : Obj) (x : Value) (t : TypeId) {j : Nat} {u : Value} (hj : [x][j]? = some u) : ((w.alloc o).alloc (.cells #[x] t)).cell? ((⟨w.heap.size + 1, 0, none⟩ : Addr).add j) = some u := by
  match j, hj with
  | 0, hj =>
    simp at hj
    subst hj
    show ((w.alloc o).alloc (.cells #[x] t)).cell? ⟨w.heap.size + 1, 0, none⟩ = _
    rw [cell_of_row _ _ _ _ _ _ (heap_alloc2_new _ _ _)]
    rfl
/-- What Kinds hands back. -/
def KindsPost (w : World) (e : Ending) (w' : World) : Prop :=
  ∃ g cap, w.heap.size ≤ g ∧ e = .returned (.slice (some ⟨g, 0, none⟩) 56 cap) ∧ w'.ownsRow w.heap.size 3 1 (.slice (some ⟨g, 0, none⟩) 56 cap) 56 (kindsL.map (Value.int .i64)) ∧ Below w.heap.size w w'
theorem kinds_end {w w' : World} {v : Value} (h : w'.ownsRow w.heap.size 3 1 v 56 (kindsL.map (Value.int .i64))) (hb : Below w.heap.size w w') : KindsPost w (.returned v) w' := by
  rcases h.2 with ⟨_, h0⟩ | ⟨g, cap, cur, rfl, h2, h3, h4⟩
  · cases h0
  · exact ⟨g, cap, h2, rfl, h, hb⟩
set_option maxRecDepth 100000 in
set_option maxHeartbeats 1600000 in
theorem kinds_calls (w : World) : Calls Tryd.prog 9 #[] w (KindsPost w) := by
  obtain ⟨i0, hi, hz0, hz1, hz2⟩ := info_parts info3
  go_enter Tryd.func9, Tryd.ntmps9
  go_wp2_with (first | (go_at_call 22; (with_reducible refine (ent_calls _).mono ?_); rintro e w' ⟨rfl, hb⟩))
  have H0 := Lib.hid hb
  clear hb
  go_loopg [1, 5] 56 (fun gg v i wr => ∃ k : Nat, k + gg = 56 ∧ i = .int .i64 (k : Int) ∧ wr.ownsRow w.heap.size 3 1 v k ((kindsL.take k).map (Value.int .i64)) ∧ Below w.heap.size w wr)
  case atStart => exact ⟨0, rfl, rfl, World.ownsRow_nil _ _ _ _, H0.out⟩
  case round =>
    obtain ⟨k, hk, rfl, ho, hb⟩ := hrel
    have HO := Lib.hid ho
    have HB := Lib.hid hb
    have hsz : w.heap.size ≤ wr.heap.size := hb.size
    clear ho hb
    cases gk with
    | zero =>
      obtain rfl : k = 56 := by omega
      go_wp2_with fail
      go_ret
      exact kinds_end (by have := HO.out; rwa [List.take_of_length_le (by rw [kindsL_len]; omega)] at this) HB.out
    | succ gg =>
      have hlt : k < 56 := by omega
      obtain ⟨⟨a, b⟩, ht⟩ : ∃ t, nameT[k]? = some t := ⟨_, List.getElem?_eq_getElem (show k < nameT.length by rw [nameT_len]; exact hlt)⟩
      have hix := ent_at k (a, b) ht
      have HT := Lib.hid (show kindsL.take (k + 1) = kindsL.take k ++ [a] by
        have : kindsL[k]? = some a := by unfold kindsL; rw [List.getElem?_map, ht]; rfl
        rw [List.take_add_one, this]; rfl)
      have HO1 := Lib.hid ((HO.out.alloc (.cells #[.int .i64 a, .string b] 52)).alloc (.cells #[.int .i64 a] 3))
      clear ht
      go_wp2_with (at_builtin; go_loud (refine wpList_append_own _ rfl _ _ 24 rfl w.heap.size 3 i0 (.int .i64 0) 1 8 Tryd.underlying24 hi hz0 hz1 hz2 rfl (by decide) _ _ _ rfl HO1.out ⟨wr.heap.size + 1, 0, none⟩ 1 1 [.int .i64 a] rfl rfl (fun j u hj => one_new2 _ _ _ _ hj) (by simp [Value.oneCell']) (by unfold maxLen; omega) (by omega) (by simp; omega) ?_))
      intro v' w1 hown hgrow _
      have HR := Lib.hid (And.intro hown (((HB.out.alloc hsz (.cells #[.int .i64 a, .string b] 52)).alloc (by simp; omega) (.cells #[.int .i64 a] 3)).grown hgrow (by simp; omega) (fun q hq => (HO1.out.lt q hq).1)))
      clear hown hgrow hix
      go_wp2_with fail
      go_roundg gg
      case measure => omega
      case rel => exact ⟨k + 1, by omega, by go_num, by have := HR.out.1; rw [HT.out]; simpa using this, HR.out.2⟩
/-- The kinds below k that have a name. -/
def kindsTo (k : Nat) : List Int := ((List.range k).filter fun j : Nat => decide ((nameL (j : Int)).size ≠ 0)).map fun j : Nat => (j : Int)
theorem kindsTo_all : kindsTo 89 = kindsL := by decide +kernel
theorem kindsTo_succ (k : Nat) : kindsTo (k + 1) = kindsTo k ++ if (nameL (k : Int)).size = 0 then [] else [(k : Int)] := by
  unfold kindsTo
  rw [List.range_succ, List.filter_append, List.map_append]
  congr 1
  by_cases h : (nameL (k : Int)).size = 0
  · rw [if_pos h]
    simp only [List.filter_cons, decide_eq_false (fun hh : (nameL (k : Int)).size ≠ 0 => hh h)]
    rfl
  · rw [if_neg h]
    simp only [List.filter_cons, decide_eq_true (show (nameL (k : Int)).size ≠ 0 from h)]
    rfl
theorem empty_size (s : ByteArray) : s.toList.isEmpty = decide (s.size = 0) := by
  rw [Lib.toList_data, Lib.size_eq]
  cases s.data.toList <;> simp
theorem kindsTo_len (k : Nat) : (kindsTo k).length ≤ k := by
  unfold kindsTo
  rw [List.length_map]
  exact Nat.le_trans (List.length_filter_le _ _) (by simp)
theorem one_new (w : World) (x : Value) (t : TypeId) {j : Nat} {u : Value} (hj : [x][j]? = some u) : (w.alloc (.cells #[x] t)).cell? ((⟨w.heap.size, 0, none⟩ : Addr).add j) = some u := by
  match j, hj with
  | 0, hj =>
    simp at hj
    subst hj
    show (w.alloc (.cells #[x] t)).cell? ⟨w.heap.size, 0, none⟩ = _
    rw [cell_of_row _ _ _ _ _ _ (heap_alloc_new _ _)]
    rfl
set_option maxRecDepth 100000 in
set_option maxHeartbeats 1600000 in
theorem rkinds_calls (w : World) : Calls Tryd.prog 18 #[] w (KindsPost w) := by
  obtain ⟨i0, hi, hz0, hz1, hz2⟩ := info_parts info3
  go_enter Tryd.func18, Tryd.ntmps18
  go_wp2_with fail
  go_loopg [1, 2] 89 (fun gg v i wr => ∃ k : Nat, k + gg = 89 ∧ i = .int .i64 (k : Int) ∧ wr.ownsRow w.heap.size 3 1 v (kindsTo k).length ((kindsTo k).map (Value.int .i64)) ∧ Below w.heap.size w wr)
  case atStart => exact ⟨0, rfl, rfl, World.ownsRow_nil _ _ _ _, Below.refl _ _⟩
  case round =>
    obtain ⟨k, hk, rfl, ho, hb⟩ := hrel
    have HO := Lib.hid ho
    have HB := Lib.hid hb
    have hsz : w.heap.size ≤ wr.heap.size := hb.size
    clear ho hb
    cases gk with
    | zero =>
      obtain rfl : k = 89 := by omega
      go_wp2_with fail
      go_ret
      exact kinds_end (by have := HO.out; rw [kindsTo_all] at this; exact this) HB.out
    | succ gg =>
      have hlt : (k : Int) ≤ 88 := by omega
      have HN := Lib.hid (rname_calls (k : Int))
      have HS := Lib.hid (kindsTo_succ k)
      have hkl := kindsTo_len k
      obtain ⟨s, hs⟩ : ∃ s, nameL (k : Int) = s := ⟨_, rfl⟩
      rw [hs] at HN HS
      clear hs
      go_wp2_with fail
      refine (HN.out _).mono ?_
      rintro e w1 ⟨rfl, hb⟩
      have HB1 := Lib.hid (below_then HB.out hsz hb)
      have own_below := Lib.hid (own_lt HO.out hb)
      have HO1 := Lib.hid ((own_lt HO.out hb).alloc (.cells #[.int .i64 (k : Int)] 3))
      have hsz1 : w.heap.size ≤ w1.heap.size := Nat.le_trans hsz hb.size
      clear hb
      by_cases he : s.size = 0
      · have HE := Lib.hid he
        have hne : (!s.toList.isEmpty) = false := by rw [empty_size]; simp [he]
        have hne2 : s.toList.isEmpty = true := by rw [empty_size]; simp [he]
        clear he
        go_wp2_with fail
        go_roundg gg
        case measure => omega
        case rel => exact ⟨k + 1, by omega, by go_num, by rw [HS.out, if_pos HE.out, List.append_nil]; exact own_below.out, HB1.out⟩
      · have HE := Lib.hid he
        have hne : (!s.toList.isEmpty) = true := by rw [empty_size]; simp [he]
        have hne2 : s.toList.isEmpty = false := by rw [empty_size]; simp [he]
        clear he
        go_wp2_with (at_builtin; go_loud (refine wpList_append_own _ rfl _ _ 24 rfl w.heap.size 3 i0 (.int .i64 0) 1 8 Tryd.underlying24 hi hz0 hz1 hz2 rfl (by decide) _ _ _ rfl HO1.out ⟨w1.heap.size, 0, none⟩ 1 1 [.int .i64 (k : Int)] rfl rfl (fun j u hj => one_new _ _ _ hj) (by simp [Value.oneCell']) (by unfold maxLen; omega) (by omega) (by simp; omega) ?_))
        intro v' w2 hown hgrow _
        have HR := Lib.hid (And.intro hown ((HB1.out.alloc hsz1 (.cells #[.int .i64 (k : Int)] 3)).grown hgrow (by simp; omega) (fun q hq => (HO1.out.lt q hq).1)))
        clear hown hgrow
        go_wp2_with fail
        go_roundg gg
        case measure => omega
        case rel => exact ⟨k + 1, by omega, by go_num, by rw [HS.out, if_neg HE.out, List.length_append, List.map_append]; exact HR.out.1, HR.out.2⟩
end Go.Proofs.YtkbkkdeaegidjaaDoor
