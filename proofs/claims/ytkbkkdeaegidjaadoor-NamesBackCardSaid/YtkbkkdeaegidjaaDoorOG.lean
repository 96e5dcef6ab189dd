/- The walk of NamesFlags. -/
import Derived.Test.YtkbkkdeaegidjaaDoorOF
import Derived.Test.YtkbkkdeaegidjaaDoorNH
namespace Go.Proofs.YtkbkkdeaegidjaaDoor
open Go.RowKit
def igL : ByteArray := ⟨#[105, 103, 110, 111, 114, 101]⟩
def trL : ByteArray := ⟨#[84, 114, 97, 110, 115, 108, 105, 116]⟩
def noB : ByteArray := ⟨#[]⟩
theorem wish_tr (t i : Bool) : wishF [trS] t i = some (true, i) := by
  rw [wishF, if_pos (by decide +kernel)]
  rfl
theorem wish_trl (t i : Bool) : wishF [trL] t i = some (true, i) := by
  rw [wishF, if_pos (by decide +kernel)]
  rfl
theorem wish_ig (t i : Bool) : wishF [igS] t i = some (t, true) := by
  rw [wishF, if_neg (by decide +kernel), if_pos (by decide +kernel)]
  rfl
theorem wish_igl (t i : Bool) : wishF [igL] t i = some (t, true) := by
  rw [wishF, if_neg (by decide +kernel), if_pos (by decide +kernel)]
  rfl
theorem wish_no (t i : Bool) : wishF [noB] t i = some (t, i) := by
  rw [wishF, if_neg (by decide +kernel), if_neg (by decide +kernel), if_pos (by decide +kernel)]
  rfl
theorem no_all {a : ByteArray} (h : a.data.toList.all (fun x => decide (x ≠ 47)) = true) : noSl a := fun x hx => of_decide_eq_true (List.all_eq_true.1 h x hx)
/-- What has been asked for so far. -/
structure Asked (N S : ByteArray) (k : Nat) (t i : Bool) (ps : List ByteArray) : Prop where
  eq : S = joinF (N :: ps)
  sz : S.size ≤ 60 + 10 * k
  no : ∀ a ∈ ps, noSl a
  wi : wishF ps false false = some (t, i)
theorem Asked.step {N S : ByteArray} {k : Nat} {t i t' i' : Bool} {ps : List ByteArray} (h : Asked N S k t i ps) (p c : ByteArray) (hc : slS ++ p = c) (hz : c.size ≤ 10) (hn : noSl p) (hw : wishF [p] t i = some (t', i')) : Asked N (S ++ c) (k + 1) t' i' (ps ++ [p]) := by
  refine ⟨?_, ?_, fun a ha => ?_, ?_⟩
  · rw [show N :: (ps ++ [p]) = (N :: ps) ++ [p] from rfl, join_snoc _ _ (by simp), hc, h.eq]
  · rw [ByteArray.size_append]
    have := h.sz
    omega
  · rcases List.mem_append.1 ha with ha | ha
    · exact h.no a ha
    · simp at ha
      rw [ha]
      exact hn
  · rw [wish_snoc ps p _ _ _ _ h.wi, hw]
theorem Asked.parse {N S : ByteArray} {k : Nat} {kd : Int} {t i : Bool} {ps : List ByteArray} (h : Asked N S k t i ps) (hs : ¬ 64 < S.size) (hN : noSl N) (hf : findI N = kd) (hk : kd ≠ 0) : parseL S = ⟨kd, t, i, 0⟩ := by
  have e : splitSl S = N :: ps := by
    rw [h.eq]
    refine split_join _ (by simp) (fun a ha => ?_)
    rcases List.mem_cons.1 ha with rfl | ha
    · exact hN
    · exact h.no a ha
  unfold parseL
  rw [if_neg hs, e]
  show (if findI N = 0 then _ else _) = _
  rw [hf, if_neg hk, h.wi]
theorem part_at (x : Int) : (IntKind.u64.wrap x).tmod 5 = 0 ∨ (IntKind.u64.wrap x).tmod 5 = 1 ∨ (IntKind.u64.wrap x).tmod 5 = 2 ∨ (IntKind.u64.wrap x).tmod 5 = 3 ∨ (IntKind.u64.wrap x).tmod 5 = 4 := by
  have h0 : 0 ≤ IntKind.u64.wrap x := by simp [IntKind.wrap, IntKind.bits, IntKind.signed]; omega
  have h1 := Int.tmod_eq_emod_of_nonneg (b := 5) h0
  rw [h1]
  omega
theorem kind_at (kind : Int) : ∃ j : Nat, j < 56 ∧ wrap64 ((IntKind.u64.wrap kind).tmod 56) = (j : Int) := by
  have h0 : 0 ≤ IntKind.u64.wrap kind := by simp [IntKind.wrap, IntKind.bits, IntKind.signed]; omega
  have h1 := Int.tmod_eq_emod_of_nonneg (b := 56) h0
  generalize IntKind.u64.wrap kind = u at h0 h1 ⊢
  refine ⟨(u % 56).toNat, by omega, ?_⟩
  rw [h1]
  unfold wrap64
  omega
theorem flag_tr {W : World} {q : Nat} {kd : Int} {t i : Bool} (h : W.heap[q]? = some (.cells #[.int .i64 kd, .bool t, .bool i] 28 (0, 0))) : (W.setCell ⟨q, 1, none⟩ (.bool true)).heap[q]? = some (.cells #[.int .i64 kd, .bool true, .bool i] 28 (0, 0)) := by
  rw [heap_setCell_same W q 1 _ 28 _ h]
  rfl
theorem flag_ig {W : World} {q : Nat} {kd : Int} {t i : Bool} (h : W.heap[q]? = some (.cells #[.int .i64 kd, .bool t, .bool i] 28 (0, 0))) : (W.setCell ⟨q, 2, none⟩ (.bool true)).heap[q]? = some (.cells #[.int .i64 kd, .bool t, .bool true] 28 (0, 0)) := by
  rw [heap_setCell_same W q 2 _ 28 _ h]
  rfl
theorem kinds_fit : nameT.all (fun t => decide (t.1 ≠ 0)) = true := by decide +kernel
/-- A row's first name is found as that row's; no slash stands in it. -/
theorem row_name {t : Int × ByteArray} (h : t ∈ nameT) : findI (nameL t.1) = t.1 ∧ t.1 ≠ 0 ∧ noSl (nameL t.1) := by
  have h1 := List.all_eq_true.1 find_names t h
  simp only [Bool.and_eq_true, decide_eq_true_eq] at h1
  exact ⟨h1.1, of_decide_eq_true (List.all_eq_true.1 kinds_fit t h), no_all h1.2⟩
set_option maxRecDepth 100000 in
set_option maxHeartbeats 3200000 in
theorem flags_calls (kind : Int) (A : Option Addr) (n cap : Nat) (xs : List Int) (w : World) (hw : MaxAt w) (hx : SlI .i64 w A n cap xs) : Calls Tryd.prog 6 #[.int .i64 kind, .slice A n cap] w fun e w' => e = .returned (.bool true) ∧ Below w.heap.size w w' := by
  have HWK := Lib.hid works_calls
  have HW := Lib.hid hw
  have HX := Lib.hid hx
  clear hw hx
  go_enter Tryd.func6, Tryd.ntmps6
  go_wp2_with fail
  refine (HWK.out _ HW.out).mono ?_
  rintro e w1 ⟨rfl, hb⟩
  have B1 := Lib.hid hb
  clear hb
  go_wp2_with fail
  refine (kinds_calls _).mono ?_
  rintro e w2 ⟨gk, capk, hg, rfl, ho, hb⟩
  have B2 := Lib.hid (below_then B1.out B1.out.size hb)
  have K2 := Lib.hid (Joins.ownsRow_le ho (Nat.zero_le _))
  clear hb ho hg
  obtain ⟨j, hj, hjk⟩ := kind_at kind
  have hj0 : (0 : Int) ≤ (j : Int) := by omega
  have hj1 : (j : Int) < 56 := by omega
  obtain ⟨⟨kd, nm⟩, ht⟩ : ∃ t, nameT[j]? = some t := ⟨_, List.getElem?_eq_getElem (show j < nameT.length by rw [nameT_len]; omega)⟩
  have hkl : kindsL[j]? = some kd := by unfold kindsL; rw [List.getElem?_map, ht]; rfl
  have c1 := row_cells K2.out hkl
  have HT := Lib.hid ht
  have HNM := Lib.hid (name_calls kd)
  obtain ⟨r1, r2, r3⟩ := row_name (List.mem_of_getElem? ht)
  obtain ⟨N, hN⟩ : ∃ N, nameL kd = N := ⟨_, rfl⟩
  have HRN := Lib.hid (show findI N = kd ∧ kd ≠ 0 ∧ noSl N ∧ N.size ≤ 60 by rw [← hN]; exact ⟨r1, r2, r3, name_len kd⟩)
  clear r1 r2 r3
  rw [hN] at HNM
  have HNN := Lib.hid hN
  clear ht hkl hN
  go_wp2_with fail
  refine (HNM.out _ (HW.out.below B2.out)).mono ?_
  rintro e w3 ⟨rfl, hb⟩
  have B3 := Lib.hid (below_then B2.out B2.out.size hb)
  clear hb c1
  go_wp2_with fail
  have hn0 : 0 ≤ (n : Int) := by omega
  obtain ⟨M, hM⟩ : ∃ M, min n 4 = M := ⟨_, rfl⟩
  have HI0 := Lib.hid (show Asked N N 0 false false [] from ⟨rfl, by have := HRN.out; omega, by simp, rfl⟩)
  have HR0 := Lib.hid (heap_alloc_new w3 (.cells #[.int .i64 kd, .bool false, .bool false] 28))
  have BL0 := Lib.hid (B3.out.alloc B3.out.size (.cells #[.int .i64 kd, .bool false, .bool false] 28))
  have hq3 : w.heap.size ≤ w3.heap.size := B3.out.size
  go_loopg [6, 8] M (fun gg vs vi wr => ∃ (k : Nat) (S : ByteArray) (t i : Bool) (ps : List ByteArray), k + gg = M ∧ vi = .int .i64 (k : Int) ∧ vs = .string S ∧ Hid (Asked N S k t i ps) ∧ Hid (wr.heap[w3.heap.size]? = some (.cells #[.int .i64 kd, .bool t, .bool i] 28 (0, 0))) ∧ Hid (Below w.heap.size w wr))
  case atStart => exact ⟨0, N, false, false, [], by omega, rfl, rfl, HI0, HR0, BL0⟩
  case round =>
    obtain ⟨k, S, t, i, ps, hk, rfl, rfl, HA, HR, HB⟩ := hrel
    cases gk with
    | zero =>
      have hsz : S.size ≤ 100 := by have := HA.out.sz; omega
      have hfin : (64 < S.size ∧ parseL S = ⟨0, false, false, 8⟩) ∨ (¬ 64 < S.size ∧ parseL S = ⟨kd, t, i, 0⟩) := by
        by_cases h : 64 < S.size
        · exact .inl ⟨h, by unfold parseL; rw [if_pos h]⟩
        · exact .inr ⟨h, HA.out.parse h HRN.out.2.2.1 HRN.out.1 HRN.out.2.1⟩
      have HPA := Lib.hid (parse_any S)
      have hend : ¬ ((k : Int) < (n : Int)) ∨ ((k : Int) < (n : Int) ∧ ¬ ((k : Int) < 4)) := by omega
      have hr3 := Lib.hid (Array.getElem?_eq_some_iff.1 HR.out).1
      rcases hfin with ⟨hl, hp⟩ | ⟨hl, hp⟩
      · rw [hp] at HPA
        unfold wishV wishC at HPA
        have hl2 : (64 : Int) < (S.size : Int) := by omega
        clear hp hl
        rcases hend with he | ⟨he, he2⟩
        · have hd := decide_eq_false he
          go_wp2_with fail
          refine (HPA.out _ (HW.out.below HB.out)).mono ?_
          rintro e w4 ⟨rfl, hb⟩
          have B4 := Lib.hid (below_then HB.out HB.out.size hb)
          clear hb
          go_wp2_with fail
          go_ret
          exact ⟨rfl, B4.out.alloc B4.out.size _⟩
        · have hd := decide_eq_false he2
          go_wp2_with fail
          refine (HPA.out _ (HW.out.below HB.out)).mono ?_
          rintro e w4 ⟨rfl, hb⟩
          have B4 := Lib.hid (below_then HB.out HB.out.size hb)
          clear hb
          go_wp2_with fail
          go_ret
          exact ⟨rfl, B4.out.alloc B4.out.size _⟩
      · rw [hp] at HPA
        unfold wishV wishC at HPA
        have hl2 : ¬ (64 : Int) < (S.size : Int) := by omega
        clear hp hl
        rcases hend with he | ⟨he, he2⟩
        · have hd := decide_eq_false he
          go_wp2_with fail
          refine (HPA.out _ (HW.out.below HB.out)).mono ?_
          rintro e w4 ⟨rfl, hb⟩
          have B4 := Lib.hid (below_then HB.out HB.out.size hb)
          have R4 := Lib.hid ((hb.block _ hr3.out).trans HR.out)
          have hz4 : w3.heap.size < w4.heap.size := (Array.getElem?_eq_some_iff.1 R4.out).1
          clear hb
          obtain ⟨y0, y1, y2, g0, g1, g2⟩ := three_at ((heap_alloc_old w4 (.cells #[.int .i64 kd, .bool t, .bool i] 28) hz4).trans R4.out)
          go_wp2_with fail
          go_ret
          exact ⟨rfl, B4.out.alloc B4.out.size _⟩
        · have hd := decide_eq_false he2
          go_wp2_with fail
          refine (HPA.out _ (HW.out.below HB.out)).mono ?_
          rintro e w4 ⟨rfl, hb⟩
          have B4 := Lib.hid (below_then HB.out HB.out.size hb)
          have R4 := Lib.hid ((hb.block _ hr3.out).trans HR.out)
          have hz4 : w3.heap.size < w4.heap.size := (Array.getElem?_eq_some_iff.1 R4.out).1
          clear hb
          obtain ⟨y0, y1, y2, g0, g1, g2⟩ := three_at ((heap_alloc_old w4 (.cells #[.int .i64 kd, .bool t, .bool i] 28) hz4).trans R4.out)
          go_wp2_with fail
          go_ret
          exact ⟨rfl, B4.out.alloc B4.out.size _⟩
    | succ gg =>
      have hkz : (k : Int) < (n : Int) := by omega
      have hk4 : (k : Int) < 4 := by omega
      have hk0 : (0 : Int) ≤ (k : Int) := by omega
      have HX2 := HX.out.below HB.out
      obtain ⟨e1, e2, e3, e4⟩ := HX2
      rcases e4 with ⟨rfl, rfl, rfl⟩ | ⟨ad, rfl, e6⟩
      · omega
      have c1 := e6 k (by omega)
      obtain ⟨x, hx⟩ : ∃ x, xs.getD k 0 = x := ⟨_, rfl⟩
      rw [hx] at c1
      have hsz : S.size ≤ 100 := by have := HA.out.sz; omega
      have hs1 : ¬ (9223372036854775807 < S.size + 10) := by omega
      have hs2 : ¬ (9223372036854775807 < S.size + 8) := by omega
      have hs3 : ¬ (9223372036854775807 < S.size + 2) := by omega
      obtain ⟨y0, y1, y2, g0, g1, g2⟩ := three_at HR.out
      clear hx e1 e2 e3 e6
      go_wp2_with fail
      · go_roundg gg
        case measure => omega
        case rel => exact ⟨k + 1, _, true, i, ps ++ [trS], by omega, by go_num, rfl, Lib.hid (HA.out.step trS ⟨#[47, 47, 84, 82, 65, 78, 83, 76, 73, 84]⟩ rfl (by decide) (no_all (by decide)) (wish_tr t i)), Lib.hid (flag_tr HR.out), Lib.hid (HB.out.setCell hq3 _)⟩
      · go_roundg gg
        case measure => omega
        case rel => exact ⟨k + 1, _, t, true, ps ++ [igL], by omega, by go_num, rfl, Lib.hid (HA.out.step igL ⟨#[47, 47, 105, 103, 110, 111, 114, 101]⟩ rfl (by decide) (no_all (by decide)) (wish_igl t i)), Lib.hid (flag_ig HR.out), Lib.hid (HB.out.setCell hq3 _)⟩
      · go_roundg gg
        case measure => omega
        case rel => exact ⟨k + 1, _, true, i, ps ++ [trL], by omega, by go_num, rfl, Lib.hid (HA.out.step trL ⟨#[47, 47, 84, 114, 97, 110, 115, 108, 105, 116]⟩ rfl (by decide) (no_all (by decide)) (wish_trl t i)), Lib.hid (flag_tr HR.out), Lib.hid (HB.out.setCell hq3 _)⟩
      · go_roundg gg
        case measure => omega
        case rel => exact ⟨k + 1, _, t, true, ps ++ [igS], by omega, by go_num, rfl, Lib.hid (HA.out.step igS ⟨#[47, 47, 73, 71, 78, 79, 82, 69]⟩ rfl (by decide) (no_all (by decide)) (wish_ig t i)), Lib.hid (flag_ig HR.out), Lib.hid (HB.out.setCell hq3 _)⟩
      · go_roundg gg
        case measure => omega
        case rel => exact ⟨k + 1, _, t, i, ps ++ [noB], by omega, by go_num, rfl, Lib.hid (HA.out.step noB ⟨#[47, 47]⟩ rfl (by decide) (no_all (by decide)) (wish_no t i)), Lib.hid HR.out, Lib.hid HB.out⟩
end Go.Proofs.YtkbkkdeaegidjaaDoor
