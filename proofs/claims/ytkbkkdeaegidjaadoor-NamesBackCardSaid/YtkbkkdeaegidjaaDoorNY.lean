/- The program's Parse. -/
import Derived.Test.YtkbkkdeaegidjaaDoorNX
import Derived.Test.YtkbkkdeaegidjaaDoorNU
namespace Go.Proofs.YtkbkkdeaegidjaaDoor
open Go.RowKit
theorem split_len : ∀ (n : Nat) (s : ByteArray), s.size ≤ n → (splitSl s).length = Lib.countB s slS + 1
  | n, s, hs => by
    unfold splitSl
    rcases Lib.indexB_cases s slS with hi | ⟨i, hi, hi2⟩
    · rw [Lib.splitB_miss _ _ _ _ hi, Lib.countB_miss s slS hi]
      rfl
    · have h2 : i + 2 ≤ s.size := hi2
      match n, hs with
      | 0, hs => omega
      | n + 1, hs =>
        rw [Lib.countB_hit s slS i (by decide) hi, Nat.add_comm 1, Lib.splitB_hit slS 0 _ s i hi, List.length_cons]
        have := split_len n (s.extract (i + slS.size) s.size) (by rw [ByteArray.size_extract]; show min s.size s.size - (i + 2) ≤ n; omega)
        unfold splitSl at this
        rw [this]
theorem count_le : ∀ (n : Nat) (s : ByteArray), s.size ≤ n → Lib.countB s slS ≤ s.size
  | n, s, hs => by
    rcases Lib.indexB_cases s slS with hi | ⟨i, hi, hi2⟩
    · rw [Lib.countB_miss s slS hi]
      omega
    · have h2 : i + 2 ≤ s.size := hi2
      match n, hs with
      | 0, hs => omega
      | n + 1, hs =>
        rw [Lib.countB_hit s slS i (by decide) hi]
        have h3 : (s.extract (i + slS.size) s.size).size = s.size - (i + 2) := by rw [ByteArray.size_extract]; show min s.size s.size - (i + 2) = _; omega
        have := count_le n (s.extract (i + slS.size) s.size) (by omega)
        omega
theorem info28 : (Tryd.prog.info? 28).map (·.size) = some 3 := by kernel_rfl
theorem parse_end {W : World} {tmps : Array Value} {q : Nat} {k : Wish} (h2 : tmps.getD 2 undef = .pointer (some ⟨q, 0, none⟩)) (h3 : tmps.getD 3 undef = .int .i64 k.err)
    (c2 : W.heap[q]? = some (.cells (wishC k) 28 (0, 0))) : (results Tryd.f10 tmps).run Tryd.prog W = .ok (wishV k) W := by
  have h2' : tmps[2]?.getD undef = .pointer (some ⟨q, 0, none⟩) := by simpa using h2
  have h3' : tmps[3]?.getD undef = .int .i64 k.err := by simpa using h3
  have d0 : W.cell? ⟨q, 0, none⟩ = some (.int .i64 k.kind) := by rw [cell_of_row _ _ _ _ _ _ c2]; rfl
  have d1 : W.cell? ⟨q, 1, none⟩ = some (.bool k.tr) := by rw [cell_of_row _ _ _ _ _ _ c2]; rfl
  have d2 : W.cell? ⟨q, 2, none⟩ = some (.bool k.ig) := by rw [cell_of_row _ _ _ _ _ _ c2]; rfl
  simp [results, Tryd.f10, go_sem, h2', h3', asAddr, d0, d1, d2, wishV, wishC]
set_option maxRecDepth 100000 in
set_option maxHeartbeats 3200000 in
theorem parse_long (s : ByteArray) (hs : 64 < s.size) (w : World) : Calls Tryd.prog 10 #[.string s] w fun e w' => e = .returned (wishV (parseL s)) ∧ Below w.heap.size w w' := by
  have HP := Lib.hid (show parseL s = ⟨0, false, false, 8⟩ by unfold parseL; rw [if_pos hs])
  have hq : (64 : Int) < (s.size : Int) := by omega
  go_enter Tryd.func10, Tryd.ntmps10
  go_wp2_with fail
  rw [HP.out]
  exact bodyPost_ret (parse_end (k := ⟨0, false, false, 8⟩) rfl rfl (heap_alloc_new _ _)) rfl ⟨rfl, (Below.refl _ _).alloc (Nat.le_refl _) _⟩
set_option maxRecDepth 100000 in
set_option maxHeartbeats 3200000 in
theorem parse_short (s : ByteArray) (hs : s.size ≤ 64) (w : World) (hw : MaxAt w) : Calls Tryd.prog 10 #[.string s] w fun e w' => e = .returned (wishV (parseL s)) ∧ Below w.heap.size w w' := by
  have hq : ¬ (64 : Int) < (s.size : Int) := by omega
  have hq2 : decide ((64 : Int) < (s.size : Int)) = false := decide_eq_false hq
  obtain ⟨p0, r, hl⟩ := len_pos (splitSl_ne s)
  have hsz : ∀ c ∈ p0 :: r, c.size ≤ 64 := fun c hc => by
    rw [← hl] at hc
    have := splitB_sizes _ _ _ c hc
    omega
  have HZ := Lib.hid hsz
  have HLK := Lib.hid (lookup_str p0 (by have := hsz p0 (List.mem_cons_self ..); omega))
  have HP : Hid (parseL s = if findI p0 = 0 then ⟨0, false, false, 20⟩ else match wishF r false false with | some (t, i) => ⟨findI p0, t, i, 0⟩ | none => ⟨0, false, false, 3⟩) := Lib.hid (by unfold parseL; rw [if_neg (by omega), hl]; rfl)
  have hcn : Lib.countB s slS + 1 = (p0 :: r).length := by rw [← hl, split_len _ s (Nat.le_refl _)]
  have hlen : (p0 :: r).length ≤ 1000 := by
    have := count_le _ s (Nat.le_refl _)
    omega
  have HSP := Lib.hid (fun (m : Int) (w : World) (hm : w.cell? ⟨0, 0, none⟩ = some (.int .i64 m)) => by
    have := Tryd.strings_Split s slS m w (by omega) hm (by decide)
    rw [show Lib.splitB slS 0 (Lib.countB s slS) s = p0 :: r from hl, hcn] at this
    exact this)
  obtain ⟨m, hm⟩ := (hw.below ((Below.refl _ w).alloc (Nat.le_refl _) (.cells #[.int .i64 0, .bool false, .bool false] 28)))
  clear hsz hl hw hcn
  go_enter Tryd.func10, Tryd.ntmps10
  go_wp2_with fail
  refine (HSP.out m _ hm).mono ?_
  rintro e w1 ⟨rfl, rfl⟩
  have LS : Lst ((w.alloc (.cells #[.int .i64 0, .bool false, .bool false] 28)).alloc (.cells ((p0 :: r).map Value.string).toArray 9)) (w.heap.size + 1) (p0 :: r) := ⟨_, heap_alloc2_new _ _ _, fun j c hj => by rw [List.getElem?_toArray, List.getElem?_map, hj]; rfl⟩
  have c0 := LS.cell (j := 0) (c := p0) rfl
  have R2 : ((w.alloc (.cells #[.int .i64 0, .bool false, .bool false] 28)).alloc (.cells ((p0 :: r).map Value.string).toArray 9)).heap[w.heap.size]? = some (.cells #[.int .i64 0, .bool false, .bool false] 28 (0, 0)) := heap_alloc2_old _ _ _
  have B1 : Below w.heap.size w ((w.alloc (.cells #[.int .i64 0, .bool false, .bool false] 28)).alloc (.cells ((p0 :: r).map Value.string).toArray 9)) := ((Below.refl _ w).alloc (Nat.le_refl _) _).alloc (by simp) _
  obtain ⟨n, hn⟩ : ∃ n, (p0 :: r).length = n := ⟨_, rfl⟩
  have hn1 : 0 < n := by rw [← hn]; simp
  obtain ⟨W1, hW1⟩ : ∃ W1, (w.alloc (.cells #[.int .i64 0, .bool false, .bool false] 28)).alloc (.cells ((p0 :: r).map Value.string).toArray 9) = W1 := ⟨_, rfl⟩
  rw [hn] at hlen ⊢
  rw [hW1] at LS c0 R2 B1 ⊢
  have HN := Lib.hid hn
  have HLS := Lib.hid LS
  have HR2 := Lib.hid R2
  have HB1 := Lib.hid B1
  clear hn hW1 LS R2 B1 hm
  go_wp2_with fail
  refine (HLK.out _).mono ?_
  rintro e w2 ⟨rfl, hb⟩
  have LS2 := Lib.hid (HLS.out.of_eq (hb.block (w.heap.size + 1) HLS.out.lt))
  have C2 := Lib.hid ((hb.block w.heap.size (Array.getElem?_eq_some_iff.1 HR2.out).1).trans HR2.out)
  have B2 := Lib.hid (below_then HB1.out HB1.out.size hb)
  have hsz2 : w.heap.size ≤ w2.heap.size := B2.out.size
  have hwl : w.heap.size < w2.heap.size := (Array.getElem?_eq_some_iff.1 C2.out).1
  have hgl : w.heap.size + 1 < w2.heap.size := LS2.out.lt
  clear hb HLS HR2 HB1 c0
  rcases found_parts p0 with ⟨kd, h1, h2, hk⟩ | ⟨h1, h2⟩
  · have HP2 := Lib.hid (show parseL s = match wishF r false false with | some (t, i) => ⟨kd, t, i, 0⟩ | none => ⟨0, false, false, 3⟩ by rw [HP.out, h2, if_neg hk])
    rw [h1]
    unfold twoV
    clear h1 h2 hk HP
    have PI := Lib.hid (show PsInv w (w2.alloc (.cells #[.int .i64 kd, .bool false, .bool false] 28)) 28 w.heap.size w2.heap.size (w.heap.size + 1) (p0 :: r) kd false false from ⟨B2.out.alloc hsz2 _, (heap_alloc_old _ _ hwl).trans C2.out, heap_alloc_new _ _, LS2.out.of_eq (heap_alloc_old _ _ hgl), Nat.le_refl _, hsz2, by omega, by omega⟩)
    have hn2 : (1 : Int) ≤ (n : Int) := by omega
    by_cases hone : n = 1
    · subst hone
      have HF := Lib.hid (show parseL s = ⟨kd, false, false, 0⟩ by
        have : r = [] := by have := HN.out; simpa using this
        rw [HP2.out, this]
        rfl)
      obtain ⟨x0, x1, x2, f0, f1, f2⟩ := three_at C2.out
      go_wp2_with fail
      refine wp_loop_rounds 1 ?_
      rw [rounds_succ]
      go_wp2_with fail
      rw [HF.out]
      exact bodyPost_ret (parse_end (k := ⟨kd, false, false, 0⟩) rfl rfl ((heap_alloc_old _ _ (by simp; omega)).trans (three_set C2.out))) rfl ⟨rfl, ((((B2.out.setCell (p := ⟨w.heap.size, 0, none⟩) (Nat.le_refl _) _).setCell (p := ⟨w.heap.size, 1, none⟩) (Nat.le_refl _) _).setCell (p := ⟨w.heap.size, 2, none⟩) (Nat.le_refl _) _).alloc (by simp; omega) _)⟩
    · have hn3 : ¬ n = 1 := hone
      go_wp2_with fail
      go_loopg [33] (n - 1) (fun gg vi wr => ∃ (k : Nat) (t i : Bool), k + gg = n - 1 ∧ vi = .int .i64 (k : Int) ∧ Hid (PsInv w wr 28 w.heap.size w2.heap.size (w.heap.size + 1) (p0 :: r) kd t i) ∧ Hid (wishF r false false = wishF ((p0 :: r).drop (1 + k)) t i))
      case atStart => exact ⟨0, false, false, by omega, rfl, PI, Lib.hid rfl⟩
      case round =>
        obtain ⟨k, t, i, hk, rfl, HI, HW⟩ := hrel
        cases gk with
        | zero =>
          have hkz : ¬ ((k : Int) < ((n - 1 : Nat) : Int)) := by omega
          have HF := Lib.hid (show parseL s = ⟨kd, t, i, 0⟩ by rw [HP2.out, HW.out, List.drop_eq_nil_of_le (by rw [HN.out]; omega)]; rfl)
          obtain ⟨x0, x1, x2, f0, f1, f2⟩ := three_at HI.out.c2
          obtain ⟨y0, y1, y2, g0, g1, g2⟩ := three_at HI.out.c5
          go_wp2_with fail
          rw [HF.out]
          exact bodyPost_ret (parse_end (k := ⟨kd, t, i, 0⟩) rfl rfl (three_set HI.out.c2)) rfl ⟨rfl, (((HI.out.bl.setCell (p := ⟨w.heap.size, 0, none⟩) (Nat.le_refl _) _).setCell (p := ⟨w.heap.size, 1, none⟩) (Nat.le_refl _) _).setCell (p := ⟨w.heap.size, 2, none⟩) (Nat.le_refl _) _)⟩
        | succ gg =>
          have hkz : (k : Int) < ((n - 1 : Nat) : Int) := by omega
          have hk0 : (0 : Int) ≤ (k : Int) := by omega
          obtain ⟨c, hc⟩ : ∃ c, (p0 :: r)[1 + k]? = some c := ⟨_, List.getElem?_eq_getElem (by rw [HN.out]; omega)⟩
          have c1 := HI.out.ls.cell hc
          have HLG := Lib.hid (large_calls c (by have := HZ.out c (List.mem_of_getElem? hc); omega))
          have HW2 := Lib.hid (show wishF r false false = wishF (c :: (p0 :: r).drop (1 + (k + 1))) t i by rw [HW.out, Lib.drop_at hc]; rfl)
          have hkw : wrap64 ((k : Int) + 1) = (k : Int) + 1 := by unfold wrap64; omega
          clear hc
          obtain ⟨L, hL⟩ : ∃ L, largeB c = L := ⟨_, rfl⟩
          have HLL := Lib.hid hL
          rw [hL] at HLG
          clear hL
          by_cases h1 : L = trS
          · have q1 : (L.toList == [84, 82, 65, 78, 83, 76, 73, 84]) = true := eq_lists h1 rfl
            have HX := Lib.hid (show wishF r false false = wishF ((p0 :: r).drop (1 + (k + 1))) true i by rw [HW2.out, wishF, HLL.out, if_pos h1])
            clear h1
            go_wp2_with fail
            refine (HLG.out _).mono ?_
            rintro e w4 ⟨rfl, hb⟩
            have I4 := Lib.hid (HI.out.below hb)
            obtain ⟨y0, y1, y2, g0, g1, g2⟩ := three_at I4.out.c5
            clear hb
            go_wp2_with fail
            go_roundg gg
            case measure => omega
            case rel => exact ⟨k + 1, true, i, by omega, by go_num, Lib.hid I4.out.tr, HX⟩
          · have q1 : (L.toList == [84, 82, 65, 78, 83, 76, 73, 84]) = false := ne_lists h1 rfl
            by_cases h2 : L = igS
            · have q2 : (L.toList == [73, 71, 78, 79, 82, 69]) = true := eq_lists h2 rfl
              have HX := Lib.hid (show wishF r false false = wishF ((p0 :: r).drop (1 + (k + 1))) t true by rw [HW2.out, wishF, HLL.out, if_neg h1, if_pos h2])
              clear h1 h2
              go_wp2_with fail
              refine (HLG.out _).mono ?_
              rintro e w4 ⟨rfl, hb⟩
              have I4 := Lib.hid (HI.out.below hb)
              obtain ⟨y0, y1, y2, g0, g1, g2⟩ := three_at I4.out.c5
              clear hb
              go_wp2_with fail
              go_roundg gg
              case measure => omega
              case rel => exact ⟨k + 1, t, true, by omega, by go_num, Lib.hid I4.out.ig, HX⟩
            · have q2 : (L.toList == [73, 71, 78, 79, 82, 69]) = false := ne_lists h2 rfl
              by_cases h3 : L.size = 0
              · have q3 : L.toList.isEmpty = true := by rw [empty_size]; simp [h3]
                have HX := Lib.hid (show wishF r false false = wishF ((p0 :: r).drop (1 + (k + 1))) t i by rw [HW2.out, wishF, HLL.out, if_neg h1, if_neg h2, if_pos h3])
                clear h1 h2 h3
                go_wp2_with fail
                refine (HLG.out _).mono ?_
                rintro e w4 ⟨rfl, hb⟩
                have I4 := Lib.hid (HI.out.below hb)
                clear hb
                go_wp2_with fail
                go_roundg gg
                case measure => omega
                case rel => exact ⟨k + 1, t, i, by omega, by go_num, I4, HX⟩
              · have q3 : L.toList.isEmpty = false := by rw [empty_size]; simp [h3]
                have HX := Lib.hid (show parseL s = ⟨0, false, false, 3⟩ by rw [HP2.out, HW2.out, wishF, HLL.out, if_neg h1, if_neg h2, if_neg h3])
                clear h1 h2 h3
                go_wp2_with fail
                refine (HLG.out _).mono ?_
                rintro e w4 ⟨rfl, hb⟩
                have I4 := Lib.hid (HI.out.below hb)
                obtain ⟨x0, x1, x2, f0, f1, f2⟩ := three_at I4.out.c2
                clear hb
                go_wp2_with fail
                rw [HX.out]
                exact bodyPost_ret (parse_end (k := ⟨0, false, false, 3⟩) rfl rfl (three_set I4.out.c2)) rfl ⟨rfl, (((I4.out.bl.setCell (p := ⟨w.heap.size, 0, none⟩) (Nat.le_refl _) _).setCell (p := ⟨w.heap.size, 1, none⟩) (Nat.le_refl _) _).setCell (p := ⟨w.heap.size, 2, none⟩) (Nat.le_refl _) _)⟩
  · have HP2 := Lib.hid (show parseL s = ⟨0, false, false, 20⟩ by rw [HP.out, if_pos h2])
    rw [h1]
    unfold twoV
    clear h1 h2 HP
    obtain ⟨x0, x1, x2, f0, f1, f2⟩ := three_at C2.out
    go_wp2_with fail
    rw [HP2.out]
    exact bodyPost_ret (parse_end (k := ⟨0, false, false, 20⟩) rfl rfl (three_set C2.out)) rfl ⟨rfl, (((B2.out.setCell (p := ⟨w.heap.size, 0, none⟩) (Nat.le_refl _) _).setCell (p := ⟨w.heap.size, 1, none⟩) (Nat.le_refl _) _).setCell (p := ⟨w.heap.size, 2, none⟩) (Nat.le_refl _) _)⟩
end Go.Proofs.YtkbkkdeaegidjaaDoor
