/- The reference's Parse. -/
import Derived.Test.YtkbkkdeaegidjaaDoorNW
import Derived.Test.YtkbkkdeaegidjaaDoorNS
namespace Go.Proofs.YtkbkkdeaegidjaaDoor
open Go.RowKit
def trS : ByteArray := ⟨#[84, 82, 65, 78, 83, 76, 73, 84]⟩
def igS : ByteArray := ⟨#[73, 71, 78, 79, 82, 69]⟩
/-- What is wished behind a name. -/
def wishF : List ByteArray → Bool → Bool → Option (Bool × Bool)
  | [], t, i => some (t, i)
  | p :: r, t, i => if largeB p = trS then wishF r true i else if largeB p = igS then wishF r t true else if (largeB p).size = 0 then wishF r t i else none
structure Wish where
  kind : Int
  tr : Bool
  ig : Bool
  err : Int
def parseL (s : ByteArray) : Wish := if 64 < s.size then ⟨0, false, false, 8⟩ else match splitSl s with
  | [] => ⟨0, false, false, 20⟩
  | p :: r => if findI p = 0 then ⟨0, false, false, 20⟩ else match wishF r false false with
    | some (t, i) => ⟨findI p, t, i, 0⟩
    | none => ⟨0, false, false, 3⟩
def wishC (w : Wish) : Array Value := #[.int .i64 w.kind, .bool w.tr, .bool w.ig]
def wishV (w : Wish) : Value := .tuple #[.agg (wishC w), .int .i64 w.err]
theorem info46 : (Tryd.prog.info? 46).map (·.size) = some 3 := by kernel_rfl
theorem rparse_end {W : World} {tmps : Array Value} {q : Nat} {k : Wish} (h2 : tmps.getD 2 undef = .pointer (some ⟨q, 0, none⟩)) (h3 : tmps.getD 3 undef = .int .i64 k.err)
    (c2 : W.heap[q]? = some (.cells (wishC k) 46 (0, 0))) : (results Tryd.f20 tmps).run Tryd.prog W = .ok (wishV k) W := by
  have h2' : tmps[2]?.getD undef = .pointer (some ⟨q, 0, none⟩) := by simpa using h2
  have h3' : tmps[3]?.getD undef = .int .i64 k.err := by simpa using h3
  have d0 : W.cell? ⟨q, 0, none⟩ = some (.int .i64 k.kind) := by rw [cell_of_row _ _ _ _ _ _ c2]; rfl
  have d1 : W.cell? ⟨q, 1, none⟩ = some (.bool k.tr) := by rw [cell_of_row _ _ _ _ _ _ c2]; rfl
  have d2 : W.cell? ⟨q, 2, none⟩ = some (.bool k.ig) := by rw [cell_of_row _ _ _ _ _ _ c2]; rfl
  simp [results, Tryd.f20, go_sem, h2', h3', asAddr, d0, d1, d2, wishV, wishC]
set_option maxRecDepth 100000 in
set_option maxHeartbeats 3200000 in
theorem rparse_long (s : ByteArray) (hs : 64 < s.size) (w : World) : Calls Tryd.prog 20 #[.string s] w fun e w' => e = .returned (wishV (parseL s)) ∧ Below w.heap.size w w' := by
  have HP := Lib.hid (show parseL s = ⟨0, false, false, 8⟩ by unfold parseL; rw [if_pos hs])
  have hq : (64 : Int) < (s.size : Int) := by omega
  go_enter Tryd.func20, Tryd.ntmps20
  go_wp2_with fail
  rw [HP.out]
  exact bodyPost_ret (rparse_end (k := ⟨0, false, false, 8⟩) rfl rfl (heap_alloc_new _ _)) rfl ⟨rfl, (Below.refl _ _).alloc (Nat.le_refl _) _⟩
theorem splitB_sizes (sep : ByteArray) : ∀ (k : Nat) (s : ByteArray), ∀ c ∈ Lib.splitB sep 0 k s, c.size ≤ s.size
  | 0, s, c, h => by
    have : c = s := by simpa [Lib.splitB] using h
    rw [this]
    exact Nat.le_refl _
  | k + 1, s, c, h => by
    rcases Lib.indexB_cases s sep with hi | ⟨i, hi, hi2⟩
    · rw [Lib.splitB_miss _ _ _ _ hi] at h
      simp at h
      rw [h]
      exact Nat.le_refl _
    · rw [Lib.splitB_hit _ _ _ _ _ hi] at h
      rcases List.mem_cons.1 h with h | h
      · rw [h, ByteArray.size_extract]
        omega
      · have := splitB_sizes sep k _ c h
        rw [ByteArray.size_extract] at this
        omega
theorem splitSl_ne (s : ByteArray) : splitSl s ≠ [] := by
  unfold splitSl
  cases Lib.countB s slS with
  | zero => simp [Lib.splitB]
  | succ k =>
    rcases Lib.indexB_cases s slS with hi | ⟨i, hi, hi2⟩
    · rw [Lib.splitB_miss _ _ _ _ hi]
      simp
    · rw [Lib.splitB_hit _ _ _ _ _ hi]
      simp
/-- A list of texts lies in a row. -/
def Lst (W : World) (g : Nat) (l : List ByteArray) : Prop := ∃ cs : Array Value, W.heap[g]? = some (.cells cs 9 (0, 0)) ∧ ∀ (j : Nat) (c : ByteArray), l[j]? = some c → cs[j]? = some (Value.string c)
theorem Lst.cell {W : World} {g : Nat} {l : List ByteArray} (h : Lst W g l) {j : Nat} {c : ByteArray} (hj : l[j]? = some c) : W.cell? ⟨g, j, none⟩ = some (.string c) := by
  obtain ⟨cs, h1, h2⟩ := h
  rw [cell_of_row _ _ _ _ _ _ h1, h2 j c hj]
theorem Lst.of_eq {W X : World} {g : Nat} {l : List ByteArray} (h : Lst W g l) (he : X.heap[g]? = W.heap[g]?) : Lst X g l := by
  obtain ⟨cs, h1, h2⟩ := h
  exact ⟨cs, he.trans h1, h2⟩
theorem Lst.lt {W : World} {g : Nat} {l : List ByteArray} (h : Lst W g l) : g < W.heap.size := by
  obtain ⟨cs, h1, h2⟩ := h
  exact (Array.getElem?_eq_some_iff.1 h1).1
theorem lst_of_own {W : World} {B g cap : Nat} {l : List ByteArray} (h : W.ownsRow B 9 1 (.slice (some ⟨g, 0, none⟩) l.length cap) l.length (l.map Value.string)) : Lst W g l ∧ B ≤ g := by
  rcases h.2 with ⟨h0, _⟩ | ⟨g', cap', cur, hv, h2, h3, h4, h5, h6, h7⟩
  · cases h0
  · injection hv with e1 e2 e3
    injection e1 with e1
    injection e1 with e1
    subst e1
    refine ⟨⟨cur, h3, fun j c hj => ?_⟩, h2⟩
    have h8 : (cur.toList.take (l.length * 1))[j]? = some (.string c) := by rw [h7, List.getElem?_map, hj]; rfl
    rw [List.getElem?_take] at h8
    split at h8
    · simpa using h8
    · cases h8
theorem three_at {W : World} {q : Nat} {a b c : Value} {T : TypeId} (h : W.heap[q]? = some (.cells #[a, b, c] T (0, 0))) : W.cell? ⟨q, 0, none⟩ = some a ∧ W.cell? ⟨q, 1, none⟩ = some b ∧ W.cell? ⟨q, 2, none⟩ = some c ∧ W.frozen? ⟨q, 0, none⟩ = false ∧ W.frozen? ⟨q, 1, none⟩ = false ∧ W.frozen? ⟨q, 2, none⟩ = false := by
  refine ⟨?_, ?_, ?_, frozen_of_row W q 0 _ T h, frozen_of_row W q 1 _ T h, frozen_of_row W q 2 _ T h⟩ <;> (rw [cell_of_row _ _ _ _ _ _ h]; rfl)
theorem three_set {W : World} {q : Nat} {a b c x y z : Value} {T : TypeId} (h : W.heap[q]? = some (.cells #[a, b, c] T (0, 0))) : (((W.setCell ⟨q, 0, none⟩ x).setCell ⟨q, 1, none⟩ y).setCell ⟨q, 2, none⟩ z).heap[q]? = some (.cells #[x, y, z] T (0, 0)) := by
  rw [heap_setCell_same _ q 2 _ T _ (heap_setCell_same _ q 1 _ T _ (heap_setCell_same W q 0 _ T _ h))]
  rfl
/-- Between two rounds of Parse. -/
structure PsInv (w W : World) (T : TypeId) (q p g : Nat) (l : List ByteArray) (kd : Int) (t i : Bool) : Prop where
  bl : Below w.heap.size w W
  c2 : W.heap[q]? = some (.cells #[.int .i64 0, .bool false, .bool false] T (0, 0))
  c5 : W.heap[p]? = some (.cells #[.int .i64 kd, .bool t, .bool i] T (0, 0))
  ls : Lst W g l
  o1 : w.heap.size ≤ q
  o2 : w.heap.size ≤ p
  n1 : q ≠ p
  n2 : g ≠ p
theorem PsInv.below {w W X : World} {T : TypeId} {q p g : Nat} {l : List ByteArray} {kd : Int} {t i : Bool} (h : PsInv w W T q p g l kd t i) (hb : Below W.heap.size W X) : PsInv w X T q p g l kd t i :=
  ⟨below_then h.bl h.bl.size hb, (hb.block _ (Array.getElem?_eq_some_iff.1 h.c2).1).trans h.c2, (hb.block _ (Array.getElem?_eq_some_iff.1 h.c5).1).trans h.c5, h.ls.of_eq (hb.block _ h.ls.lt), h.o1, h.o2, h.n1, h.n2⟩
theorem PsInv.tr {w W : World} {T : TypeId} {q p g : Nat} {l : List ByteArray} {kd : Int} {t i : Bool} (h : PsInv w W T q p g l kd t i) : PsInv w (W.setCell ⟨p, 1, none⟩ (.bool true)) T q p g l kd true i :=
  ⟨h.bl.setCell h.o2 _, (heap_setCell_other _ _ _ _ h.n1).trans h.c2, by rw [heap_setCell_same W p 1 _ T _ h.c5]; rfl, h.ls.of_eq (heap_setCell_other _ _ _ _ h.n2), h.o1, h.o2, h.n1, h.n2⟩
theorem PsInv.ig {w W : World} {T : TypeId} {q p g : Nat} {l : List ByteArray} {kd : Int} {t i : Bool} (h : PsInv w W T q p g l kd t i) : PsInv w (W.setCell ⟨p, 2, none⟩ (.bool true)) T q p g l kd t true :=
  ⟨h.bl.setCell h.o2 _, (heap_setCell_other _ _ _ _ h.n1).trans h.c2, by rw [heap_setCell_same W p 2 _ T _ h.c5]; rfl, h.ls.of_eq (heap_setCell_other _ _ _ _ h.n2), h.o1, h.o2, h.n1, h.n2⟩
theorem PsInv.cells {w W : World} {T : TypeId} {q p g : Nat} {l : List ByteArray} {kd : Int} {t i : Bool} (h : PsInv w W T q p g l kd t i) : W.cell? ⟨p, 0, none⟩ = some (.int .i64 kd) ∧ W.cell? ⟨p, 1, none⟩ = some (.bool t) ∧ W.cell? ⟨p, 2, none⟩ = some (.bool i) ∧ W.frozen? ⟨p, 1, none⟩ = false ∧ W.frozen? ⟨p, 2, none⟩ = false := by
  refine ⟨?_, ?_, ?_, frozen_of_row W p 1 _ T h.c5, frozen_of_row W p 2 _ T h.c5⟩ <;> (rw [cell_of_row _ _ _ _ _ _ h.c5]; rfl)
theorem eq_lists {a b : ByteArray} {l : List UInt8} (h : a = b) (hl : b.data.toList = l) : (a.toList == l) = true := by
  rw [h, Lib.toList_data, hl]
  simp
theorem ne_lists {a b : ByteArray} {l : List UInt8} (h : a ≠ b) (hl : b.data.toList = l) : (a.toList == l) = false := by
  rw [beq_eq_false_iff_ne]
  intro e
  rw [Lib.toList_data] at e
  exact h (ext_list (e.trans hl.symm))
set_option maxRecDepth 100000 in
set_option maxHeartbeats 3200000 in
theorem rparse_short (s : ByteArray) (hs : s.size ≤ 64) (w : World) : Calls Tryd.prog 20 #[.string s] w fun e w' => e = .returned (wishV (parseL s)) ∧ Below w.heap.size w w' := by
  have hq : ¬ (64 : Int) < (s.size : Int) := by omega
  have hq2 : decide ((64 : Int) < (s.size : Int)) = false := decide_eq_false hq
  have HPS := Lib.hid (parts_calls s hs)
  obtain ⟨p0, r, hl⟩ := len_pos (splitSl_ne s)
  have hsz : ∀ c ∈ p0 :: r, c.size ≤ 64 := fun c hc => by
    rw [← hl] at hc
    have := splitB_sizes _ _ _ c hc
    omega
  have HZ := Lib.hid hsz
  have HFD := Lib.hid (find_calls p0 (by have := hsz p0 (List.mem_cons_self ..); omega))
  have HP : Hid (parseL s = if findI p0 = 0 then ⟨0, false, false, 20⟩ else match wishF r false false with | some (t, i) => ⟨findI p0, t, i, 0⟩ | none => ⟨0, false, false, 3⟩) := Lib.hid (by unfold parseL; rw [if_neg (by omega), hl])
  rw [hl] at HPS
  clear hsz hl
  go_enter Tryd.func20, Tryd.ntmps20
  go_wp2_with fail
  refine (HPS.out _).mono ?_
  rintro e w1 ⟨v, rfl, ho, hb⟩
  obtain ⟨g, cap, rfl⟩ := Joins.ownsRow_form ho (by simp)
  obtain ⟨hls, hg⟩ := lst_of_own ho
  have LS := Lib.hid hls
  have B1 := Lib.hid (below_then ((Below.refl _ w).alloc (Nat.le_refl _) (.cells #[.int .i64 0, .bool false, .bool false] 46)) (by simp) hb)
  have R2 := Lib.hid ((hb.block w.heap.size (by simp)).trans (heap_alloc_new w (.cells #[.int .i64 0, .bool false, .bool false] 46)))
  have hgw : w.heap.size < g := by simp at hg; omega
  have c0 := hls.cell (j := 0) (c := p0) rfl
  have hlen : (p0 :: r).length ≤ maxLen := by
    rcases ho.2 with ⟨h0, _⟩ | ⟨_, _, _, _, _, _, h4, h5, _⟩
    · cases h0
    · omega
  obtain ⟨n, hn⟩ : ∃ n, (p0 :: r).length = n := ⟨_, rfl⟩
  have hn1 : 0 < n := by rw [← hn]; simp
  rw [hn] at hlen ⊢
  have HN := Lib.hid hn
  clear ho hb hls hn
  go_wp2_with fail
  refine (HFD.out _).mono ?_
  rintro e w2 ⟨rfl, hb⟩
  have LS2 := Lib.hid (LS.out.of_eq (hb.block g LS.out.lt))
  have C2 := Lib.hid ((hb.block w.heap.size (Array.getElem?_eq_some_iff.1 R2.out).1).trans R2.out)
  have B2 := Lib.hid (below_then B1.out B1.out.size hb)
  have hsz2 : w.heap.size ≤ w2.heap.size := B2.out.size
  have hwl : w.heap.size < w2.heap.size := (Array.getElem?_eq_some_iff.1 C2.out).1
  have hgl : g < w2.heap.size := LS2.out.lt
  clear hb LS R2 B1 c0
  obtain ⟨kd, hkd⟩ : ∃ kd, findI p0 = kd := ⟨_, rfl⟩
  rw [hkd] at HP ⊢
  clear hkd
  by_cases hk : kd = 0
  · have HP2 := Lib.hid (show parseL s = ⟨0, false, false, 20⟩ by rw [HP.out, if_pos hk])
    subst hk
    obtain ⟨x0, x1, x2, f0, f1, f2⟩ := three_at C2.out
    go_wp2_with fail
    rw [HP2.out]
    exact bodyPost_ret (rparse_end (k := ⟨0, false, false, 20⟩) rfl rfl ((heap_alloc_old _ _ (by simp; omega)).trans (three_set C2.out))) rfl ⟨rfl, ((((B2.out.setCell (p := ⟨w.heap.size, 0, none⟩) (Nat.le_refl _) _).setCell (p := ⟨w.heap.size, 1, none⟩) (Nat.le_refl _) _).setCell (p := ⟨w.heap.size, 2, none⟩) (Nat.le_refl _) _).alloc (by simp; omega) _)⟩
  · have HP2 := Lib.hid (show parseL s = match wishF r false false with | some (t, i) => ⟨kd, t, i, 0⟩ | none => ⟨0, false, false, 3⟩ by rw [HP.out, if_neg hk])
    have hk1 : (kd == 0) = false := beq_eq_false_iff_ne.2 hk
    clear hk HP
    have PI := Lib.hid (show PsInv w (w2.alloc (.cells #[.int .i64 kd, .bool false, .bool false] 46)) 46 w.heap.size w2.heap.size g (p0 :: r) kd false false from ⟨B2.out.alloc hsz2 _, (heap_alloc_old _ _ hwl).trans C2.out, heap_alloc_new _ _, LS2.out.of_eq (heap_alloc_old _ _ hgl), Nat.le_refl _, hsz2, by omega, by omega⟩)
    go_wp2_with fail
    go_loopg [6] (n - 1) (fun gg vi wr => ∃ (k : Nat) (t i : Bool), k + gg = n ∧ 1 ≤ k ∧ vi = .int .i64 (k : Int) ∧ Hid (PsInv w wr 46 w.heap.size w2.heap.size g (p0 :: r) kd t i) ∧ Hid (wishF r false false = wishF ((p0 :: r).drop k) t i))
    case atStart => exact ⟨1, false, false, by omega, by omega, rfl, PI, Lib.hid rfl⟩
    case round =>
      obtain ⟨k, t, i, hk, hk1, rfl, HI, HW⟩ := hrel
      cases gk with
      | zero =>
        have hkz : ¬ ((k : Int) < (n : Int)) := by omega
        have HF := Lib.hid (show parseL s = ⟨kd, t, i, 0⟩ by rw [HP2.out, HW.out, List.drop_eq_nil_of_le (by rw [HN.out]; omega)]; rfl)
        obtain ⟨x0, x1, x2, f0, f1, f2⟩ := three_at HI.out.c2
        obtain ⟨y0, y1, y2, g0, g1, g2⟩ := three_at HI.out.c5
        go_wp2_with fail
        rw [HF.out]
        exact bodyPost_ret (rparse_end (k := ⟨kd, t, i, 0⟩) rfl rfl (three_set HI.out.c2)) rfl ⟨rfl, (((HI.out.bl.setCell (p := ⟨w.heap.size, 0, none⟩) (Nat.le_refl _) _).setCell (p := ⟨w.heap.size, 1, none⟩) (Nat.le_refl _) _).setCell (p := ⟨w.heap.size, 2, none⟩) (Nat.le_refl _) _)⟩
      | succ gg =>
        have hkz : (k : Int) < (n : Int) := by omega
        have hk0 : (0 : Int) ≤ (k : Int) := by omega
        obtain ⟨c, hc⟩ : ∃ c, (p0 :: r)[k]? = some c := ⟨_, List.getElem?_eq_getElem (by rw [HN.out]; omega)⟩
        have c1 := HI.out.ls.cell hc
        have HLG := Lib.hid (rlarge_calls c (by have := HZ.out c (List.mem_of_getElem? hc); omega))
        have HW2 := Lib.hid (show wishF r false false = wishF (c :: (p0 :: r).drop (k + 1)) t i by rw [HW.out, Lib.drop_at hc])
        have hkw : wrap64 ((k : Int) + 1) = (k : Int) + 1 := by unfold maxLen at hlen; unfold wrap64; omega
        clear hc
        obtain ⟨L, hL⟩ : ∃ L, largeB c = L := ⟨_, rfl⟩
        have HLL := Lib.hid hL
        rw [hL] at HLG
        clear hL
        by_cases h1 : L = trS
        · have q1 : (L.toList == [84, 82, 65, 78, 83, 76, 73, 84]) = true := eq_lists h1 rfl
          have HX := Lib.hid (show wishF r false false = wishF ((p0 :: r).drop (k + 1)) true i by rw [HW2.out, wishF, HLL.out, if_pos h1])
          clear h1
          go_wp2_with fail
          refine (HLG.out _).mono ?_
          rintro e w4 ⟨rfl, hb⟩
          have I4 := Lib.hid (HI.out.below hb)
          obtain ⟨y0, y1, y2, g0, g1, g2⟩ := three_at I4.out.c5
          clear hb
          go_wp2_with fail
          go_roundg gg
          case measure => omega
          case rel => exact ⟨k + 1, true, i, by omega, by omega, by go_num, Lib.hid I4.out.tr, HX⟩
        · have q1 : (L.toList == [84, 82, 65, 78, 83, 76, 73, 84]) = false := ne_lists h1 rfl
          by_cases h2 : L = igS
          · have q2 : (L.toList == [73, 71, 78, 79, 82, 69]) = true := eq_lists h2 rfl
            have HX := Lib.hid (show wishF r false false = wishF ((p0 :: r).drop (k + 1)) t true by rw [HW2.out, wishF, HLL.out, if_neg h1, if_pos h2])
            clear h1 h2
            go_wp2_with fail
            refine (HLG.out _).mono ?_
            rintro e w4 ⟨rfl, hb⟩
            have I4 := Lib.hid (HI.out.below hb)
            obtain ⟨y0, y1, y2, g0, g1, g2⟩ := three_at I4.out.c5
            clear hb
            go_wp2_with fail
            go_roundg gg
            case measure => omega
            case rel => exact ⟨k + 1, t, true, by omega, by omega, by go_num, Lib.hid I4.out.ig, HX⟩
          · have q2 : (L.toList == [73, 71, 78, 79, 82, 69]) = false := ne_lists h2 rfl
            by_cases h3 : L.size = 0
            · have q3 : L.toList.isEmpty = true := by rw [empty_size]; simp [h3]
              have HX := Lib.hid (show wishF r false false = wishF ((p0 :: r).drop (k + 1)) t i by rw [HW2.out, wishF, HLL.out, if_neg h1, if_neg h2, if_pos h3])
              clear h1 h2 h3
              go_wp2_with fail
              refine (HLG.out _).mono ?_
              rintro e w4 ⟨rfl, hb⟩
              have I4 := Lib.hid (HI.out.below hb)
              clear hb
              go_wp2_with fail
              go_roundg gg
              case measure => omega
              case rel => exact ⟨k + 1, t, i, by omega, by omega, by go_num, I4, HX⟩
            · have q3 : L.toList.isEmpty = false := by rw [empty_size]; simp [h3]
              have HX := Lib.hid (show parseL s = ⟨0, false, false, 3⟩ by rw [HP2.out, HW2.out, wishF, HLL.out, if_neg h1, if_neg h2, if_neg h3])
              clear h1 h2 h3
              go_wp2_with fail
              refine (HLG.out _).mono ?_
              rintro e w4 ⟨rfl, hb⟩
              have I4 := Lib.hid (HI.out.below hb)
              obtain ⟨x0, x1, x2, f0, f1, f2⟩ := three_at I4.out.c2
              clear hb
              go_wp2_with fail
              rw [HX.out]
              exact bodyPost_ret (rparse_end (k := ⟨0, false, false, 3⟩) rfl rfl (three_set I4.out.c2)) rfl ⟨rfl, (((I4.out.bl.setCell (p := ⟨w.heap.size, 0, none⟩) (Nat.le_refl _) _).setCell (p := ⟨w.heap.size, 1, none⟩) (Nat.le_refl _) _).setCell (p := ⟨w.heap.size, 2, none⟩) (Nat.le_refl _) _)⟩
end Go.Proofs.YtkbkkdeaegidjaaDoor
