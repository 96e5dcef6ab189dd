/- The walk of NamesTells. -/
import Derived.Test.YtkbkkdeaegidjaaDoorNG
namespace Go.Proofs.YtkbkkdeaegidjaaDoor
open Go.RowKit
theorem row_at {w : World} {B g cap n : Nat} {xs : List Int} (h : w.ownsRow B 3 1 (.slice (some ⟨g, 0, none⟩) n cap) n (xs.map (Value.int .i64))) {j : Nat} {x : Int} (hj : xs[j]? = some x) : w.cell? ⟨g, j, none⟩ = some (.int .i64 x) := by
  have := h.cells (g := g) rfl j (.int .i64 x) (by rw [List.getElem?_map, hj]; rfl)
  have e : ((⟨g, 0, none⟩ : Addr).add j) = ⟨g, j, none⟩ := by cases j <;> simp [Addr.add]
  rwa [e] at this
/-- A block of texts stands; nothing below the call's start has turned. -/
structure AInv (w W : World) (g : Nat) (l : List ByteArray) : Prop where
  bl : Below w.heap.size w W
  lo : w.heap.size ≤ g
  row : W.heap[g]? = some (.cells (l.map Value.string).toArray 9 (0, 0))
theorem AInv.below {w W X : World} {g : Nat} {l : List ByteArray} (h : AInv w W g l) (hb : Below W.heap.size W X) : AInv w X g l :=
  ⟨below_then h.bl h.bl.size hb, h.lo, (hb.block _ (Array.getElem?_eq_some_iff.1 h.row).1).trans h.row⟩
theorem AInv.drewN {w W : World} {g : Nat} {l : List ByteArray} (h : AInv w W g l) (n : Nat) : AInv w (W.drewN n) g l := ⟨below_drewN h.bl n, h.lo, h.row⟩
theorem AInv.drew {w W : World} {g : Nat} {l : List ByteArray} (h : AInv w W g l) : AInv w W.drew g l := ⟨h.bl.drew, h.lo, h.row⟩
theorem AInv.set {w W : World} {g g2 k : Nat} {l : List ByteArray} (h : AInv w W g l) (hg : g < g2) (v : Value) : AInv w (W.setCell ⟨g2, k, none⟩ v) g l :=
  ⟨h.bl.setCell (p := ⟨g2, k, none⟩) (by have := h.lo; show _ ≤ g2; omega) v, h.lo, (heap_setCell_other W ⟨g2, k, none⟩ g v (by show g ≠ g2; omega)).trans h.row⟩
theorem ali_len (u : Int) : (aliL u).length ≤ 5 := by
  unfold aliL
  split
  · rename_i t ht
    have := List.all_eq_true.1 (show nameT.all (fun t => decide ((splitBlank t.2).length ≤ 5)) = true by decide +kernel) t (List.mem_of_find?_eq_some ht)
    simpa using this
  · simp
theorem ali_nil (u : Int) (h : aliL u = []) (w : World) (hw : MaxAt w) : Calls Tryd.prog 12 #[.int .i64 u] w fun e w' => e = .returned (.slice none 0 0) ∧ Below w.heap.size w w' :=
  (ali_any u w hw).mono fun e w' ⟨h1, h2⟩ => by
    rcases h1 with ⟨_, h1⟩ | ⟨g, h3, h6, h4, h5⟩
    · exact ⟨h1, h2⟩
    · exact absurd h h6
theorem rali_nil (u : Int) (h : aliL u = []) (w : World) : Calls Tryd.prog 15 #[.int .i64 u] w fun e w' => e = .returned (.slice none 0 0) ∧ Below w.heap.size w w' :=
  (rali_any u w).mono fun e w' ⟨h1, h2⟩ => by
    rcases h1 with ⟨_, h1⟩ | ⟨g, h3, h6, h4, h5⟩
    · exact ⟨h1, h2⟩
    · exact absurd h h6
theorem ali_some (u : Int) (l : List ByteArray) (h : aliL u = l) (hl : l ≠ []) (w : World) (hw : MaxAt w) : Calls Tryd.prog 12 #[.int .i64 u] w fun e w' => ∃ g, w.heap.size ≤ g ∧ e = .returned (.slice (some ⟨g, 0, none⟩) l.length l.length) ∧ w'.heap[g]? = some (.cells (l.map Value.string).toArray 9 (0, 0)) ∧ Below w.heap.size w w' :=
  (ali_any u w hw).mono fun e w' ⟨h1, h2⟩ => by
    subst h
    rcases h1 with ⟨h1, _⟩ | ⟨g, h3, h6, h4, h5⟩
    · exact absurd h1 hl
    · exact ⟨g, h3, h4, h5, h2⟩
theorem rali_some (u : Int) (l : List ByteArray) (h : aliL u = l) (hl : l ≠ []) (w : World) : Calls Tryd.prog 15 #[.int .i64 u] w fun e w' => ∃ g, w.heap.size ≤ g ∧ e = .returned (.slice (some ⟨g, 0, none⟩) l.length l.length) ∧ w'.heap[g]? = some (.cells (l.map Value.string).toArray 9 (0, 0)) ∧ Below w.heap.size w w' :=
  (rali_any u w).mono fun e w' ⟨h1, h2⟩ => by
    subst h
    rcases h1 with ⟨h1, _⟩ | ⟨g, h3, h6, h4, h5⟩
    · exact absurd h1 hl
    · exact ⟨g, h3, h4, h5, h2⟩
set_option maxRecDepth 100000 in
set_option maxHeartbeats 3200000 in
theorem tells_nil (u : Int) (h : aliL u = []) (w : World) (hw : MaxAt w) : Calls Tryd.prog 4 #[.int .i64 u] w fun e w' => e = .returned (.bool true) ∧ Below w.heap.size w w' := by
  have HA := Lib.hid (ali_nil u h)
  have HR := Lib.hid (rali_nil u h)
  have HN := Lib.hid (name_calls u)
  have HM := Lib.hid (rname_calls u)
  obtain ⟨s, hs⟩ : ∃ s, nameL u = s := ⟨_, rfl⟩
  rw [hs] at HN HM
  have HW := Lib.hid hw
  clear hw h hs
  go_enter Tryd.func4, Tryd.ntmps4
  go_wp2_with fail
  refine (HR.out _).mono ?_
  rintro e w1 ⟨rfl, hb⟩
  have B1 := Lib.hid hb
  clear hb
  go_wp2_with fail
  refine (HA.out _ (HW.out.below B1.out)).mono ?_
  rintro e w2 ⟨rfl, hb⟩
  have B2 := Lib.hid (below_then B1.out B1.out.size hb)
  clear hb B1
  go_wp2_with fail
  refine (same_nil _).mono ?_
  rintro e w' ⟨rfl, rfl⟩
  go_wp2_with fail
  refine (HN.out _ (HW.out.below B2.out)).mono ?_
  rintro e w3 ⟨rfl, hb⟩
  have B3 := Lib.hid (below_then B2.out B2.out.size hb)
  clear hb B2
  go_wp2_with fail
  refine (HM.out _).mono ?_
  rintro e w4 ⟨rfl, hb⟩
  have B4 := Lib.hid (below_then B3.out B3.out.size hb)
  clear hb B3
  go_wp2_with fail
  refine wp_loop_rounds 1 ?_
  rw [rounds_succ]
  go_wp2_with fail
  refine (kinds_calls _).mono ?_
  rintro e k1 ⟨gk1, cap1, hg1, rfl, ho1, hb⟩
  have K1 := Lib.hid (Joins.ownsRow_le ho1 (Nat.zero_le _))
  have B5 := Lib.hid (below_then B4.out B4.out.size hb)
  clear hb hg1 ho1
  go_wp2_with fail
  refine (rkinds_calls _).mono ?_
  rintro e k2 ⟨gk2, cap2, hg2, rfl, ho2, hb⟩
  have K2 := Lib.hid (Joins.ownsRow_le ho2 (Nat.zero_le _))
  have K1' := Lib.hid (own_lt K1.out hb)
  have B6 := Lib.hid (below_then B5.out B5.out.size hb)
  clear hb hg2 ho2 K1
  go_wp2_with fail
  refine (HA.out _ (HW.out.below B6.out)).mono ?_
  rintro e Y ⟨rfl, hb⟩
  have HY := Lib.hid (And.intro (below_then B6.out B6.out.size hb) (And.intro (own_lt K1'.out hb) (own_lt K2.out hb)))
  clear hb B4 B5 B6 K1' K2
  go_wp2_with fail
  refine (same_nil _).mono ?_
  rintro e w' ⟨rfl, rfl⟩
  go_wp2_with fail
  go_loopg [8] 56 (fun gg i wr => ∃ k n : Nat, k + gg = 56 ∧ i = .int .i64 (k : Int) ∧ wr = Y.drewN n)
  case atStart => exact ⟨0, 0, rfl, rfl, rfl⟩
  case round =>
    obtain ⟨k, n, hk, rfl, rfl⟩ := hrel
    cases gk with
    | zero =>
      obtain rfl : k = 56 := by omega
      go_wp2_with fail
      go_ret
      exact ⟨rfl, below_drewN HY.out.1 _⟩
    | succ gg =>
      have hkz : (k : Int) < 56 := by omega
      have hk0 : (0 : Int) ≤ (k : Int) := by omega
      obtain ⟨x, hx⟩ : ∃ x, kindsL[k]? = some x := ⟨_, List.getElem?_eq_getElem (show k < kindsL.length by rw [kindsL_len]; omega)⟩
      have c1 : (Y.drewN n).cell? ⟨gk1, k, none⟩ = some (.int .i64 x) := row_at (w := Y.drewN n) (B := 0) (cap := cap1) HY.out.2.1 hx
      have c2 : (Y.drewN n).cell? ⟨gk2, k, none⟩ = some (.int .i64 x) := row_at (w := Y.drewN n) (B := 0) (cap := cap2) HY.out.2.2 hx
      clear hx
      obtain ⟨X, hX⟩ : ∃ X, Y.drewN n = X := ⟨_, rfl⟩
      have HX := Lib.hid hX
      rw [hX] at c1 c2 ⊢
      clear hX
      go_wp2_with fail
      go_quiet (fail)
      go_wp2_with fail
      go_roundg gg
      case measure => omega
      case rel => exact ⟨k + 1, _, by omega, by go_num, by rw [← HX.out, World.drewN_drewN]⟩
set_option maxRecDepth 100000 in
set_option maxHeartbeats 3200000 in
theorem tells_some (u : Int) (l : List ByteArray) (h : aliL u = l) (hl : l ≠ []) (w : World) (hw : MaxAt w) : Calls Tryd.prog 4 #[.int .i64 u] w fun e w' => e = .returned (.bool true) ∧ Below w.heap.size w w' := by
  have HA := Lib.hid (ali_some u l h hl)
  have HR := Lib.hid (rali_some u l h hl)
  have HN := Lib.hid (name_calls u)
  have HM := Lib.hid (rname_calls u)
  obtain ⟨s, hs⟩ : ∃ s, nameL u = s := ⟨_, rfl⟩
  rw [hs] at HN HM
  have HW := Lib.hid hw
  have hlen : l.length ≤ 1000 := by have := ali_len u; rw [h] at this; omega
  clear hw h hs hl
  go_enter Tryd.func4, Tryd.ntmps4
  go_wp2_with fail
  refine (HR.out _).mono ?_
  rintro e w1 ⟨gl, hg, rfl, hc, hb⟩
  have B1 := Lib.hid (show AInv w w1 gl l from ⟨hb, hg, hc⟩)
  clear hb hg hc
  go_wp2_with fail
  refine (HA.out _ (HW.out.below B1.out.bl)).mono ?_
  rintro e w2 ⟨ga, hg, rfl, hc, hb⟩
  have hlt : gl < ga := Nat.lt_of_lt_of_le (Array.getElem?_eq_some_iff.1 B1.out.row).1 hg
  have B2 := Lib.hid (B1.out.below hb)
  have C2 := Lib.hid hc
  clear hb B1 hg hc
  go_wp2_with fail
  refine (same_calls ga gl l hlen _ C2.out B2.out.row).mono ?_
  rintro e w' ⟨rfl, n1, rfl⟩
  have B2' := Lib.hid (B2.out.drewN n1)
  have C2' := Lib.hid (show (w2.drewN n1).heap[ga]? = _ from C2.out)
  clear B2 C2
  obtain ⟨w2', hw2⟩ : ∃ x, w2.drewN n1 = x := ⟨_, rfl⟩
  rw [hw2] at B2' C2' ⊢
  clear hw2
  go_wp2_with fail
  refine (HN.out _ (HW.out.below B2'.out.bl)).mono ?_
  rintro e w3 ⟨rfl, hb⟩
  have B3 := Lib.hid (B2'.out.below hb)
  have C3 := Lib.hid ((hb.block _ (Array.getElem?_eq_some_iff.1 C2'.out).1).trans C2'.out)
  clear hb B2' C2'
  go_wp2_with fail
  refine (HM.out _).mono ?_
  rintro e w4 ⟨rfl, hb⟩
  have B4 := Lib.hid (B3.out.below hb)
  have C4 := Lib.hid ((hb.block _ (Array.getElem?_eq_some_iff.1 C3.out).1).trans C3.out)
  clear hb B3 C3
  go_wp2_with fail
  go_loopg [5] l.length (fun gg i wr => ∃ (k : Nat) (cs : Array Value), k + gg = l.length ∧ i = .int .i64 (k : Int) ∧ AInv w wr gl l ∧ wr.heap[ga]? = some (.cells cs 9 (0, 0)) ∧ cs.size = l.length)
  case atStart => exact ⟨0, _, by omega, rfl, B4.out, C4.out, by simp⟩
  case round =>
    obtain ⟨k, cs, hk, rfl, hI, hc, hsz⟩ := hrel
    have HI := Lib.hid hI
    have HC := Lib.hid hc
    have HS := Lib.hid hsz
    clear hI hc hsz
    cases gk with
    | zero =>
      have hkz : ¬ ((k : Int) < (l.length : Int)) := by omega
      go_wp2_with fail
      refine (kinds_calls _).mono ?_
      rintro e k1 ⟨gk1, cap1, hg1, rfl, ho1, hb⟩
      have K1 := Lib.hid (Joins.ownsRow_le ho1 (Nat.zero_le _))
      have B5 := Lib.hid (HI.out.below hb)
      clear hb hg1 ho1
      go_wp2_with fail
      refine (rkinds_calls _).mono ?_
      rintro e k2 ⟨gk2, cap2, hg2, rfl, ho2, hb⟩
      have K2 := Lib.hid (Joins.ownsRow_le ho2 (Nat.zero_le _))
      have K1' := Lib.hid (own_lt K1.out hb)
      have B6 := Lib.hid (B5.out.below hb)
      clear hb hg2 ho2 K1
      go_wp2_with fail
      refine (HA.out _ (HW.out.below B6.out.bl)).mono ?_
      rintro e Z ⟨gz, hg, rfl, hc, hb⟩
      have B7 := Lib.hid (B6.out.below hb)
      have C7 := Lib.hid hc
      have K1'' := Lib.hid (own_lt K1'.out hb)
      have K2' := Lib.hid (own_lt K2.out hb)
      clear hb hg hc B5 B6 K1' K2
      go_wp2_with fail
      refine (same_calls gz gl l hlen _ C7.out B7.out.row).mono ?_
      rintro e w' ⟨rfl, n2, rfl⟩
      have HY0 := Lib.hid (And.intro (B7.out.drewN n2).bl (And.intro (show World.ownsRow (Z.drewN n2) 0 3 1 _ 56 _ from K1''.out) (show World.ownsRow (Z.drewN n2) 0 3 1 _ 56 _ from K2'.out)))
      obtain ⟨Y, hY⟩ : ∃ Y, Z.drewN n2 = Y := ⟨_, rfl⟩
      rw [hY] at HY0 ⊢
      have HY := HY0
      clear hY HY0 B7 C7 K1'' K2'
      go_wp2_with fail
      go_loopg [8] 56 (fun gg i wr => ∃ k n : Nat, k + gg = 56 ∧ i = .int .i64 (k : Int) ∧ wr = Y.drewN n)
      case atStart => exact ⟨0, 0, rfl, rfl, rfl⟩
      case round =>
        obtain ⟨k, n, hk, rfl, rfl⟩ := hrel
        cases gk with
        | zero =>
          obtain rfl : k = 56 := by omega
          go_wp2_with fail
          go_ret
          exact ⟨rfl, below_drewN HY.out.1 _⟩
        | succ gg =>
          have hkz : (k : Int) < 56 := by omega
          have hk0 : (0 : Int) ≤ (k : Int) := by omega
          obtain ⟨x, hx⟩ : ∃ x, kindsL[k]? = some x := ⟨_, List.getElem?_eq_getElem (show k < kindsL.length by rw [kindsL_len]; omega)⟩
          have c1 : (Y.drewN n).cell? ⟨gk1, k, none⟩ = some (.int .i64 x) := row_at (w := Y.drewN n) (B := 0) (cap := cap1) HY.out.2.1 hx
          have c2 : (Y.drewN n).cell? ⟨gk2, k, none⟩ = some (.int .i64 x) := row_at (w := Y.drewN n) (B := 0) (cap := cap2) HY.out.2.2 hx
          clear hx
          obtain ⟨X, hX⟩ : ∃ X, Y.drewN n = X := ⟨_, rfl⟩
          have HX := Lib.hid hX
          rw [hX] at c1 c2 ⊢
          clear hX
          go_wp2_with fail
          go_quiet (fail)
          go_wp2_with fail
          go_roundg gg
          case measure => omega
          case rel => exact ⟨k + 1, _, by omega, by go_num, by rw [← HX.out, World.drewN_drewN]⟩
    | succ gg =>
      have hkz : (k : Int) < (l.length : Int) := by omega
      have hk0 : (0 : Int) ≤ (k : Int) := by omega
      have c1 : wr.cell? ⟨ga, k, none⟩ = some (cs.getD k undef) := by
        rw [cell_of_row wr _ _ _ _ _ HC.out]
        have : k < cs.size := by rw [HS.out]; omega
        simp [this]
      have c2 : wr.frozen? ⟨ga, k, none⟩ = false := frozen_of_row wr ga k cs 9 HC.out
      have HC' := Lib.hid (heap_setCell_same wr ga k cs 9 (.string ⟨#[115, 112, 111, 105, 108, 116]⟩) HC.out)
      obtain ⟨x, hx⟩ : ∃ x, cs.getD k undef = x := ⟨_, rfl⟩
      rw [hx] at c1
      clear hx
      go_wp2_with fail
      go_roundg gg
      case measure => omega
      case rel => exact ⟨k + 1, _, by omega, by go_num, HI.out.set hlt _, HC'.out, by simpa using HS.out⟩
theorem tells_calls (u : Int) (w : World) (hw : MaxAt w) : Calls Tryd.prog 4 #[.int .i64 u] w fun e w' => e = .returned (.bool true) ∧ Below w.heap.size w w' := by
  by_cases h : aliL u = []
  · exact tells_nil u h w hw
  · exact tells_some u _ rfl h w hw
end Go.Proofs.YtkbkkdeaegidjaaDoor
