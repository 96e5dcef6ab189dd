/- Lookup at a text. -/
import Derived.Test.YtkbkkdeaegidjaaDoorNQ
namespace Go.Proofs.YtkbkkdeaegidjaaDoor
open Go.RowKit
attribute [local go_sem] Oper.semAt_some
theorem rounds_ghost {F : Fence} {n : Nat} {P : Program} {c : Code} {Q : Exit → Act → World → Prop} (R : Nat → Act → World → Prop)
    (hstep : ∀ g a w, R g a w → c.wpIn F n P (Exit.then (fun a' w' => ∃ g', g' < g ∧ R g' a' w') Q) a w) : ∀ m g a w, g < m → R g a w → Code.roundsIn F n P c Q m a w
  | 0, _, _, _, h, _ => by omega
  | m + 1, g, a, w, h, hr => by
    rw [roundsIn_succ]
    refine wpIn_mono (hstep g a w hr) ?_
    intro e a' w' he
    cases e with
    | normal =>
      obtain ⟨g', hg, hR⟩ := he
      exact rounds_ghost R hstep m g' a' w' (by omega) hR
    | ret => exact he
    | exit _ => exact he
    | goto _ => exact he
    | panic _ => exact he
    | outgrown => exact he
theorem loop_ghost {F : Fence} {n : Nat} {P : Program} {c : Code} {Q : Exit → Act → World → Prop} {a : Act} {w : World} (R : Nat → Act → World → Prop) (g : Nat) (h0 : R g a w)
    (hstep : ∀ g a w, R g a w → c.wpIn F n P (Exit.then (fun a' w' => ∃ g', g' < g ∧ R g' a' w') Q) a w) : (Code.loop c).wpIn F n P Q a w :=
  wpIn_loop_rounds (g + 1) (rounds_ghost R hstep (g + 1) g a w (by omega) h0)
def markOf (D : Nat) : Deferred := { target := .collected D, args := #[] }
/-- What Lookup keeps: its results, its text, the marks of the loops that are done. -/
structure LkInv (w W : World) (s : ByteArray) (k e : Int) (Ds : List Nat) : Prop where
  bl : Below w.heap.size w W
  c0 : W.heap[w.heap.size]? = some (.cells #[.int .i64 k] 3 (0, 0))
  c1 : W.heap[w.heap.size + 1]? = some (.cells #[.int .i64 e] 29 (0, 0))
  c2 : W.heap[w.heap.size + 1 + 1]? = some (.cells #[.string s] 9 (0, 0))
  nd : Ds.Nodup
  ms : ∀ D ∈ Ds, w.heap.size + 2 < D ∧ W.heap[D]? = some (.deferred (some []))
theorem LkInv.below {w W X : World} {s : ByteArray} {k e : Int} {Ds : List Nat} (h : LkInv w W s k e Ds) (hb : Below W.heap.size W X) : LkInv w X s k e Ds :=
  ⟨below_then h.bl h.bl.size hb, (hb.block _ (Array.getElem?_eq_some_iff.1 h.c0).1).trans h.c0, (hb.block _ (Array.getElem?_eq_some_iff.1 h.c1).1).trans h.c1, (hb.block _ (Array.getElem?_eq_some_iff.1 h.c2).1).trans h.c2, h.nd,
    fun D hD => ⟨(h.ms D hD).1, (hb.block _ (Array.getElem?_eq_some_iff.1 (h.ms D hD).2).1).trans (h.ms D hD).2⟩⟩
theorem LkInv.own {w A B : World} {s : ByteArray} {k e : Int} {Ds : List Nat} {row : Option Nat} {bs N : Nat} (h : LkInv w A s k e Ds) (hg : A.grownBy B row) (hr : ∀ r, row = some r → r = bs ∨ N ≤ r) (hbs : w.heap.size + 2 < bs) (hN : w.heap.size + 2 < N) (hD : ∀ D ∈ Ds, D < N ∧ D ≠ bs) : LkInv w B s k e Ds := by
  have keep : ∀ {b : Nat} {o : Obj}, b < N → b ≠ bs → A.heap[b]? = some o → B.heap[b]? = some o := fun h1 h2 ho =>
    (hg.block _ (Array.getElem?_eq_some_iff.1 ho).1 (fun e => by rcases hr _ e.symm with h | h <;> omega)).trans ho
  refine ⟨h.bl.grown hg h.bl.size (fun q hq => by rcases hr _ hq with h | h <;> omega), keep (by omega) (by omega) h.c0, keep (by omega) (by omega) h.c1, keep (by omega) (by omega) h.c2, h.nd, fun D hd => ⟨(h.ms D hd).1, keep (hD D hd).1 (hD D hd).2 (h.ms D hd).2⟩⟩
theorem leaves_all {w : World} {s : ByteArray} {k e : Int} {tmps : Array Value} {n : Nat} (h2 : tmps.getD 2 undef = .pointer (some ⟨w.heap.size, 0, none⟩)) (h3 : tmps.getD 3 undef = .pointer (some ⟨w.heap.size + 1, 0, none⟩)) : ∀ (Ds : List Nat) (W : World), LkInv w W s k e Ds →
    LeavesInM Fence.wide n Tryd.prog Tryd.f13 tmps (fun x w' => x = .returned (twoV k e) ∧ Below w.heap.size w w') (Ds.map markOf) .returning W
  | [], W, h => ⟨_, lookup_end h2 h3 (one_at h.c0).1 (one_at h.c1).1, rfl, h.bl⟩
  | D :: Ds, W, h => by
    have hm := h.ms D (List.mem_cons_self ..)
    have hnd := List.nodup_cons.1 h.nd
    refine ⟨by simp, .inl ⟨D, _, rfl, run_takeDeferred hm.2, leaves_all (s := s) h2 h3 Ds _ ?_⟩⟩
    have hg := grown_put W D (.deferred none)
    refine ⟨h.bl.grown hg h.bl.size (fun q hq => by cases hq; omega), (World.putObj_heap_other (by omega)).trans h.c0, (World.putObj_heap_other (by omega)).trans h.c1, (World.putObj_heap_other (by omega)).trans h.c2, hnd.2, fun E hE => ?_⟩
    have hE2 := h.ms E (List.mem_cons_of_mem _ hE)
    exact ⟨hE2.1, (World.putObj_heap_other (fun e => hnd.1 (by rw [← e]; exact hE))).trans hE2.2⟩
def hasN (l : List ByteArray) (y : ByteArray) : Bool := l.any fun x => decide (x = y)
/-- The first entry one of whose names is the text in large letters. -/
def findE (s : ByteArray) : Option (Int × ByteArray) := nameT.find? fun t => hasN (splitBlank t.2) (largeB s)
def foundV (s : ByteArray) : Value := match findE s with
  | some t => twoV t.1 0
  | none => twoV 0 20
theorem LkInv.set {w W : World} {s : ByteArray} {k e : Int} {Ds : List Nat} (h : LkInv w W s k e Ds) (k' e' : Int) : LkInv w ((W.setCell ⟨w.heap.size, 0, none⟩ (.int .i64 k')).setCell ⟨w.heap.size + 1, 0, none⟩ (.int .i64 e')) s k' e' Ds := by
  refine ⟨(h.bl.setCell (Nat.le_refl _) _).setCell (by simp) _, (heap_setCell_other _ _ _ _ (by simp)).trans (set_one h.c0), set_one ((heap_setCell_other _ _ _ _ (by simp)).trans h.c1), (heap_setCell_other _ _ _ _ (by simp)).trans ((heap_setCell_other _ _ _ _ (by simp; omega)).trans h.c2), h.nd, fun D hD => ?_⟩
  have hm := h.ms D hD
  exact ⟨hm.1, (heap_setCell_other _ _ _ _ (by simp; omega)).trans ((heap_setCell_other _ _ _ _ (by simp; omega)).trans hm.2)⟩
theorem find_none {s : ByteArray} (h : ∀ j t, j < 56 → nameT[j]? = some t → hasN (splitBlank t.2) (largeB s) = false) : findE s = none := by
  unfold findE
  rw [List.find?_eq_none]
  intro t ht
  obtain ⟨j, hj⟩ := List.getElem?_of_mem ht
  have := (List.getElem?_eq_some_iff.1 hj).1
  rw [nameT_len] at this
  rw [h j t this hj]
  simp
theorem find_at {s : ByteArray} {k : Nat} {t : Int × ByteArray} (h : ∀ j t, j < k → nameT[j]? = some t → hasN (splitBlank t.2) (largeB s) = false) (hk : nameT[k]? = some t) (hc : hasN (splitBlank t.2) (largeB s) = true) : findE s = some t := by
  unfold findE
  obtain ⟨hlt, he⟩ := List.getElem?_eq_some_iff.1 hk
  rw [List.find?_eq_some_iff_getElem]
  refine ⟨hc, k, hlt, he, fun j hj => ?_⟩
  have := h j _ hj (List.getElem?_eq_getElem (by omega))
  simpa using this
theorem ent_cell {W : World} {q : Nat} {a b : Value} (h : W.heap[q]? = some (.cells #[a, b] 52 (0, 0))) : W.cell? ⟨q, 0, none⟩ = some a := by
  rw [cell_of_row _ _ _ _ _ _ h]
  rfl
theorem name_lens : nameT.all (fun t => decide (t.2.size ≤ 1000)) = true := by decide +kernel
theorem seq_entry (W : World) (o : Obj) (s sep : ByteArray) : (seqW (W.alloc o) s sep).heap[W.heap.size]? = some o := by
  have h1 : W.heap.size < (W.alloc o).heap.size := by simp
  rw [(seq_below (W.alloc o) s sep).block _ h1]
  exact heap_alloc_new _ _
/-- One more mark. -/
theorem LkInv.mark {w W : World} {s : ByteArray} {k e : Int} {Ds : List Nat} {D N : Nat} (h : LkInv w W s k e Ds) (hD : W.heap[D]? = some (.deferred (some []))) (hN : N ≤ D) (hd : ∀ E ∈ Ds, E < N) (hw : w.heap.size + 2 < N) : LkInv w W s k e (D :: Ds) :=
  ⟨h.bl, h.c0, h.c1, h.c2, List.nodup_cons.2 ⟨fun hm => by have := hd D hm; omega, h.nd⟩, fun E hE => by
    rcases List.mem_cons.1 hE with rfl | hE
    · exact ⟨by omega, hD⟩
    · exact h.ms E hE⟩
theorem not_in {l : List ByteArray} {y : ByteArray} {x : ByteArray} (h : hasN l y = false) (hx : x ≠ y) : hasN (l ++ [x]) y = false := by
  unfold hasN at h ⊢
  rw [List.any_append, h]
  simp [hx]
set_option maxRecDepth 100000 in
set_option maxHeartbeats 3200000 in
theorem lookup_str (s : ByteArray) (hs : s.size ≤ 140737488351232) (w : World) : Calls Tryd.prog 13 #[.iface 9 (.string s)] w fun e w' => e = .returned (foundV s) ∧ Below w.heap.size w w' := by
  have h9 := as9_9 (.string s)
  have f22 : Fence.wide.fn 22 := trivial
  have f24 : Fence.wide.fn 24 := trivial
  have f25 : Fence.wide.fn 25 := trivial
  refine (callsIn_wide (n := 10)).1 (callsIn_of_wp_marks Tryd.func13 rfl trivial ?_ rfl)
  simp only [Tryd.ntmps13, List.size_toArray, List.length_cons, List.length_nil, Nat.reduceAdd, Nat.reduceSub, Array.replicate_succ, Array.replicate_zero, List.push_toArray, List.append_toArray, List.nil_append, List.cons_append]
  gi_wp2_with (gi_at_call 22; refine (callsIn_wide.2 (ent_calls _)).mono ?_; rintro e w' ⟨rfl, hb⟩)
  obtain ⟨T0, T1, T2⟩ := three_cells w (.int .i64 0) (.int .i64 0) (.string s) 3 29 9
  have HI0 : LkInv w w' s 0 0 [] := LkInv.below ⟨three_below _ _ _ _, T0, T1, T2, List.nodup_nil, fun D hD => by cases hD⟩ hb
  clear hb T0 T1 T2
  refine loop_ghost (fun g a W => ∃ (k : Nat) (Ds : List Nat) (u7 u19 u20 u21 u22 u23 u31 : Value), a = { tmps := #[Value.iface 9 (Value.string s), undef, Value.pointer (some ⟨w.heap.size, 0, none⟩), Value.pointer (some ⟨w.heap.size + 1, 0, none⟩), Value.pointer (some ⟨w.heap.size + 1 + 1, 0, none⟩), Value.bool true, undef, u7, undef, undef, undef, Value.tuple #[Value.string s, Value.bool true], Value.iface 9 (Value.string s), Value.tuple #[Value.string s, Value.bool true], Value.string s, Value.bool true, Value.bool true, Value.agg allC, Value.int IntKind.i64 (k : Int), u19, u20, u21, u22, u23, undef, undef, undef, undef, undef, undef, undef, u31, undef, undef, undef, undef, undef, undef, undef, undef, undef, undef, undef, undef, undef], defers := Ds.map markOf } ∧ k + g = 56 ∧ LkInv w W s 0 0 Ds ∧ ∀ j t, j < k → nameT[j]? = some t → hasN (splitBlank t.2) (largeB s) = false) 56
    ⟨0, [], _, _, _, _, _, _, _, rfl, rfl, HI0, fun j t h => by omega⟩ ?_
  clear HI0 w'
  rintro g a W ⟨k, Ds, u7, u19, u20, u21, u22, u23, u31, rfl, hk, hI, hno⟩
  have HI := Lib.hid hI
  have HNO := Lib.hid hno
  clear hI hno
  cases g with
  | zero =>
    obtain rfl : k = 56 := by omega
    have hkz : ¬ ((56 : Int) < 56) := by omega
    obtain ⟨c1, f1⟩ := one_at HI.out.c0
    obtain ⟨c2, f2⟩ := one_at HI.out.c1
    have HF := Lib.hid (show foundV s = twoV 0 20 by unfold foundV; rw [find_none HNO.out])
    clear hkz hk
    gi_wp2
    rw [HF.out]
    exact leaves_all rfl rfl Ds _ (HI.out.set 0 20)
  | succ g =>
    have hkz : (k : Int) < 56 := by omega
    obtain ⟨⟨kd, nm⟩, ht⟩ : ∃ t, nameT[k]? = some t := ⟨_, List.getElem?_eq_getElem (show k < nameT.length by rw [nameT_len]; omega)⟩
    have hix := ent_at k (kd, nm) ht
    have HT := Lib.hid ht
    clear ht
    gi_wp2_with (gi_at_call 25; refine (callsIn_wide.2 (splitseq_calls _ _ _)).mono ?_; rintro e w' ⟨rfl, rfl⟩)
    obtain ⟨Z, hZ⟩ : ∃ Z, seqW (W.alloc (Obj.cells #[Value.int IntKind.i64 kd, Value.string nm] 52)) nm { data := #[32] } = Z := ⟨_, rfl⟩
    have zsz : Z.heap.size = W.heap.size + 4 := by rw [← hZ, seq_size]; simp
    have zE : Z.heap[W.heap.size]? = some (.cells #[.int .i64 kd, .string nm] 52 (0, 0)) := by rw [← hZ]; exact seq_entry _ _ _ _
    obtain ⟨b1, b2, b3⟩ := seq_boxes (W.alloc (Obj.cells #[Value.int IntKind.i64 kd, Value.string nm] 52)) nm ⟨#[32]⟩
    rw [hZ, World.size_alloc] at b1 b2 b3
    have zI : LkInv w Z s 0 0 Ds := by
      rw [← hZ]
      refine (HI.out.below ((Below.refl _ _).alloc (Nat.le_refl _) _)).below (seq_below _ _ _)
    have hnm : nm.size ≤ 1000 := of_decide_eq_true (List.all_eq_true.1 name_lens _ (List.mem_of_getElem? HT.out))
    have hww : w.heap.size + 2 < W.heap.size := (Array.getElem?_eq_some_iff.1 HI.out.c2).1
    have hDs : ∀ D ∈ Ds, D < W.heap.size := fun D hD => (Array.getElem?_eq_some_iff.1 (HI.out.ms D hD).2).1
    rw [hZ]
    clear hZ hix
    refine range_one (gf := 35) (bs := W.heap.size + 1) (lb := #[.pointer (some ⟨W.heap.size + 1 + 1, 0, none⟩), .pointer (some ⟨W.heap.size + 1, 0, none⟩), .pointer (some ⟨W.heap.size + 1 + 2, 0, none⟩)]) (parts := splitBlank nm) rfl (enters_of Tryd.func35 (by kernel_rfl) rfl) rfl (by omega)
      (fun l W' hb => split_iter 9 (by omega) l _ _ _ nm hnm W' (by omega) (by omega) ((hb.block _ (by omega)).trans b1) ((hb.block _ (by omega)).trans b2) ((hb.block _ (by omega)).trans b3))
      (fun pre A => (LkInv w A s 0 0 Ds ∧ A.heap[W.heap.size]? = some (.cells #[.int .i64 kd, .string nm] 52 (0, 0))) ∧ hasN pre (largeB s) = false)
      (fun _ A => LkInv w A s kd 0 Ds ∧ hasN (splitBlank nm) (largeB s) = true)
      (fun pre A B row ⟨⟨g1, g2⟩, g3⟩ hg hr => ⟨⟨g1.own hg hr (by omega) (by omega) (fun D hD => by have := hDs D hD; omega), (hg.block _ (Array.getElem?_eq_some_iff.1 g2).1 (fun e => by rcases hr _ e.symm with h | h <;> omega)).trans g2⟩, g3⟩)
      (fun pre A B row ⟨g1, g2⟩ hg hr => ⟨g1.own hg hr (by omega) (by omega) (fun D hD => by have := hDs D hD; omega), g2⟩)
      ⟨⟨zI, zE⟩, rfl⟩ (fun x => { tmps := #[Value.iface 9 (Value.string s), undef, Value.pointer (some ⟨w.heap.size, 0, none⟩), Value.pointer (some ⟨w.heap.size + 1, 0, none⟩), Value.pointer (some ⟨w.heap.size + 1 + 1, 0, none⟩), Value.bool true, undef, Value.pointer (some ⟨W.heap.size, 0, none⟩), Value.string x, undef, undef, Value.tuple #[Value.string s, Value.bool true], Value.iface 9 (Value.string s), Value.tuple #[Value.string s, Value.bool true], Value.string s, Value.bool true, Value.bool true, Value.agg allC, Value.int IntKind.i64 (k : Int), Value.bool true, Value.agg #[Value.int IntKind.i64 kd, Value.string nm], Value.pointer (some ⟨W.heap.size, 1, none⟩), Value.string nm, seqV (W.heap.size + 1), Value.string x, undef, undef, undef, undef, undef, undef, u31, undef, undef, undef, undef, undef, undef, undef, undef, undef, undef, undef, undef, undef], defers := [] }) ?assign ?body ?done ?stop
    case assign =>
      intro l x A K hK
      gi_wp2
      exact hK
    case body =>
      rintro l pre x A hNA ⟨⟨hL, hE⟩, hp⟩ ⟨r, hr⟩
      have c4 := (one_at hL.c2).1
      have HL := Lib.hid hL
      have HE := Lib.hid hE
      have HP := Lib.hid hp
      clear hL hE hp
      by_cases hx : x = largeB s
      · have hq : (x.toList == (largeB s).toList) = true := by rw [hx]; simp
        have HX := Lib.hid hx
        clear hx
        gi_wp2_with (gi_at_call 24; refine (CallsIn.inRound l (callsIn_wide.2 (large_calls s hs _))).mono ?_; rintro e w' ⟨rfl, hb⟩; have L2 := Lib.hid (HL.out.below hb); have E2 := Lib.hid ((hb.block _ (Array.getElem?_eq_some_iff.1 HE.out).1).trans HE.out); obtain ⟨c1, f1⟩ := one_at L2.out.c0; obtain ⟨c2, f2⟩ := one_at L2.out.c1; have e0 := ent_cell E2.out)
        refine ⟨fun k1 h1 h2 => ?_, HL.out.below hb |>.set kd 0, ?_⟩
        · refine (heap_setCell_other _ _ _ _ ?_).trans ((heap_setCell_other _ _ _ _ ?_).trans (hb.block _ ?_))
          · show k1 ≠ w.heap.size + 1
            omega
          · show k1 ≠ w.heap.size
            omega
          · omega
        · unfold hasN
          rw [hr, List.any_append, List.any_cons, HX.out]
          simp
      · have hq : (x.toList == (largeB s).toList) = false := by
          rw [beq_eq_false_iff_ne]
          intro e
          rw [Lib.toList_data, Lib.toList_data] at e
          exact hx (ByteArray.ext (Array.toList_inj.1 e))
        have HX := Lib.hid hx
        clear hx
        gi_wp2_with (gi_at_call 24; refine (CallsIn.inRound l (callsIn_wide.2 (large_calls s hs _))).mono ?_; rintro e w' ⟨rfl, hb⟩; have L2 := Lib.hid (HL.out.below hb); have E2 := Lib.hid ((hb.block _ (Array.getElem?_eq_some_iff.1 HE.out).1).trans HE.out); obtain ⟨c1, f1⟩ := one_at L2.out.c0; obtain ⟨c2, f2⟩ := one_at L2.out.c1; have e0 := ent_cell E2.out)
        exact ⟨hb, ⟨L2.out, E2.out⟩, not_in HP.out HX.out⟩
    case done =>
      rintro D A hD ⟨⟨hL, hE⟩, hp⟩ hK
      have HL := Lib.hid hL
      have HP := Lib.hid hp
      clear hL hp
      gi_wp2
      refine ⟨g, by omega, k + 1, D :: Ds, _, _, _, _, _, _, _, rfl, by omega, HL.out.mark hK hD (fun E hE => by have := hDs E hE; omega) (by omega), fun j t hj hjt => ?_⟩
      rcases Nat.lt_or_ge j k with h | h
      · exact HNO.out j t h hjt
      · obtain rfl : j = k := by omega
        rw [HT.out] at hjt
        cases hjt
        exact HP.out
    case stop =>
      rintro D pre A hD ⟨hL, hc⟩ hK
      have HF := Lib.hid (show foundV s = twoV kd 0 by unfold foundV; rw [find_at HNO.out HT.out hc])
      have HL := Lib.hid (hL.mark hK hD (fun E hE => by have := hDs E hE; omega) (by omega))
      clear hL hc hK
      gi_wp2
      rw [HF.out]
      exact leaves_all rfl rfl (D :: Ds) _ HL.out
end Go.Proofs.YtkbkkdeaegidjaaDoor
