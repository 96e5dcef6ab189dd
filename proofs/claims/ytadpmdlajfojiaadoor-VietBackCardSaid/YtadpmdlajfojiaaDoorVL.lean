/- The reference's Set; both Sets at one function. -/
import Derived.Test.YtadpmdlajfojiaaDoorVK
namespace Go.Proofs.YtadpmdlajfojiaaDoor
open Go.RowKit
theorem rone_b (u : Int) (w : World) : Calls Tryd.prog 20 #[.int .i32 u] w fun e w' => e = .returned (.int .i64 (oneI u)) ∧ Below w.heap.size w w' := (rone_calls u w).mono fun _ _ ⟨h1, h2⟩ => ⟨h1, below_drawn h2⟩
theorem rsplit_b (u : Int) (w : World) : Calls Tryd.prog 21 #[.int .i32 u] w fun e w' => e = .returned (splitV u) ∧ Below w.heap.size w w' := (rsplit_calls u w).mono fun _ _ ⟨h1, h2⟩ => ⟨h1, below_drawn h2⟩
theorem oneL_lt {u : Int} {b : Nat} (h : oneL u = some b) : b < 256 := List.mem_range.1 (List.mem_of_find?_eq_some h)
theorem oneI_some {u : Int} {b : Nat} (h : oneL u = some b) : oneI u = b := by unfold oneI; rw [h]
theorem oneI_none {u : Int} (h : oneL u = none) : oneI u = -1 := by unfold oneI; rw [h]
theorem parts_all : ((allT.map (·.1)).eraseDups ++ (allT.map (·.2.1)).eraseDups).all (fun x => (oneL x).isSome) = true := by kernel_rfl
theorem parts_one {k : Nat} {l m r : Int} (h : allT[k]? = some (l, m, r)) : ∃ a c, oneL l = some a ∧ oneL m = some c := by
  have h1 := List.all_eq_true.1 parts_all
  have ha := h1 l (List.mem_append_left _ (List.mem_eraseDups.2 (List.mem_map.2 ⟨_, List.mem_of_getElem? h, rfl⟩)))
  have hc := h1 m (List.mem_append_right _ (List.mem_eraseDups.2 (List.mem_map.2 ⟨_, List.mem_of_getElem? h, rfl⟩)))
  exact ⟨_, _, (Option.eq_some_of_isSome ha), (Option.eq_some_of_isSome hc)⟩
/-- What Set hands back. -/
def setR (u : Int) : Int × ByteArray := match oneL u with
  | some b => (0, strOfNums [(b : Int)])
  | none => match splitL u with
    | some (l, m) => (0, strOfNums [(((oneL l).getD 0 : Nat) : Int), (((oneL m).getD 0 : Nat) : Int)])
    | none => (11, ⟨#[]⟩)
theorem set_any (u : Int) (w : World) (hw : ListAt w) : Calls Tryd.prog 8 #[.int .i32 u] w fun e w' => e = .returned (putV (setR u).1 (setR u).2) ∧ Below w.heap.size w w' := by
  unfold setR
  cases h : oneL u with
  | some b => exact set_one u b h w hw
  | none =>
    cases hs : splitL u with
    | none => exact set_none u h hs w hw
    | some p =>
      obtain ⟨l, m⟩ := p
      obtain ⟨k, hk⟩ := split_some hs
      obtain ⟨a, c, ha, hc⟩ := parts_one hk
      simp only [ha, hc]
      exact set_two u l m a c h hs ha hc w hw
set_option maxRecDepth 100000 in
set_option maxHeartbeats 800000 in
theorem rset_one (u : Int) (b : Nat) (hb : oneL u = some b) (w : World) : Calls Tryd.prog 9 #[.int .i32 u] w fun e w' => e = .returned (putV 0 (strOfNums [(b : Int)])) ∧ Below w.heap.size w w' := by
  have h1 := rone_b u
  rw [oneI_some hb] at h1
  have h256 := oneL_lt hb
  have H1 := Lib.hid h1
  have hcv := conv1
  clear h1 hb
  go_enter Tryd.func9, Tryd.ntmps9
  go_wp2_with fail
  refine (H1.out _).mono ?_
  rintro e w' ⟨rfl, hb⟩
  have HH := Lib.hid (put_block hb)
  have HB := Lib.hid (put_below hb)
  have HG := Lib.hid (show ∀ o : Obj, (w'.alloc o).heap[w.heap.size]? = _ from fun o => (Below.heap_alloc w' o _ (Array.getElem?_eq_some_iff.1 HH.out).1).trans HH.out)
  clear hb
  go_wp2_with (refine wpList_store_row rfl 27 (.tmp 2) _ rfl w.heap.size (putC 0 (strOfNums [(b : Int)])) rfl rfl 27 _ (HG.out _) info27 rfl (putC_one _ _) ?_)
  exact ⟨rfl, _, put_end rfl rfl (setRow_heap _ _ _ _ _ _ (HG.out _)), rfl, below_setRow (HB.out.alloc HB.out.size _) (Nat.le_refl _) _⟩
set_option maxRecDepth 100000 in
set_option maxHeartbeats 800000 in
theorem rset_none (u : Int) (hn : oneL u = none) (hs : splitL u = none) (w : World) : Calls Tryd.prog 9 #[.int .i32 u] w fun e w' => e = .returned (putV 11 ⟨#[]⟩) ∧ Below w.heap.size w w' := by
  have h1 := rone_b u
  rw [oneI_none hn] at h1
  have h2 := rsplit_b u
  unfold splitV at h2
  rw [hs] at h2
  have H1 := Lib.hid h1
  have H2 := Lib.hid h2
  clear h1 h2 hn hs
  go_enter Tryd.func9, Tryd.ntmps9
  go_wp2_with fail
  refine (H1.out _).mono ?_
  rintro e w' ⟨rfl, hb⟩
  have HH := Lib.hid (put_block hb)
  have HB := Lib.hid (put_below hb)
  clear hb
  go_wp2_with fail
  refine (H2.out _).mono ?_
  rintro e w2 ⟨rfl, hb⟩
  have HH2 := Lib.hid ((hb.block _ (Array.getElem?_eq_some_iff.1 HH.out).1).trans HH.out)
  have HB2 := Lib.hid (below_then HB.out HB.out.size hb)
  clear hb
  go_wp2_with (refine wpList_store_row rfl 27 (.tmp 2) _ rfl w.heap.size (putC 11 ⟨#[]⟩) rfl rfl 27 _ HH2.out info27 rfl (putC_one _ _) ?_)
  exact ⟨rfl, _, put_end rfl rfl (setRow_heap _ _ _ _ _ _ HH2.out), rfl, below_setRow HB2.out (Nat.le_refl _) _⟩
set_option maxRecDepth 100000 in
set_option maxHeartbeats 1600000 in
theorem rset_two (u l m : Int) (a c : Nat) (hn : oneL u = none) (hs : splitL u = some (l, m)) (ha : oneL l = some a) (hm : oneL m = some c) (w : World) :
    Calls Tryd.prog 9 #[.int .i32 u] w fun e w' => e = .returned (putV 0 (strOfNums [(a : Int), (c : Int)])) ∧ Below w.heap.size w w' := by
  have h1 := rone_b u
  rw [oneI_none hn] at h1
  have h2 := rsplit_b u
  unfold splitV at h2
  rw [hs] at h2
  have h3 := rone_b l
  rw [oneI_some ha] at h3
  have h4 := rone_b m
  rw [oneI_some hm] at h4
  have ha256 := oneL_lt ha
  have hc256 := oneL_lt hm
  have H1 := Lib.hid h1
  have H2 := Lib.hid h2
  have H3 := Lib.hid h3
  have H4 := Lib.hid h4
  have hcv := conv2
  clear h1 h2 h3 h4 hn hs ha hm
  go_enter Tryd.func9, Tryd.ntmps9
  go_wp2_with fail
  refine (H1.out _).mono ?_
  rintro e w' ⟨rfl, hb⟩
  have HH := Lib.hid (put_block hb)
  have HB := Lib.hid (put_below hb)
  clear hb
  go_wp2_with fail
  refine (H2.out _).mono ?_
  rintro e w2 ⟨rfl, hb⟩
  have HH2 := Lib.hid ((hb.block _ (Array.getElem?_eq_some_iff.1 HH.out).1).trans HH.out)
  have HB2 := Lib.hid (below_then HB.out HB.out.size hb)
  clear hb HH HB
  go_wp2_with fail
  refine (H3.out _).mono ?_
  rintro e w3 ⟨rfl, hb⟩
  have HH3 := Lib.hid ((hb.block _ (Array.getElem?_eq_some_iff.1 HH2.out).1).trans HH2.out)
  have HB3 := Lib.hid (below_then HB2.out HB2.out.size hb)
  clear hb HH2 HB2
  go_wp2_with fail
  refine (H4.out _).mono ?_
  rintro e w4 ⟨rfl, hb⟩
  have HH4 := Lib.hid ((hb.block _ (Array.getElem?_eq_some_iff.1 HH3.out).1).trans HH3.out)
  have HB4 := Lib.hid (below_then HB3.out HB3.out.size hb)
  clear hb HH3 HB3
  go_wp2_with fail
  refine (H3.out _).mono ?_
  rintro e w5 ⟨rfl, hb⟩
  have HH5 := Lib.hid ((hb.block _ (Array.getElem?_eq_some_iff.1 HH4.out).1).trans HH4.out)
  have HB5 := Lib.hid (below_then HB4.out HB4.out.size hb)
  clear hb HH4 HB4
  go_wp2_with fail
  refine (H4.out _).mono ?_
  rintro e w6 ⟨rfl, hb⟩
  have HH6 := Lib.hid ((hb.block _ (Array.getElem?_eq_some_iff.1 HH5.out).1).trans HH5.out)
  have HB6 := Lib.hid (below_then HB5.out HB5.out.size hb)
  clear hb HH5 HB5
  have HG := Lib.hid (show ∀ o : Obj, (w6.alloc o).heap[w.heap.size]? = _ from fun o => (Below.heap_alloc w6 o _ (Array.getElem?_eq_some_iff.1 HH6.out).1).trans HH6.out)
  go_wp2_with (refine wpList_store_row rfl 27 (.tmp 2) _ rfl w.heap.size (putC 0 (strOfNums [(a : Int), (c : Int)])) rfl rfl 27 _ (HG.out _) info27 rfl (putC_one _ _) ?_)
  exact ⟨rfl, _, put_end rfl rfl (setRow_heap _ _ _ _ _ _ (HG.out _)), rfl, below_setRow (HB6.out.alloc HB6.out.size _) (Nat.le_refl _) _⟩
theorem rset_any (u : Int) (w : World) : Calls Tryd.prog 9 #[.int .i32 u] w fun e w' => e = .returned (putV (setR u).1 (setR u).2) ∧ Below w.heap.size w w' := by
  unfold setR
  cases h : oneL u with
  | some b => exact rset_one u b h w
  | none =>
    cases hs : splitL u with
    | none => exact rset_none u h hs w
    | some p =>
      obtain ⟨l, m⟩ := p
      obtain ⟨k, hk⟩ := split_some hs
      obtain ⟨a, c, ha, hc⟩ := parts_one hk
      simp only [ha, hc]
      exact rset_two u l m a c h hs ha hc w
end Go.Proofs.YtadpmdlajfojiaaDoor
