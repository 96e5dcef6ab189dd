/- Set, the program's and the reference's. -/
import Derived.Test.YtadpmdlajfojiaaDoorVJ
import Derived.Laws.BytesArg
namespace Go.Proofs.YtadpmdlajfojiaaDoor
open Go.RowKit
def putC (e : Int) (s : ByteArray) : Array Value := #[.int .i64 e, .string s, .int .i64 0, .int .i64 0, .int .u32 0, .int .i32 0]
theorem putC_one (e : Int) (s : ByteArray) : (putC e s).all (·.oneCell') = true := by simp [putC, Value.oneCell']
/-- What Set hands back. -/
def putV (e : Int) (s : ByteArray) : Value := .agg #[.int .i64 e, .string s, .int .i64 0, .int .i64 0, .int .u32 0, .int .i32 0]
theorem conv1 (g : Nat) (x : Int) (W : World) (h : W.heap.size = g) :
    (convert 30 9 (.slice (some ⟨g, 0, none⟩) 1 1)).run Tryd.prog (W.alloc (.cells #[.int .u8 x] 5)) = .ok (.string (strOfNums [x])) (W.alloc (.cells #[.int .u8 x] 5)) := by
  subst h
  refine run_convert_bytes_arg _ 30 5 Tryd.underlying30 Tryd.underlying5 W.heap.size 0 1 1 [x] rfl (fun i hi => ?_) 9 Tryd.underlying9
  have : i = 0 := by omega
  subst this
  simp
theorem conv2 (g : Nat) (x y : Int) (W : World) (h : W.heap.size = g) :
    (convert 30 9 (.slice (some ⟨g, 0, none⟩) 2 2)).run Tryd.prog (W.alloc (.cells #[.int .u8 x, .int .u8 y] 5)) = .ok (.string (strOfNums [x, y])) (W.alloc (.cells #[.int .u8 x, .int .u8 y] 5)) := by
  subst h
  refine run_convert_bytes_arg _ 30 5 Tryd.underlying30 Tryd.underlying5 W.heap.size 0 2 2 [x, y] rfl (fun i hi => ?_) 9 Tryd.underlying9
  rcases (show i = 0 ∨ i = 1 by omega) with rfl | rfl <;> simp
set_option maxRecDepth 100000 in
set_option maxHeartbeats 800000 in
theorem set_one (u : Int) (b : Nat) (hb : oneL u = some b) (w : World) (hw : ListAt w) : Calls Tryd.prog 8 #[.int .i32 u] w fun e w' => e = .returned (putV 0 (strOfNums [(b : Int)])) ∧ Below w.heap.size w w' := by
  have h1 := one_calls u
  rw [hb] at h1
  have H1 := Lib.hid h1
  have HW := Lib.hid hw
  have hcv := conv1
  clear h1 hw hb
  go_enter Tryd.func8, Tryd.ntmps8
  go_wp2_with fail
  refine (H1.out _ (HW.out.below ((Below.refl _ _).alloc (Nat.le_refl _) _))).mono ?_
  rintro e w' ⟨rfl, rfl⟩
  go_wp2_with fail
  exact bodyPost_ret (v := putV 0 (strOfNums [(b : Int)])) (by simp [results, Tryd.results8, go_sem, putV]) rfl ⟨rfl, ((Below.refl _ _).alloc (Nat.le_refl _) _).alloc (by simp) _⟩
theorem below_setRow {B g : Nat} {w W : World} (h : Below B w W) (hg : B ≤ g) (cs : Array Value) : Below B w (W.setRow g cs) :=
  ⟨h.os, h.tape, h.output, by simpa using h.size, fun i hi => (setRow_other W g i cs (by omega)).trans (h.block i hi)⟩
/-- The result's block, as the call has laid it. -/
theorem put_block {w w' : World} {o : Obj} (hb : Below (w.alloc o).heap.size (w.alloc o) w') : w'.heap[w.heap.size]? = some o :=
  (hb.block _ (by simp)).trans (heap_alloc_new w o)
theorem put_below {w w' : World} {o : Obj} (hb : Below (w.alloc o).heap.size (w.alloc o) w') : Below w.heap.size w w' := ((Below.refl _ _).alloc (Nat.le_refl _) _).trans (hb.mono (by simp))
theorem info27 : (Tryd.prog.info? 27).map (·.size) = some 6 := by kernel_rfl
/-- The end: the result's block holds the result. -/
theorem put_end {w W : World} {fn : Func} {p : Nat} (hr : fn.results = #[.cell p 27]) {tmps : Array Value} (hp : tmps.getD p undef = .pointer (some ⟨w.heap.size, 0, none⟩)) {e : Int} {s : ByteArray}
    (hh : W.heap[w.heap.size]? = some (.cells #[.int .i64 e, .string s, .int .i64 0, .int .i64 0, .int .u32 0, .int .i32 0] 27 (0, 0))) : (results fn tmps).run Tryd.prog W = .ok (putV e s) W :=
  results_cell_row hr _ _ _ 27 _ (0, 0) _ hp hh Tryd.underlying27 rfl info27
set_option maxRecDepth 100000 in
set_option maxHeartbeats 800000 in
theorem set_none (u : Int) (hn : oneL u = none) (hs : splitL u = none) (w : World) (hw : ListAt w) : Calls Tryd.prog 8 #[.int .i32 u] w fun e w' => e = .returned (putV 11 ⟨#[]⟩) ∧ Below w.heap.size w w' := by
  have h1 := one_calls u
  rw [hn] at h1
  have h2 := split_calls u
  unfold splitV at h2
  rw [hs] at h2
  have H1 := Lib.hid h1
  have H2 := Lib.hid h2
  have HW := Lib.hid hw
  clear h1 h2 hn hs hw
  go_enter Tryd.func8, Tryd.ntmps8
  go_wp2_with fail
  refine (H1.out _ (HW.out.below ((Below.refl _ _).alloc (Nat.le_refl _) _))).mono ?_
  rintro e w' ⟨rfl, rfl⟩
  go_wp2_with fail
  refine (H2.out _).mono ?_
  rintro e w' ⟨rfl, hb⟩
  have HH := Lib.hid (put_block hb)
  have HB := Lib.hid (put_below hb)
  clear hb
  go_wp2_with (refine wpList_store_row rfl 27 (.tmp 2) _ rfl w.heap.size (putC 11 ⟨#[]⟩) rfl rfl 27 _ HH.out info27 rfl (putC_one _ _) ?_)
  exact ⟨rfl, _, put_end rfl rfl (setRow_heap _ _ _ _ _ _ HH.out), rfl, below_setRow HB.out (Nat.le_refl _) _⟩
set_option maxRecDepth 100000 in
set_option maxHeartbeats 1600000 in
theorem set_two (u l m : Int) (a c : Nat) (hn : oneL u = none) (hs : splitL u = some (l, m)) (ha : oneL l = some a) (hm : oneL m = some c) (w : World) (hw : ListAt w) :
    Calls Tryd.prog 8 #[.int .i32 u] w fun e w' => e = .returned (putV 0 (strOfNums [(a : Int), (c : Int)])) ∧ Below w.heap.size w w' := by
  have h1 := one_calls u
  rw [hn] at h1
  have h2 := split_calls u
  unfold splitV at h2
  rw [hs] at h2
  have h3 := one_calls l
  rw [ha] at h3
  have h4 := one_calls m
  rw [hm] at h4
  have H1 := Lib.hid h1
  have H2 := Lib.hid h2
  have H3 := Lib.hid h3
  have H4 := Lib.hid h4
  have HW := Lib.hid hw
  have hcv := conv2
  clear h1 h2 h3 h4 hn hs ha hm hw
  go_enter Tryd.func8, Tryd.ntmps8
  go_wp2_with fail
  refine (H1.out _ (HW.out.below ((Below.refl _ _).alloc (Nat.le_refl _) _))).mono ?_
  rintro e w' ⟨rfl, rfl⟩
  go_wp2_with fail
  refine (H2.out _).mono ?_
  rintro e w' ⟨rfl, hb⟩
  have HH := Lib.hid (put_block hb)
  have HB := Lib.hid (put_below hb)
  have HL := Lib.hid (HW.out.below HB.out)
  clear hb
  go_wp2_with fail
  refine (H3.out _ HL.out).mono ?_
  rintro e w2 ⟨rfl, rfl⟩
  go_wp2_with fail
  refine (H4.out _ HL.out).mono ?_
  rintro e w2 ⟨rfl, rfl⟩
  have HG := Lib.hid (show ∀ o : Obj, (w'.alloc o).heap[w.heap.size]? = _ from fun o => (Below.heap_alloc w' o _ (Array.getElem?_eq_some_iff.1 HH.out).1).trans HH.out)
  go_wp2_with (refine wpList_store_row rfl 27 (.tmp 2) _ rfl w.heap.size (putC 0 (strOfNums [(a : Int), (c : Int)])) rfl rfl 27 _ (HG.out _) info27 rfl (putC_one _ _) ?_)
  exact ⟨rfl, _, put_end rfl rfl (setRow_heap _ _ _ _ _ _ (HG.out _)), rfl, below_setRow (HB.out.alloc HB.out.size _) (Nat.le_refl _) _⟩
end Go.Proofs.YtadpmdlajfojiaaDoor
