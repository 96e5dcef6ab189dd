/- Lemmas for the walk of VietBack. -/
import Derived.Test.YtadpmdlajfojiaaDoorVZ
import Derived.Deep.LoopGhost
import Derived.Deep.CutRange
import Derived.Deep.QuietTactic
import Derived.BigQuiet
import Derived.Deep.RegionHeld3
import Derived.OwnWalk
import Derived.Lib.SmallJoins
import Derived.Lib.Builder
import Derived.Lib.ConvBytes
import Derived.Lib.IndexBytes
import Derived.Deep.RegionHeldLaw
namespace Go.Proofs.YtadpmdlajfojiaaDoor
open Go.RowKit
theorem info21 : (Tryd.prog.info? 21).map (fun i => (i.zero, i.size, i.bytes)) = some (some (.int .i32 0), 1, 4) := by kernel_rfl
theorem own_lt {w : World} {B : Nat} {e : TypeId} {v : Value} {n : Nat} {xs : List Value} (h : w.ownsRow B e 1 v n xs) {w' : World} (hb : Below w.heap.size w w') : w'.ownsRow B e 1 v n xs := by
  refine ⟨h.1, ?_⟩
  rcases h.2 with h0 | ⟨g, cap, cur, h1, h2, h3, h4⟩
  · exact .inl h0
  · exact .inr ⟨g, cap, cur, h1, h2, (hb.block g (Array.getElem?_eq_some_iff.1 h3).1).trans h3, h4⟩
theorem one_new (w : World) (x : Value) (t : TypeId) {j : Nat} {u : Value} (hj : [x][j]? = some u) : (w.alloc (.cells #[x] t)).cell? ((⟨w.heap.size, 0, none⟩ : Addr).add j) = some u := by
  match j, hj with
  | 0, hj =>
    simp at hj
    subst hj
    show (w.alloc (.cells #[x] t)).cell? ⟨w.heap.size, 0, none⟩ = _
    rw [cell_of_row _ _ _ _ _ _ (heap_alloc_new _ _)]
    rfl
theorem row_at {w : World} {B g cap n : Nat} {xs : List Int} (h : w.ownsRow B 21 1 (.slice (some ⟨g, 0, none⟩) n cap) n (xs.map (Value.int .i32))) {j : Nat} {x : Int} (hj : xs[j]? = some x) : w.cell? ⟨g, j, none⟩ = some (.int .i32 x) := by
  have := h.cells (g := g) rfl j (.int .i32 x) (by rw [List.getElem?_map, hj]; rfl)
  have e : ((⟨g, 0, none⟩ : Addr).add j) = ⟨g, j, none⟩ := by cases j <;> simp [Addr.add]
  rwa [e] at this
/-- The first loop's world: what is wanted, a row of the call's own. -/
structure WInv (w W : World) (v : Value) (want : List Int) : Prop where
  bl : Below w.heap.size w W
  own : W.ownsRow w.heap.size 21 1 v want.length (want.map (Value.int .i32))
theorem WInv.below {w W X : World} {v : Value} {want : List Int} (h : WInv w W v want) (hb : Below W.heap.size W X) : WInv w X v want :=
  ⟨below_then h.bl h.bl.size hb, own_lt h.own hb⟩
theorem WInv.alloc {w W : World} {v : Value} {want : List Int} (h : WInv w W v want) (o : Obj) : WInv w (W.alloc o) v want := h.below ((Below.refl _ _).alloc (Nat.le_refl _) o)
theorem WInv.drew {w W : World} {v : Value} {want : List Int} (h : WInv w W v want) : WInv w W.drew v want := ⟨h.bl.drew, h.own⟩
theorem pcells {X : World} {p : Nat} {a b c d e f : Value} (H : X.heap[p]? = some (.cells #[a, b, c, d, e, f] 27 (0, 0))) :
    X.cell? ⟨p, 0, none⟩ = some a ∧ X.cell? ⟨p, 1, none⟩ = some b ∧ X.cell? ⟨p, 2, none⟩ = some c ∧ X.cell? ⟨p, 3, none⟩ = some d ∧ X.cell? ⟨p, 4, none⟩ = some e ∧ X.cell? ⟨p, 5, none⟩ = some f := by
  simp only [cell_of_row X _ _ _ _ _ H]
  simp
theorem one_new2 (w : World) (o : Obj) (x : Value) (t : TypeId) {j : Nat} {u : Value} (hj : [x][j]? = some u) : ((w.alloc o).alloc (.cells #[x] t)).cell? ((⟨w.heap.size + 1, 0, none⟩ : Addr).add j) = some u := by
  match j, hj with
  | 0, hj =>
    simp at hj
    subst hj
    show ((w.alloc o).alloc (.cells #[x] t)).cell? ⟨w.heap.size + 1, 0, none⟩ = _
    rw [cell_of_row _ _ _ _ _ _ (heap_alloc2_new _ _ _)]
    rfl
/-- Behind an append to what is wanted. -/
theorem WInv.grown {w W X : World} {v v' : Value} {want : List Int} {y : Int} (h : WInv w W v want) (ho : X.ownsRow w.heap.size 21 1 v' (want.length + 1) (want.map (Value.int .i32) ++ [.int .i32 y])) (hg : W.grownBy X v.ownBlock) : WInv w X v' (want ++ [y]) :=
  ⟨h.bl.grown hg h.bl.size (fun q hq => (h.own.lt q hq).1), by simpa using ho⟩
theorem WInv.kept {w W X : World} {v : Value} {want : List Int} {p : Nat} {o : Obj} (h : WInv w W v want) (hp : W.heap[p]? = some o) (hk : ∀ g, v.ownBlock = some g → g ≠ p) (hg : W.grownBy X v.ownBlock) : X.heap[p]? = some o :=
  (hg.block p (Array.getElem?_eq_some_iff.1 hp).1 (fun e => hk p e.symm rfl)).trans hp
/-- The first loop's relation. -/
def WRel (w wr : World) (v : Value) (t : ByteArray) (k : Nat) : Prop :=
  ∃ want : List Int, WInv w wr v want ∧ Runs want (bytesL t) ∧ want.length ≤ k ∧ t.size ≤ 2 * k ∧ (want = [] → v = .slice none 0 0)
theorem below_bytes {B : Nat} {w W : World} (h : Below B w W) (hB : B ≤ W.heap.size) (e : TypeId) (s : ByteArray) : Below B w (Lib.bytesWorld W e s) := by
  refine h.trans ⟨?_, ?_, ?_, by rw [Lib.bytesWorld_size]; omega, fun i hi => Lib.bytesWorld_at_old W e s i (by omega)⟩ <;> (simp [Lib.bytesWorld, World.freeze]; try rfl)
theorem first_bytes (W : World) (y : Nat) (hy : y < 256) : First (Lib.bytesWorld W 5 (strOfNums [(y : Int)])) (some ⟨W.heap.size, 0, none⟩) (strOfNums [(y : Int)]).size (some (y : Int)) := by
  refine .inr ⟨_, y, by simp [strOfNums_size], by simp [strOfNums_size], rfl, rfl, by omega, by omega, ?_⟩
  rw [Lib.bytesWorld_cell W 5 _ 0 (by simp [strOfNums_size]), strOfNums_data]
  simp
  omega
/-- One byte of a text. -/
theorem byte_text (t : ByteArray) (j : Nat) (h : j < t.size) : ∃ y : Nat, y < 256 ∧ (bytesL t).getD j 0 = (y : Int) ∧ t.extract j (j + 1) = strOfNums [(y : Int)] := by
  have hl : j < t.data.toList.length := by rw [← Lib.size_eq]; exact h
  refine ⟨(t.data.toList[j]'hl).toNat, (t.data.toList[j]'hl).toNat_lt, ?_, ?_⟩
  · unfold bytesL
    rw [List.getD_eq_getElem?_getD, List.getElem?_map, List.getElem?_eq_getElem hl]
    rfl
  · apply ByteArray.ext
    apply Array.toList_inj.1
    rw [Lib.extract_data, strOfNums_data, List.drop_eq_getElem_cons hl]
    simp
/-- The second loop's world: what is wanted, what has come, what is held. -/
structure LInv (w W : World) (B q : Nat) (v : Value) (want : List Int) (v2 : Value) (got : List Int) (z : Int) : Prop where
  wi : WInv w W v want
  vb : ∀ g, v.ownBlock = some g → g < q
  lo : w.heap.size ≤ q
  qb : q < B
  sz : B ≤ W.heap.size
  own : W.ownsRow B 21 1 v2 got.length (got.map (Value.int .i32))
  st : W.heap[q]? = some (.cells #[.int .i64 0, .int .i64 0, .int .u32 0, .int .i32 z] 25 (0, 0))
theorem LInv.below {w W X : World} {B q : Nat} {v : Value} {want : List Int} {v2 : Value} {got : List Int} {z : Int} (h : LInv w W B q v want v2 got z) (hb : Below W.heap.size W X) : LInv w X B q v want v2 got z :=
  ⟨h.wi.below hb, h.vb, h.lo, h.qb, Nat.le_trans h.sz hb.size, own_lt h.own hb, (hb.block _ (Array.getElem?_eq_some_iff.1 h.st).1).trans h.st⟩
theorem LInv.alloc {w W : World} {B q : Nat} {v : Value} {want : List Int} {v2 : Value} {got : List Int} {z : Int} (h : LInv w W B q v want v2 got z) (o : Obj) : LInv w (W.alloc o) B q v want v2 got z := h.below ((Below.refl _ _).alloc (Nat.le_refl _) o)
theorem LInv.drew {w W : World} {B q : Nat} {v : Value} {want : List Int} {v2 : Value} {got : List Int} {z : Int} (h : LInv w W B q v want v2 got z) : LInv w W.drew B q v want v2 got z :=
  ⟨h.wi.drew, h.vb, h.lo, h.qb, h.sz, h.own, h.st⟩
theorem LInv.cells {w W : World} {B q : Nat} {v : Value} {want : List Int} {v2 : Value} {got : List Int} {z : Int} (h : LInv w W B q v want v2 got z) : W.cell? ⟨q, 0, none⟩ = some (.int .i64 0) ∧ W.cell? ⟨q, 1, none⟩ = some (.int .i64 0) ∧ W.cell? ⟨q, 2, none⟩ = some (.int .u32 0) ∧ W.cell? ⟨q, 3, none⟩ = some (.int .i32 z) := by
  simp only [cell_of_row W _ _ _ _ _ h.st]
  simp
theorem LInv.grown {w W X : World} {B q : Nat} {v : Value} {want : List Int} {v2 v' : Value} {got : List Int} {z y : Int} (h : LInv w W B q v want v2 got z) (ho : X.ownsRow B 21 1 v' (got.length + 1) (got.map (Value.int .i32) ++ [.int .i32 y])) (hg : W.grownBy X v2.ownBlock) : LInv w X B q v want v' (got ++ [y]) z := by
  have hap : ∀ g, v2.ownBlock = some g → B ≤ g := fun g e => (h.own.lt g e).1
  have hq := h.qb
  have hlo := h.lo
  refine ⟨⟨h.wi.bl.grown hg h.wi.bl.size (fun g e => by have := hap g e; omega), h.wi.own.kept hg ?_⟩, h.vb, h.lo, h.qb, Nat.le_trans h.sz hg.size, by simpa using ho, (hg.block q (Array.getElem?_eq_some_iff.1 h.st).1 (fun e => by have := hap q e.symm; omega)).trans h.st⟩
  cases hv : v.ownBlock with
  | none => exact .inl rfl
  | some g =>
    refine .inr (fun e => ?_)
    have h1 := h.vb g hv
    have h2 := hap g e.symm
    omega
theorem LInv.keeps {w W X : World} {B q p : Nat} {v : Value} {want : List Int} {v2 : Value} {got : List Int} {z : Int} {cs : Array Value} {T : TypeId} (h : LInv w W B q v want v2 got z) (hp : W.heap[p]? = some (.cells cs T (0, 0))) (hT : T ≠ 21) (hg : W.grownBy X v2.ownBlock) : X.heap[p]? = some (.cells cs T (0, 0)) :=
  (hg.block p (Array.getElem?_eq_some_iff.1 hp).1 (fun e => Lib.ownBlock_ne h.own hp hT e.symm)).trans hp
theorem LInv.turn {w W : World} {B q : Nat} {v : Value} {want : List Int} {v2 : Value} {got : List Int} {z : Int} (h : LInv w W B q v want v2 got z) (z' : Int) : LInv w (W.setRow q #[.int .i64 0, .int .i64 0, .int .u32 0, .int .i32 z']) B q v want v2 got z' := by
  have hoth : ∀ {B' : Nat} {u : Value} {n : Nat} {xs : List Value}, W.ownsRow B' 21 1 u n xs → (W.setRow q #[.int .i64 0, .int .i64 0, .int .u32 0, .int .i32 z']).ownsRow B' 21 1 u n xs := by
    intro B' u n xs ho
    refine ⟨ho.1, ?_⟩
    rcases ho.2 with h0 | ⟨g, cap, cur, h1, h2, h3, h4⟩
    · exact .inl h0
    · refine .inr ⟨g, cap, cur, h1, h2, (setRow_other W q g _ (fun e => ?_)).trans h3, h4⟩
      have := h.st
      rw [← e, h3] at this
      simp at this
  exact ⟨⟨below_setRow h.wi.bl h.lo _, hoth h.wi.own⟩, h.vb, h.lo, h.qb, by have := h.sz; simpa [World.setRow] using this, hoth h.own, setRow_heap W q _ _ _ _ h.st⟩
theorem LInv.setg {w W : World} {B q p : Nat} {v : Value} {want : List Int} {v2 : Value} {got : List Int} {z : Int} {cs : Array Value} (h : LInv w W B q v want v2 got z) (hp : W.heap[p]? = some (.cells cs 34 (0, 0))) (hB : B ≤ p) (cs' : Array Value) : LInv w (W.setRow p cs') B q v want v2 got z := by
  have hoth : ∀ {B' : Nat} {u : Value} {n : Nat} {xs : List Value}, W.ownsRow B' 21 1 u n xs → (W.setRow p cs').ownsRow B' 21 1 u n xs := by
    intro B' u n xs ho
    refine ⟨ho.1, ?_⟩
    rcases ho.2 with h0 | ⟨g, cap, cur, h1, h2, h3, h4⟩
    · exact .inl h0
    · refine .inr ⟨g, cap, cur, h1, h2, (setRow_other W p g _ (fun e => ?_)).trans h3, h4⟩
      rw [← e, h3] at hp
      simp at hp
  have h1 := h.qb
  have h2 := h.lo
  exact ⟨⟨below_setRow h.wi.bl (by omega) _, hoth h.wi.own⟩, h.vb, h.lo, h.qb, by have := h.sz; simpa [World.setRow] using this, hoth h.own, (setRow_other W p q _ (by omega)).trans h.st⟩
theorem own_form {w : World} {B n : Nat} {v : Value} {xs : List Value} (h : w.ownsRow B 21 1 v n xs) : ∃ A cap, v = .slice A n cap ∧ (0 < n → ∃ g, A = some ⟨g, 0, none⟩) := by
  rcases Joins.ownsRow_forms h with ⟨rfl, rfl⟩ | ⟨g, cap, rfl⟩
  · exact ⟨none, 0, rfl, fun h => absurd h (Nat.lt_irrefl 0)⟩
  · exact ⟨_, cap, rfl, fun _ => ⟨g, rfl⟩⟩
theorem LInv.start {w W : World} {v : Value} {want : List Int} (h : WInv w W v want) : LInv w (W.alloc (.cells #[.int .i64 0, .int .i64 0, .int .u32 0, .int .i32 0] 25)) (W.heap.size + 1) W.heap.size v want (.slice none 0 0) [] 0 :=
  ⟨h.alloc _, fun g e => (h.own.lt g e).2, h.bl.size, by omega, by simp, World.ownsRow_nil _ _ _ _, heap_alloc_new W _⟩
end Go.Proofs.YtadpmdlajfojiaaDoor
