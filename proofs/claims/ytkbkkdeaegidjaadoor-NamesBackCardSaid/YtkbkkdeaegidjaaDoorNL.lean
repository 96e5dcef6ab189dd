/- A range over a function that keeps its own state in one cell: the law, at the plain fence. -/
import Derived.Test.YtkbkkdeaegidjaaDoorNE
import Derived.RangeFuncRecord
import Derived.RangeFuncIn
import Derived.RangeFuncSeq
import Derived.RangeFuncLeaves
namespace Go.Proofs.YtkbkkdeaegidjaaDoor
open Go.RowKit
/-- What speaks of nothing but what the iterator leaves alone. -/
def Stays (bs : Nat) (J : List ByteArray → World → Prop) : Prop := ∀ pre A B, J pre A → A.grownBy B (some bs) → J pre B
/-- The iterator g, its captured values lb, its state in block bs: it hands on these parts, one by one. -/
def Iterates (P : Program) (n : Nat) (g : Nat) (lb : Array Value) (bs l : Nat) (parts : List ByteArray) (W : World) : Prop :=
  ∀ J Jx : List ByteArray → World → Prop, Stays bs J → Stays bs Jx →
    (∀ pre x A, J pre A → (∃ r, parts = pre ++ x :: r) → YieldAt Fence.wide (n - 1) P l #[.string x] A fun e B => (e = .returned (.bool true) ∧ J (pre ++ [x]) B ∧ Below A.heap.size A B) ∨ (e = .returned (.bool false) ∧ Jx (pre ++ [x]) B)) →
    J [] W → CallsIn Fence.wide n P g (#[.func (.yield l) #[] #[]] ++ lb) W fun e B => (∃ v, e = .returned v) ∧ (J parts B ∨ ∃ pre, Jx pre B)
/-- What the caller's own word may speak of. -/
def Own1 (N bs : Nat) (I : List ByteArray → World → Prop) : Prop := ∀ pre A B row, I pre A → A.grownBy B row → (∀ r, row = some r → r = bs ∨ N ≤ r) → I pre B
/-- How a round may be left: it goes on and has left all that lay; or it returns and has left the loop's own blocks. -/
def leftBy (N : Nat) (I Ix : List ByteArray → World → Prop) (xs : List ByteArray) (W : World) : Exit → Act → World → Prop
  | .normal, _, W' => Below W.heap.size W W' ∧ I xs W'
  | .ret, _, W' => (∀ k, N ≤ k → k ≤ N + 1 → W'.heap[k]? = W.heap[k]?) ∧ Ix xs W'
  | _, _, _ => False
theorem grown_put (W : World) (l : Nat) (o : Obj) : W.grownBy (W.putObj l o) (some l) :=
  ⟨rfl, rfl, rfl, by rw [World.putObj_size]; exact Nat.le_refl _, fun k _ hk => World.putObj_heap_other (fun e => hk (by rw [e]))⟩
theorem put_twice {A B : World} {l : Nat} {o o' : Obj} (hl : A.heap[l]? = some o) (hb : Below (A.putObj l o').heap.size (A.putObj l o') B) : Below A.heap.size A (B.putObj l o) := by
  have hlt := (Array.getElem?_eq_some_iff.1 hl).1
  refine ⟨hb.os, hb.tape, hb.output, by rw [World.putObj_size]; exact Nat.le_trans (by rw [World.putObj_size]; exact Nat.le_refl _) hb.size, fun k hk => ?_⟩
  have hs := hb.size
  rw [World.putObj_size] at hs
  by_cases h : k = l
  · subst h
    rw [World.putObj_heap_same (by omega), hl]
  · rw [World.putObj_heap_other h, hb.block k (by rw [World.putObj_size]; exact hk), World.putObj_heap_other h]
set_option maxHeartbeats 800000 in
theorem range_one {P : Program} {n : Nat} {g : Operand} {ps : Array Tmp} {assign body : Code} {Q : Exit → Act → World → Prop} {a : Act} {w : World} {gf bs : Nat} {lb : Array Value} {parts : List ByteArray}
    (hg : a.eval g = .func (.func gf) #[] lb) (eg : ∀ args w, (callFunc gf args).run P w = .ok (.enter gf args) w) (hps : ps.size = 1) (hbs : bs < w.heap.size)
    (hit : ∀ l W, Below w.heap.size w W → Iterates P (n - 1) gf lb bs l parts W)
    (I Ix : List ByteArray → World → Prop) (hI : Own1 w.heap.size bs I) (hIx : Own1 w.heap.size bs Ix) (h0 : I [] w) (a₁ : ByteArray → Act)
    (hassign : ∀ (l : Nat) (x : ByteArray) (W : World) (K : Act → World → Prop), K (a₁ x) W →
      assign.wpIn (Fence.wide.inRound l) (n - 1 - 1) P (Exit.then K (fun _ _ _ => False)) { tmps := (ps.zip #[Value.string x]).foldl (fun t (p, v) => t.setIfInBounds p v) a.tmps, defers := [] } W)
    (hbody : ∀ (l : Nat) (pre : List ByteArray) (x : ByteArray) (W : World), w.heap.size + 1 < W.heap.size → I pre W → (∃ r, parts = pre ++ x :: r) → body.wpIn (Fence.wide.inRound l) (n - 1 - 1) P (leftBy w.heap.size I Ix (pre ++ [x]) W) (a₁ x) W)
    (hdone : ∀ (D : Nat) (W : World), w.heap.size ≤ D → I parts W → W.heap[D]? = some (.deferred (some [])) → Q .normal { a with defers := { target := .collected D, args := #[] } :: a.defers } W)
    (hstop : ∀ (D : Nat) (pre : List ByteArray) (W : World), w.heap.size ≤ D → Ix pre W → W.heap[D]? = some (.deferred (some [])) → Code.ret.wpIn Fence.wide n P Q { a with defers := { target := .collected D, args := #[] } :: a.defers } W) :
    (Code.rangeFunc g ps assign body).wpIn Fence.wide n P Q a w := by
  refine wpIn_rangeFunc fun fn hfn => ?_
  -- the two blocks that the machine lays: D for the rounds' deferred calls, L for the record
  let R : LoopState → Option Code → Loop := fun st pe => { state := st, pending := pe, fn, tmps := a.tmps, params := ps, assign, body, defers := w.heap.size }
  have hent := run_enterLoop_outer (P := P) (w := w) fn a.tmps ps assign body
  generalize hW : (w.alloc (.deferred (some []))).alloc (.loop (R .ready none)) = W1 at hent
  have hbel : Below w.heap.size w W1 := by rw [← hW]; exact ((Below.refl _ _).alloc (Nat.le_refl _) _).alloc (by simp) _
  have hD1 : W1.heap[w.heap.size]? = some (.deferred (some [])) := by rw [← hW]; exact heap_alloc2_old w _ _
  have hL1 : W1.heap[w.heap.size + 1]? = some (.loop (R .ready none)) := by rw [← hW]; exact heap_alloc2_new w _ _
  have hg1 : w.grownBy W1 none := ⟨hbel.os, hbel.tape, hbel.output, hbel.size, fun k hk _ => hbel.block k hk⟩
  -- what stands between two rounds; what stands when one has returned
  let J : List ByteArray → World → Prop := fun pre A => I pre A ∧ A.heap[w.heap.size + 1]? = some (.loop (R .ready none)) ∧ A.heap[w.heap.size]? = some (.deferred (some []))
  let Jx : List ByteArray → World → Prop := fun pre A => Ix pre A ∧ A.heap[w.heap.size + 1]? = some (.loop (R .done (some .ret))) ∧ A.heap[w.heap.size]? = some (.deferred (some []))
  have keep : ∀ {A B : World} {k : Nat} {o : Obj}, A.grownBy B (some bs) → w.heap.size ≤ k → A.heap[k]? = some o → B.heap[k]? = some o := fun hgr hk ho =>
    (hgr.block _ (Array.getElem?_eq_some_iff.1 ho).1 (fun e => by cases e; omega)).trans ho
  have hJ : Stays bs J := fun pre A B ⟨h1, h2, h3⟩ hgr => ⟨hI pre A B _ h1 hgr (fun r e => by cases e; exact .inl rfl), keep hgr (by omega) h2, keep hgr (by omega) h3⟩
  have hJx : Stays bs Jx := fun pre A B ⟨h1, h2, h3⟩ hgr => ⟨hIx pre A B _ h1 hgr (fun r e => by cases e; exact .inl rfl), keep hgr (by omega) h2, keep hgr (by omega) h3⟩
  refine ⟨w.heap.size + 1, [{ target := .collected w.heap.size, args := #[] }], W1, { target := .fn (.func gf) lb, args := #[.func (.yield (w.heap.size + 1)) #[] #[]] }, W1, gf, #[.func (.yield (w.heap.size + 1)) #[] #[]] ++ lb, W1,
    hent, by simp only [resolve, hg]; simp [go_sem], fun _ _ => trivial, by simp [invoke, go_sem, eg], (fun h => by cases h), ?_⟩
  refine ((hit (w.heap.size + 1) W1 hbel) J Jx hJ hJx ?round ⟨hI _ _ _ _ h0 hg1 (fun r e => by cases e), hL1, hD1⟩).mono ?_
  case round =>
    rintro pre x A ⟨hi, hl, hd⟩ hx
    have hlt := (Array.getElem?_eq_some_iff.1 hl).1
    refine ⟨fn, _, assign, body, run_yield (P := P) (args := #[.string x]) hl (by show (1 : Nat) = ps.size; rw [hps]), roundIn_of_wpIn hfn (hassign _ x A _ ⟨_, run_beginRound hl rfl, ?_⟩)⟩
    have hgp := grown_put A (w.heap.size + 1) (.loop { R .ready none with state := .busy })
    have hl2 : (A.putObj (w.heap.size + 1) (.loop { R .ready none with state := .busy })).heap[w.heap.size + 1]? = some (.loop { R .ready none with state := .busy }) := World.putObj_heap_same hlt
    have hd2 : (A.putObj (w.heap.size + 1) (.loop { R .ready none with state := .busy })).heap[w.heap.size]? = some (.deferred (some [])) := (World.putObj_heap_other (by omega)).trans hd
    refine wpIn_mono (hbody _ pre x _ (by rw [World.putObj_size]; exact hlt) (hI pre A _ _ hi hgp (fun r e => by cases e; exact .inr (by omega))) hx) ?_
    rintro e a3 B hp
    cases e with
    | normal =>
      obtain ⟨hb, hi3⟩ := hp
      have hl3 := (hb.block _ (Array.getElem?_eq_some_iff.1 hl2).1).trans hl2
      have hd3 := (hb.block _ (Array.getElem?_eq_some_iff.1 hd2).1).trans hd2
      refine ⟨_, _, run_endRound (P := P) none hl3, .inl ⟨rfl, ⟨hI _ _ _ _ hi3 (grown_put B (w.heap.size + 1) _) (fun r e => by cases e; exact .inr (by omega)), World.putObj_heap_same (Array.getElem?_eq_some_iff.1 hl3).1, (World.putObj_heap_other (by omega)).trans hd3⟩, put_twice hl hb⟩⟩
    | ret =>
      obtain ⟨hb, hi3⟩ := hp
      have hl3 := (hb _ (Nat.le_succ _) (Nat.le_refl _)).trans hl2
      have hd3 := (hb _ (Nat.le_refl _) (Nat.le_succ _)).trans hd2
      refine ⟨_, _, run_endRound (P := P) (some .ret) hl3, .inr ⟨rfl, hIx _ _ _ _ hi3 (grown_put B (w.heap.size + 1) _) (fun r e => by cases e; exact .inr (by omega)), World.putObj_heap_same (Array.getElem?_eq_some_iff.1 hl3).1, (World.putObj_heap_other (by omega)).trans hd3⟩⟩
    | exit _ => exact hp.elim
    | goto _ => exact hp.elim
    | panic _ => exact hp.elim
    | outgrown => exact hp.elim
  rintro e B ⟨⟨v, rfl⟩, ⟨hi, hl, hd⟩ | ⟨pre, hi, hl, hd⟩⟩
  · exact ⟨none, _, run_endLoop (P := P) hl (by intro h; cases h), hdone _ _ (Nat.le_refl _) (hI _ _ _ _ hi (grown_put B (w.heap.size + 1) _) (fun r e => by cases e; exact .inr (by omega))) ((World.putObj_heap_other (by omega)).trans hd)⟩
  · exact ⟨some .ret, _, run_endLoop (P := P) hl (by intro h; cases h), hstop _ pre _ (Nat.le_refl _) (hIx _ _ _ _ hi (grown_put B (w.heap.size + 1) _) (fun r e => by cases e; exact .inr (by omega))) ((World.putObj_heap_other (by omega)).trans hd)⟩
end Go.Proofs.YtkbkkdeaegidjaaDoor
