/- A function that hands back one array literal of structs: its contract, the literal's parts reckoned by the kernel. -/
import Derived.Below
import Derived.WalkKit
import Derived.KernelRfl
import Derived.Laws.Rows
import Derived.Laws.Tables
namespace Go.Proofs.YtkbkkdeaegidjaaDoor
open Go.RowKit
section
variable {P : Program}

/-- Operations that build alone, carried out one behind the other. -/
def runB (P : Program) : List Oper → Act → Option Act
  | [], a => some a
  | o :: r, a => match o.guard, o.op with
    | none, .build t parts => match P.built t (parts.map fun (i, x) => (i, a.eval x)).toList with
      | some cs => runB P r (a.put o.dst (.agg cs))
      | none => none
    | _, _ => none

theorem wpList_builds {ops : Array Oper} {Q : Exit → Act → World → Prop} {rest : List Oper} {w : World} {a' : Act} :
    ∀ (l : List Oper) (a : Act), runB P l a = some a' → wpList P ops Q rest a' w → wpList P ops Q (l ++ rest) a w := by
  intro l
  induction l with
  | nil => intro a h hk; simp only [runB, Option.some.injEq] at h; subst h; exact hk
  | cons o r ih =>
    intro a h hk
    obtain ⟨dst, op, ty, pos, after, guard⟩ := o
    cases guard with
    | some g => simp [runB] at h
    | none =>
      cases op <;> try (simp [runB] at h; done)
      case build t parts =>
        simp only [runB] at h
        cases hb : P.built t (parts.map fun (i, x) => (i, a.eval x)).toList with
        | none => simp only [hb] at h; cases h
        | some cs =>
          simp only [hb] at h
          refine wpList_build rfl t parts rfl (by rw [hb]; rfl) ?_
          rw [hb]
          exact ih _ h hk

/-- The body's shape. -/
def tabOps (fn : Func) : List Oper := match fn.body with
  | some (.seq _ (.seq (.region _ ops _) _)) => ops.toList
  | _ => []
def tabShape (fn : Func) (T : TypeId) (n tmp : Nat) : Bool := match fn.body with
  | some (.seq (.region _ o0 false) (.seq (.region _ ops false) .ret)) => (match o0.toList with
    | [⟨some 0, .alloc T', _, _, _, none⟩] => T' == T
    | _ => false) && (match ops.toList.drop n with
    | [⟨none, .store T' (.tmp 0) (.tmp k), _, _, _, none⟩] => T' == T && k == tmp
    | _ => false)
  | _ => false

def aggD : TypeDesc → Bool
  | .struct _ | .array _ _ => true
  | _ => false

theorem calls_table {f : FuncId} {fn : Func} {T : TypeId} {n tmp : Nat} {z cells : Array Value} {d : TypeDesc} (hf : P.funcs[f]? = some fn)
    (hs : tabShape fn T n tmp = true) (hr : fn.results = #[.cell 0 T]) (_h0 : decide (0 < fn.ntmps) = true)
    (hz : ∀ w, (zeroValue T).run P w = .ok (.agg z) w)
    (hrun : ∀ g : Nat, (runB P ((tabOps fn).take n) { tmps := (Array.replicate fn.ntmps undef).setIfInBounds 0 (.pointer (some ⟨g, 0, none⟩)), defers := [] }).map (fun a => (a.tmps.getD 0 undef, a.tmps.getD tmp undef, a.defers)) = some (.pointer (some ⟨g, 0, none⟩), .agg cells, []))
    (hi : (P.info? T).map (·.size) = some cells.size) (hold : z.size = cells.size) (h1 : cells.all (·.oneCell') = true)
    (hu : P.underlying T = some d) (hd : aggD d = true) (w : World) :
    Calls P f #[] w fun e w' => e = .returned (.agg cells) ∧ Below w.heap.size w w' := by
  unfold tabShape at hs
  split at hs
  · rename_i i0 o0 i1 ops hb
    simp only [Bool.and_eq_true] at hs
    obtain ⟨hA, hB⟩ := hs
    split at hA
    · rename_i T' ty pos after ho
      split at hB
      · rename_i T2 k ty2 pos2 after2 hst
        simp only [beq_iff_eq, Bool.and_eq_true] at hA hB
        subst hA
        obtain ⟨rfl, rfl⟩ := hB
        refine calls_of_wp hf hb ?_
        refine wp_seq_k fun K hK => ?_
        refine wp_region_list ?_
        rw [ho]
        refine wpList_plain rfl fun K' hK' => ?_
        go_simp
        refine hK' _ _ ?_
        refine wpList_nil ?_
        refine hK _ _ ?_
        clear hK hK' K K'
        refine wp_seq_k fun K hK => ?_
        refine wp_region_list ?_
        have ht : tabOps fn = ops.toList := by unfold tabOps; rw [hb]
        rw [ht] at hrun
        have hr1 := hrun w.heap.size
        obtain ⟨a1, hr2, hr3⟩ := Option.map_eq_some_iff.1 hr1
        simp only [Prod.mk.injEq] at hr3
        obtain ⟨ha0, ha1, ha2⟩ := hr3
        rw [← List.take_append_drop n ops.toList, hst]
        refine wpList_builds _ _ (by first | exact hr2 | simpa using hr2) ?_
        refine wpList_store_row rfl T2 (.tmp 0) (.tmp k) rfl w.heap.size cells ha0 ha1 T2 z (by first | exact heap_alloc_new w _ | simp) hi hold h1 ?_
        refine wpList_nil ?_
        refine hK _ _ ?_
        refine wp_ret ?_
        refine ⟨ha2, .agg cells, ?_, rfl, ?_⟩
        · exact results_cell_row hr _ _ w.heap.size T2 cells (0, 0) d ha0 (setRow_heap _ _ _ _ _ _ (heap_alloc_new w _)) hu (by cases d <;> first | rfl | cases hd) hi
        · refine ⟨rfl, rfl, rfl, by simp, fun i hi => ?_⟩
          rw [setRow_other _ _ _ _ (by omega)]
          exact Below.heap_alloc w _ i hi
      · simp at hB
    · simp at hA
  · simp at hs

/-- The cells of a table, row behind row. -/
def tabCells (rows : List (List Value)) : Array Value := rows.flatten.toArray

theorem flatten_at {α : Type} {s : Nat} : ∀ (rows : List (List α)), (∀ r ∈ rows, r.length = s) → ∀ (k : Nat) (r : List α), rows[k]? = some r → (rows.flatten.drop (k * s)).take s = r := by
  intro rows
  induction rows with
  | nil => intro _ k r h; simp at h
  | cons x rows ih =>
    intro hl k r h
    have hx := hl x (by simp)
    cases k with
    | zero =>
      simp only [List.getElem?_cons_zero, Option.some.injEq] at h
      subst h
      simp only [List.flatten_cons, Nat.zero_mul, List.drop_zero]
      rw [List.take_append_of_le_length (by omega), List.take_of_length_le (by omega)]
    | succ k =>
      have := ih (fun r hr => hl r (by simp [hr])) k r (by simpa using h)
      rw [List.flatten_cons, show (k + 1) * s = x.length + k * s by rw [hx, Nat.add_mul]; omega, ← List.drop_drop, List.drop_left]
      exact this

theorem run_index_tab {T e : TypeId} {n s : Nat} {d : TypeDesc} (hu : P.underlying T = some (.array n e)) (he : P.underlying e = some d) (hd : aggD d = true) (hi : (P.info? e).map (·.size) = some s)
    {rows : List (List Value)} (hl : ∀ r ∈ rows, r.length = s) (hn : rows.length = n) (k : Nat) (r : List Value) (hk : rows[k]? = some r) (w : World) :
    (Instr.index T (.agg (tabCells rows)) (.int .i64 (k : Int))).run P w = .ok (.agg r.toArray) w := by
  have hlt : k < n := by rw [← hn]; exact (List.getElem?_eq_some_iff.1 hk).1
  have hsz : (sizeOf e).run P w = .ok s w := by
    cases hq : P.info? e with
    | none => simp [hq] at hi
    | some i => simp [hq] at hi; simp [sizeOf, typeInfo, hq, hi]
  have hag : (isAgg e).run P w = .ok true w := by
    unfold isAgg
    rw [Sem.run_bind, run_underlying he w]
    cases d <;> first | rfl | cases hd
  have hx : (tabCells rows).extract (k * s) (k * s + s) = r.toArray := by
    apply Array.toList_inj.1
    rw [Array.toList_extract, List.extract_eq_take_drop]
    simp only [tabCells]
    rw [show k * s + s - k * s = s by omega]
    exact flatten_at rows hl k r hk
  have h0 : (0 : Int) ≤ (k : Int) ∧ (k : Int) < (n : Int) := by omega
  simp [Instr.index, asIntOf, Sem.run_bind, run_underlying hu, hlt, hsz, part, hag, hx]
end
end Go.Proofs.YtkbkkdeaegidjaaDoor
