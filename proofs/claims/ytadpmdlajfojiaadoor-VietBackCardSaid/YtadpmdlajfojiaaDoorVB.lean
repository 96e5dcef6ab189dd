/- The walk over tables. -/
import Derived.Test.YtadpmdlajfojiaaDoorVA
import Derived.Deep.RegionHeld3
import Derived.Deep.LoopGhost
import Derived.Lib.Hide
namespace Go.Proofs.YtadpmdlajfojiaaDoor
open Go.RowKit
abbrev keyPair : Int × Int → Value := pairV .i32
def keyInt (n : Int) : Value := .int .i32 n
theorem pairT : KeyT Tryd.prog 56 keyPair := by
  obtain ⟨i, hi, hs⟩ : ∃ i, Tryd.prog.info? 21 = some i ∧ i.size = 1 := by
    have h : (Tryd.prog.info? 21).map (·.size) = some 1 := by kernel_rfl
    obtain ⟨i, h1, h2⟩ := Option.map_eq_some_iff.1 h
    exact ⟨i, h1, h2⟩
  exact keyT_pair Tryd.underlying56 Tryd.underlying21 hi hs
theorem intT : KeyT Tryd.prog 21 keyInt := keyT_int Tryd.underlying21
theorem allT_len : allT.length = 120 := by decide +kernel
def resL (T : List (Int × Int × Int)) : List ((Int × Int) × Value) := T.map fun t => ((t.1, t.2.1), .int .i32 t.2.2)
def partL (T : List (Int × Int × Int)) : List (Int × Value) := T.map fun t => (t.2.2, keyPair (t.1, t.2.1))
/-- Between two rounds: blocks S0 (the result), S0 + 1 to S0 + 3 (the maps), S0 + 4 (the variable). -/
structure TabInv (S0 : Nat) (w wr : World) (T : List (Int × Int × Int)) : Prop where
  m1 : MapL wr (S0 + 1) keyPair (resL T)
  m2 : MapL wr (S0 + 1 + 1) keyInt (partL T)
  m3 : MapSome wr (S0 + 1 + 1 + 1) keyInt
  t0 : wr.heap[S0]? = some (.cells #[.map none, .map none, .map none] 54 (0, 0))
  t1 : wr.heap[S0 + 1 + 1 + 1 + 1]? = some (.cells #[.map (some (S0 + 1)), .map (some (S0 + 1 + 1)), .map (some (S0 + 1 + 1 + 1))] 54 (0, 0))
  bl : Below S0 w wr

/-- What the round's assignment reads. -/
def TabS (S0 n : Nat) (l m r : Int) (W : World) : Prop :=
  W.cell? ⟨S0 + 1 + 1 + 1 + 1, 0, none⟩ = some (.map (some (S0 + 1))) ∧ W.cell? ⟨S0 + 1 + 1 + 1 + 1, 1, none⟩ = some (.map (some (S0 + 1 + 1))) ∧ W.cell? ⟨S0 + 1 + 1 + 1 + 1, 2, none⟩ = some (.map (some (S0 + 1 + 1 + 1))) ∧
  W.cell? ⟨n, 0, none⟩ = some (.int .i32 l) ∧ W.cell? ⟨n, 1, none⟩ = some (.int .i32 m) ∧ W.cell? ⟨n, 2, none⟩ = some (.int .i32 r) ∧ W.cell? ⟨n + 1, 0, none⟩ = some (.int .i32 l) ∧ W.cell? ⟨n + 1, 1, none⟩ = some (.int .i32 m)

theorem tabS_of {S0 n : Nat} {l m r : Int} {W : World} (h1 : W.heap[S0 + 1 + 1 + 1 + 1]? = some (.cells #[.map (some (S0 + 1)), .map (some (S0 + 1 + 1)), .map (some (S0 + 1 + 1 + 1))] 54 (0, 0)))
    (h2 : W.heap[n]? = some (.cells #[.int .i32 l, .int .i32 m, .int .i32 r] 62 (0, 0))) (h3 : W.heap[n + 1]? = some (.cells #[.int .i32 l, .int .i32 m] 56 (0, 0))) : TabS S0 n l m r W := by
  unfold TabS
  simp only [cell_of_row W _ _ _ _ _ h1, cell_of_row W _ _ _ _ _ h2, cell_of_row W _ _ _ _ _ h3]
  simp

theorem fst_of_mem {T : List (Int × Int × Int)} {k : Nat} {l m r : Int} (hd : (T.map fun t => (t.1, t.2.1)).Nodup) (ht : T[k]? = some (l, m, r)) : ∀ p ∈ resL (T.take k), p.1 ≠ (l, m) := by
  intro p hp e
  obtain ⟨t, hm, rfl⟩ := List.mem_map.1 hp
  obtain ⟨i, hi⟩ := List.mem_iff_getElem?.1 hm
  rw [List.getElem?_take] at hi
  split at hi
  · rename_i hik
    have h1 : (T.map fun t => (t.1, t.2.1))[i]? = some (l, m) := by rw [List.getElem?_map, hi]; exact congrArg some e
    have h2 : (T.map fun t => (t.1, t.2.1))[k]? = some (l, m) := by rw [List.getElem?_map, ht]; rfl
    have := (List.getElem?_inj (List.getElem?_eq_some_iff.1 h1).1 hd).1 (h1.trans h2.symm)
    omega
  · cases hi
theorem snd_of_mem {T : List (Int × Int × Int)} {k : Nat} {l m r : Int} (hd : (T.map fun t => t.2.2).Nodup) (ht : T[k]? = some (l, m, r)) : ∀ p ∈ partL (T.take k), p.1 ≠ r := by
  intro p hp e
  obtain ⟨t, hm, rfl⟩ := List.mem_map.1 hp
  obtain ⟨i, hi⟩ := List.mem_iff_getElem?.1 hm
  rw [List.getElem?_take] at hi
  split at hi
  · rename_i hik
    have h1 : (T.map fun t => t.2.2)[i]? = some r := by rw [List.getElem?_map, hi]; exact congrArg some e
    have h2 : (T.map fun t => t.2.2)[k]? = some r := by rw [List.getElem?_map, ht]; rfl
    have := (List.getElem?_inj (List.getElem?_eq_some_iff.1 h1).1 hd).1 (h1.trans h2.symm)
    omega
  · cases hi
theorem allT_pairs : (allT.map fun t => (t.1, t.2.1)).Nodup := by decide +kernel
theorem allT_results : (allT.map fun t => t.2.2).Nodup := by decide +kernel

theorem tab_step {S0 k : Nat} {w wr : World} {l m r : Int} (h : TabInv S0 w wr (allT.take k)) (ht : allT[k]? = some (l, m, r)) : ∃ W W1 W2 W3,
    (wr.alloc (.cells #[.int .i32 l, .int .i32 m, .int .i32 r] 62)).alloc (.cells #[.int .i32 l, .int .i32 m] 56) = W ∧
    (Instr.mapUpdate 50 (.map (some (S0 + 1))) (.agg #[.int .i32 l, .int .i32 m]) (.int .i32 r)).run Tryd.prog W.drew = .ok () W1 ∧
    (Instr.mapUpdate 51 (.map (some (S0 + 1 + 1))) (.int .i32 r) (.agg #[.int .i32 l, .int .i32 m])).run Tryd.prog W1 = .ok () W2 ∧
    (Instr.mapUpdate 52 (.map (some (S0 + 1 + 1 + 1))) (.int .i32 l) (.bool true)).run Tryd.prog W2 = .ok () W3 ∧
    TabS S0 wr.heap.size l m r W.drew ∧ TabS S0 wr.heap.size l m r W1 ∧ TabS S0 wr.heap.size l m r W2 ∧ TabS S0 wr.heap.size l m r W3 ∧ TabInv S0 w W3 (allT.take (k + 1)) := by
  have hs := h.bl.size
  have hlt : S0 + 1 + 1 + 1 + 1 < wr.heap.size := (Array.getElem?_eq_some_iff.1 h.t1).1
  obtain ⟨W, hW⟩ : ∃ W, ((wr.alloc (.cells #[.int .i32 l, .int .i32 m, .int .i32 r] 62)).alloc (.cells #[.int .i32 l, .int .i32 m] 56)) = W := ⟨_, rfl⟩
  have g1 : W.heap[wr.heap.size]? = some (.cells #[.int .i32 l, .int .i32 m, .int .i32 r] 62 (0, 0)) := by rw [← hW]; exact heap_alloc2_old wr _ _
  have g2 : W.heap[wr.heap.size + 1]? = some (.cells #[.int .i32 l, .int .i32 m] 56 (0, 0)) := by rw [← hW]; exact heap_alloc2_new wr _ _
  have gb : Below S0 w W := by rw [← hW]; exact (h.bl.alloc (by omega) _).alloc (by simp; omega) _
  have gk : ∀ i, i < wr.heap.size → W.heap[i]? = wr.heap[i]? := fun i hi => by
    rw [← hW]
    exact (Below.heap_alloc _ _ i (by simp; omega)).trans (Below.heap_alloc _ _ i hi)
  have gs : W.heap.size = wr.heap.size + 2 := by rw [← hW]; simp
  obtain ⟨W1, r1, m1, p1⟩ := (h.m1.same (w' := W.drew) (gk _ (by omega))).put pairT Tryd.underlying50 (l, m) (.int .i32 r) (fst_of_mem allT_pairs ht)
  have q1 : ∀ i, i < wr.heap.size + 2 → i ≠ S0 + 1 → W1.heap[i]? = W.heap[i]? := fun i hi hne => p1.block i (by show i < W.heap.size; omega) (by simpa using hne)
  obtain ⟨W2, r2, m2, p2⟩ := (h.m2.same (w' := W1) ((q1 _ (by omega) (by omega)).trans (gk _ (by omega)))).put intT Tryd.underlying51 r (keyPair (l, m)) (snd_of_mem allT_results ht)
  have s1 := p1.size
  have q2 : ∀ i, i < wr.heap.size + 2 → i ≠ S0 + 1 + 1 → W2.heap[i]? = W1.heap[i]? := fun i hi hne => p2.block i (by have : W.heap.size ≤ W1.heap.size := s1; omega) (by simpa using hne)
  have hm3 : MapSome W2 (S0 + 1 + 1 + 1) keyInt := by
    obtain ⟨L, hL⟩ := h.m3
    exact ⟨L, hL.same ((q2 _ (by omega) (by omega)).trans ((q1 _ (by omega) (by omega)).trans (gk _ (by omega))))⟩
  obtain ⟨W3, r3, m3, p3⟩ := hm3.put intT Tryd.underlying52 l (.bool true)
  have s2 := p2.size
  have q3 : ∀ i, i < wr.heap.size + 2 → i ≠ S0 + 1 + 1 + 1 → W3.heap[i]? = W2.heap[i]? := fun i hi hne => p3.block i (by have : W.heap.size ≤ W1.heap.size := s1; omega) (by simpa using hne)
  have c0 : W.heap[S0 + 1 + 1 + 1 + 1]? = _ := (gk _ hlt).trans h.t1
  have c1 : W1.heap[S0 + 1 + 1 + 1 + 1]? = _ := (q1 _ (by omega) (by omega)).trans c0
  have c2 : W2.heap[S0 + 1 + 1 + 1 + 1]? = _ := (q2 _ (by omega) (by omega)).trans c1
  have c3 : W3.heap[S0 + 1 + 1 + 1 + 1]? = _ := (q3 _ (by omega) (by omega)).trans c2
  have d1 : W1.heap[wr.heap.size]? = _ := (q1 _ (by omega) (by omega)).trans g1
  have d2 : W2.heap[wr.heap.size]? = _ := (q2 _ (by omega) (by omega)).trans d1
  have d3 : W3.heap[wr.heap.size]? = _ := (q3 _ (by omega) (by omega)).trans d2
  have f1 : W1.heap[wr.heap.size + 1]? = _ := (q1 _ (by omega) (by omega)).trans g2
  have f2 : W2.heap[wr.heap.size + 1]? = _ := (q2 _ (by omega) (by omega)).trans f1
  have f3 : W3.heap[wr.heap.size + 1]? = _ := (q3 _ (by omega) (by omega)).trans f2
  refine ⟨W, W1, W2, W3, hW, r1, r2, r3, tabS_of c0 g1 g2, tabS_of c1 d1 f1, tabS_of c2 d2 f2, tabS_of c3 d3 f3, ?_⟩
  have ht1 : allT.take (k + 1) = allT.take k ++ [(l, m, r)] := by rw [List.take_add_one, ht]; rfl
  refine ⟨?_, ?_, m3, ?_, c3, ?_⟩
  · rw [ht1, resL, List.map_append]
    exact m1.same ((q3 _ (by omega) (by omega)).trans (q2 _ (by omega) (by omega)))
  · rw [ht1, partL, List.map_append]
    exact m2.same (q3 _ (by omega) (by omega))
  · exact (q3 _ (by omega) (by omega)).trans ((q2 _ (by omega) (by omega)).trans ((q1 _ (by omega) (by omega)).trans ((gk _ (by omega)).trans h.t0)))
  · exact ((Below.grown (Below.grown (Below.grown gb.drew p1 (by show S0 ≤ W.heap.size; omega) (fun k e => by cases e; omega)) p2 (by have : W.heap.size ≤ W1.heap.size := s1; omega) (fun k e => by cases e; omega)) p3 (by have : W.heap.size ≤ W1.heap.size := s1; omega) (fun k e => by cases e; omega)))

/-- What tables hands back. -/
def TabPost (w : World) (e : Ending) (w' : World) : Prop :=
  ∃ b1 b2 b3, e = .returned (.agg #[.map (some b1), .map (some b2), .map (some b3)]) ∧ MapL w' b1 keyPair (resL allT) ∧ MapL w' b2 keyInt (partL allT) ∧ Below w.heap.size w w'

theorem tab_start {S0 : Nat} {w w' : World} (hS0 : w.heap.size = S0)
    (hb : Below (((((w.alloc (.cells #[.map none, .map none, .map none] 54)).alloc (.map #[] 0)).alloc (.map #[] 0)).alloc (.map #[] 0)).alloc (.cells #[.map (some (S0 + 1)), .map (some (S0 + 1 + 1)), .map (some (S0 + 1 + 1 + 1))] 54)).heap.size
      (((((w.alloc (.cells #[.map none, .map none, .map none] 54)).alloc (.map #[] 0)).alloc (.map #[] 0)).alloc (.map #[] 0)).alloc (.cells #[.map (some (S0 + 1)), .map (some (S0 + 1 + 1)), .map (some (S0 + 1 + 1 + 1))] 54)) w') : TabInv S0 w w' [] := by
  obtain ⟨w1, h1⟩ : ∃ w1, w.alloc (.cells #[.map none, .map none, .map none] 54) = w1 := ⟨_, rfl⟩
  rw [h1] at hb
  have a1 : w1.heap[S0]? = some (.cells #[.map none, .map none, .map none] 54 (0, 0)) := by rw [← h1, ← hS0]; exact heap_alloc_new w _
  have z1 : w1.heap.size = S0 + 1 := by rw [← h1]; simp [hS0]
  have b1 : Below S0 w w1 := by rw [← h1]; exact (Below.refl _ _).alloc (by omega) _
  clear h1
  obtain ⟨w2, h2⟩ : ∃ w2, w1.alloc (.map #[] 0) = w2 := ⟨_, rfl⟩
  rw [h2] at hb
  have a2 : w2.heap[S0 + 1]? = some (.map #[] 0) := by rw [← h2, ← z1]; exact heap_alloc_new w1 _
  have k2 : ∀ i, i < S0 + 1 → w2.heap[i]? = w1.heap[i]? := fun i hi => by rw [← h2]; exact Below.heap_alloc _ _ i (by omega)
  have z2 : w2.heap.size = S0 + 1 + 1 := by rw [← h2]; simp [z1]
  have b2 : Below S0 w w2 := by rw [← h2]; exact b1.alloc (by omega) _
  clear h2
  obtain ⟨w3, h3⟩ : ∃ w3, w2.alloc (.map #[] 0) = w3 := ⟨_, rfl⟩
  rw [h3] at hb
  have a3 : w3.heap[S0 + 1 + 1]? = some (.map #[] 0) := by rw [← h3, ← z2]; exact heap_alloc_new w2 _
  have k3 : ∀ i, i < S0 + 1 + 1 → w3.heap[i]? = w2.heap[i]? := fun i hi => by rw [← h3]; exact Below.heap_alloc _ _ i (by omega)
  have z3 : w3.heap.size = S0 + 1 + 1 + 1 := by rw [← h3]; simp [z2]
  have b3 : Below S0 w w3 := by rw [← h3]; exact b2.alloc (by omega) _
  clear h3
  obtain ⟨w4, h4⟩ : ∃ w4, w3.alloc (.map #[] 0) = w4 := ⟨_, rfl⟩
  rw [h4] at hb
  have a4 : w4.heap[S0 + 1 + 1 + 1]? = some (.map #[] 0) := by rw [← h4, ← z3]; exact heap_alloc_new w3 _
  have k4 : ∀ i, i < S0 + 1 + 1 + 1 → w4.heap[i]? = w3.heap[i]? := fun i hi => by rw [← h4]; exact Below.heap_alloc _ _ i (by omega)
  have z4 : w4.heap.size = S0 + 1 + 1 + 1 + 1 := by rw [← h4]; simp [z3]
  have b4 : Below S0 w w4 := by rw [← h4]; exact b3.alloc (by omega) _
  clear h4
  have a5 : (w4.alloc (.cells #[.map (some (S0 + 1)), .map (some (S0 + 1 + 1)), .map (some (S0 + 1 + 1 + 1))] 54)).heap[S0 + 1 + 1 + 1 + 1]? = some (.cells #[.map (some (S0 + 1)), .map (some (S0 + 1 + 1)), .map (some (S0 + 1 + 1 + 1))] 54 (0, 0)) := by rw [← z4]; exact heap_alloc_new w4 _
  have k5 : ∀ i, i < S0 + 1 + 1 + 1 + 1 + 1 → w'.heap[i]? = (w4.alloc (.cells #[.map (some (S0 + 1)), .map (some (S0 + 1 + 1)), .map (some (S0 + 1 + 1 + 1))] 54)).heap[i]? := fun i hi => hb.block i (by simp; omega)
  have k6 : ∀ i, i < S0 + 1 + 1 + 1 + 1 → w'.heap[i]? = w4.heap[i]? := fun i hi => (k5 i (by omega)).trans (Below.heap_alloc _ _ i (by omega))
  refine ⟨⟨#[], 0, ?_, rfl⟩, ⟨#[], 0, ?_, rfl⟩, ⟨[], #[], 0, ?_, rfl⟩, ?_, (k5 _ (by omega)).trans a5, ?_⟩
  · exact (k6 _ (by omega)).trans ((k4 _ (by omega)).trans ((k3 _ (by omega)).trans a2))
  · exact (k6 _ (by omega)).trans ((k4 _ (by omega)).trans a3)
  · exact (k6 _ (by omega)).trans a4
  · exact (k6 _ (by omega)).trans ((k4 _ (by omega)).trans ((k3 _ (by omega)).trans ((k2 _ (by omega)).trans a1)))
  · exact (b4.alloc (by omega) _).trans (hb.mono (by simp; omega))

theorem tab_post {S0 : Nat} {w wr : World} (hS0 : w.heap.size = S0) (h : TabInv S0 w wr allT) :
    (((wr.setCell ⟨S0, 0, none⟩ (.map (some (S0 + 1)))).setCell ⟨S0, 1, none⟩ (.map (some (S0 + 1 + 1)))).setCell ⟨S0, 2, none⟩ (.map (some (S0 + 1 + 1 + 1)))).heap[S0]? = some (.cells #[.map (some (S0 + 1)), .map (some (S0 + 1 + 1)), .map (some (S0 + 1 + 1 + 1))] 54 (0, 0)) ∧
    TabPost w (.returned (.agg #[.map (some (S0 + 1)), .map (some (S0 + 1 + 1)), .map (some (S0 + 1 + 1 + 1))])) (((wr.setCell ⟨S0, 0, none⟩ (.map (some (S0 + 1)))).setCell ⟨S0, 1, none⟩ (.map (some (S0 + 1 + 1)))).setCell ⟨S0, 2, none⟩ (.map (some (S0 + 1 + 1 + 1)))) := by
  have ko : ∀ i, i ≠ S0 → (((wr.setCell ⟨S0, 0, none⟩ (.map (some (S0 + 1)))).setCell ⟨S0, 1, none⟩ (.map (some (S0 + 1 + 1)))).setCell ⟨S0, 2, none⟩ (.map (some (S0 + 1 + 1 + 1)))).heap[i]? = wr.heap[i]? := fun i hi => by
    rw [heap_setCell_other _ _ _ _ hi, heap_setCell_other _ _ _ _ hi, heap_setCell_other _ _ _ _ hi]
  refine ⟨?_, S0 + 1, S0 + 1 + 1, S0 + 1 + 1 + 1, rfl, h.m1.same (ko _ (by omega)), h.m2.same (ko _ (by omega)), ?_⟩
  · have e1 := heap_setCell_same wr S0 0 _ _ (.map (some (S0 + 1))) h.t0
    have e2 := heap_setCell_same _ S0 1 _ _ (.map (some (S0 + 1 + 1))) e1
    have e3 := heap_setCell_same _ S0 2 _ _ (.map (some (S0 + 1 + 1 + 1))) e2
    exact e3.trans (by simp)
  · rw [hS0]
    exact ((h.bl.setCell (Nat.le_refl _) _).setCell (Nat.le_refl _) _).setCell (Nat.le_refl _) _

/-- What the end reads and writes. -/
theorem tab_end {S0 : Nat} {w wr : World} {T : List (Int × Int × Int)} (h : TabInv S0 w wr T) :
    (wr.cell? ⟨S0 + 1 + 1 + 1 + 1, 0, none⟩ = some (.map (some (S0 + 1))) ∧ wr.cell? ⟨S0 + 1 + 1 + 1 + 1, 1, none⟩ = some (.map (some (S0 + 1 + 1))) ∧ wr.cell? ⟨S0 + 1 + 1 + 1 + 1, 2, none⟩ = some (.map (some (S0 + 1 + 1 + 1)))) ∧
    (∀ i, wr.frozen? ⟨S0, i, none⟩ = false) ∧ (wr.cell? ⟨S0, 0, none⟩ = some (.map none) ∧ wr.cell? ⟨S0, 1, none⟩ = some (.map none) ∧ wr.cell? ⟨S0, 2, none⟩ = some (.map none)) := by
  refine ⟨?_, fun i => frozen_of_row wr S0 i _ _ h.t0, ?_⟩
  · simp only [cell_of_row wr _ _ _ _ _ h.t1]; simp
  · simp only [cell_of_row wr _ _ _ _ _ h.t0]; simp

set_option maxRecDepth 100000 in
set_option maxHeartbeats 400000 in
theorem tables_calls (w : World) : Calls Tryd.prog 27 #[] w (TabPost w) := by
  have hmm := @run_makeMap Tryd.prog
  go_enter Tryd.func27, Tryd.ntmps27
  go_wp2_with (first | (go_at_call 29; (with_reducible refine (all_calls _).mono ?_); rintro e w' ⟨rfl, hb⟩))
  obtain ⟨S0, hS0⟩ : ∃ S0, w.heap.size = S0 := ⟨_, rfl⟩
  rw [hS0] at hb ⊢
  have HS0 := Lib.hid hS0
  have h0 : TabInv S0 w w' [] := tab_start hS0 hb
  have H0 := Lib.hid h0
  clear hb h0 hS0
  go_loopw [10] (fun i wr => ∃ k : Nat, k ≤ 120 ∧ i = .int .i64 k ∧ TabInv S0 w wr (allT.take k)) (fun i _ => 120 - (intOf i).toNat)
  case atStart => exact ⟨0, by omega, rfl, H0.out⟩
  case round =>
    obtain ⟨k, hk, rfl, h1⟩ := hrel
    by_cases hlt : k < 120
    · obtain ⟨⟨l, m, r⟩, ht⟩ : ∃ t, allT[k]? = some t := ⟨_, List.getElem?_eq_getElem (show k < allT.length by rw [allT_len]; exact hlt)⟩
      have hix := all_at k (l, m, r) ht
      obtain ⟨W, W1, W2, W3, hW, r1, r2, r3, s0, s1, s2, s3, hI⟩ := tab_step h1 ht
      have HW := Lib.hid hW
      have HI := Lib.hid hI
      clear h1 ht hW hI
      go_wp2
      rw [HW.out]
      go_region_held3 (fun X => X.cell? ⟨S0 + 1 + 1 + 1 + 1, 0, none⟩ = some (.map (some (S0 + 1))) ∧ X.cell? ⟨S0 + 1 + 1 + 1 + 1, 1, none⟩ = some (.map (some (S0 + 1 + 1))) ∧ X.cell? ⟨S0 + 1 + 1 + 1 + 1, 2, none⟩ = some (.map (some (S0 + 1 + 1 + 1))) ∧
        X.cell? ⟨wr.heap.size, 0, none⟩ = some (.int .i32 l) ∧ X.cell? ⟨wr.heap.size, 1, none⟩ = some (.int .i32 m) ∧ X.cell? ⟨wr.heap.size, 2, none⟩ = some (.int .i32 r) ∧ X.cell? ⟨wr.heap.size + 1, 0, none⟩ = some (.int .i32 l) ∧ X.cell? ⟨wr.heap.size + 1, 1, none⟩ = some (.int .i32 m))
        ((first | exact s0 | exact s1 | exact s2 | exact s3)) (fail)
      go_wp2
      go_roundw
      case rel => exact ⟨k + 1, by omega, by go_num, HI.out⟩
      case measure => simp [intOf]; omega
    · obtain ⟨⟨e1, e2, e3⟩, e4, e5, e6, e7⟩ := tab_end h1
      have ek : k = 120 := by omega
      have H1 := Lib.hid h1
      have Hk := Lib.hid ek
      clear h1 ek
      have f0 := e4 0
      have f1 := e4 1
      have f2 := e4 2
      clear e4
      go_wp2
      obtain ⟨hr, hp⟩ := tab_post HS0.out (by have := H1.out; rw [Hk.out, List.take_of_length_le (by rw [allT_len]; omega)] at this; exact this)
      exact ⟨rfl, _, results_cell_row rfl _ _ S0 54 _ (0, 0) _ rfl hr Tryd.underlying54 rfl (by kernel_rfl), hp⟩
end Go.Proofs.YtadpmdlajfojiaaDoor
