/- A printed wish is taken apart; a slice of truths among a row's arguments; bytes of the call's own between two rounds. -/
import Derived.Test.YtkbkkdeaegidjaaDoorOH
namespace Go.Proofs.YtkbkkdeaegidjaaDoor
open Go.RowKit Go.ChangeShapes Go.WideShapes
/-- A kind with a name: its print is taken apart as it was. -/
theorem parse_print {kd : Int} (h : aliL kd ≠ []) (hk : kd ≠ 0) (t i : Bool) : parseL (printL kd t i) = ⟨kd, t, i, 0⟩ := by
  obtain ⟨c, r, hl⟩ := len_pos h
  have hn : nameL kd = c := by unfold nameL; rw [hl]; rfl
  obtain ⟨h1, h2, h3⟩ := ali_mem (u := kd) (c := c) (by rw [hl]; exact List.mem_cons_self ..)
  have hc0 : c.size ≠ 0 := fun e => by
    have : c = ⟨#[]⟩ := ext_list (List.eq_nil_of_length_eq_zero (by simpa using e))
    rw [this] at h1
    exact hk (h1.symm.trans (by decide +kernel))
  have A0 : Asked c c 0 false false [] := ⟨rfl, by omega, by simp, rfl⟩
  have hz : (printL kd t i).size ≤ 60 := by
    unfold printL
    rw [hn, if_neg hc0]
    cases t <;> cases i <;> (simp only [ByteArray.size_append]; first | omega | (rw [show trM.size = 10 from rfl, show igM.size = 8 from rfl]; omega) | (rw [show trM.size = 10 from rfl]; omega) | (rw [show igM.size = 8 from rfl]; omega))
  have A : ∃ k ps, Asked c (printL kd t i) k t i ps := by
    unfold printL
    rw [hn, if_neg hc0]
    cases t <;> cases i
    · exact ⟨_, _, A0⟩
    · exact ⟨_, _, A0.step igS igM rfl (by decide) (no_all (by decide)) (wish_ig _ _)⟩
    · exact ⟨_, _, A0.step trS trM rfl (by decide) (no_all (by decide)) (wish_tr _ _)⟩
    · exact ⟨_, _, (A0.step trS trM rfl (by decide) (no_all (by decide)) (wish_tr _ _)).step igS igM rfl (by decide) (no_all (by decide)) (wish_ig _ _)⟩
  obtain ⟨k, ps, A⟩ := A
  exact A.parse (by omega) h2 h1 hk
/-- A name in whatever letters, alone. -/
theorem parse_low {kd : Int} {c : ByteArray} (h : c ∈ aliL kd) (hk : kd ≠ 0) (f : Nat → Bool) : parseL (lowB c f) = ⟨kd, false, false, 0⟩ := by
  obtain ⟨h1, h2, h3⟩ := ali_mem h
  have e : findI (lowB c f) = kd := by unfold findI; rw [find_low]; exact h1
  unfold parseL
  rw [if_neg (by rw [lowB_size]; omega), split_one (noSl_low f h2)]
  show (if findI (lowB c f) = 0 then _ else _) = _
  rw [e, if_neg hk]
  rfl
theorem found_low {kd : Int} {c : ByteArray} (h : c ∈ aliL kd) (hk : kd ≠ 0) (f : Nat → Bool) : foundV (lowB c f) = twoV kd 0 := by
  obtain ⟨h1, h2, h3⟩ := ali_mem h
  have e : findI (lowB c f) = kd := by unfold findI; rw [find_low]; exact h1
  rcases found_parts (lowB c f) with ⟨k, a1, a2, _⟩ | ⟨_, a2⟩
  · rw [a1, ← a2, e]
  · exact absurd (a2.symm.trans e) (Ne.symm hk)
/-- A slice of truths. -/
def SlB (w : World) (A : Option Addr) (n : Nat) (f : Nat → Bool) : Prop := n ≤ maxLen ∧ ((A = none ∧ n = 0) ∨ ∃ ad, A = some ad ∧ ∀ j, j < n → w.cell? (ad.add j) = some (.bool (f j)))
theorem SlB.below {w w' : World} {A : Option Addr} {n : Nat} {f : Nat → Bool} (h : SlB w A n f) (hb : Below w.heap.size w w') : SlB w' A n f := by
  obtain ⟨h1, h2⟩ := h
  refine ⟨h1, ?_⟩
  rcases h2 with h2 | ⟨ad, h3, h4⟩
  · exact .inl h2
  · exact .inr ⟨ad, h3, fun j hj => (hb.cell (p := ad.add j) (block_lt_of_cell (h4 j hj))).trans (h4 j hj)⟩
theorem slB_of_trod {H : Type} {enc : TypeId × Value → H} {P : Program} {W : World} {base : Nat} {spare : Nat → Bool} {held : Bool} {t e : TypeId} {a : Option Addr} {len cap : Nat} {d : DataW H} {ps : List MemPlace}
    (hu : P.underlying t = some (.slice e)) (he : P.underlying e = some .bool) (hc : P.cellsOf e = 1) (h : DataW.Trod enc P W base spare held t (.slice a len cap) d ps) : ∃ f, SlB W a len f := by
  obtain ⟨fuel, hf⟩ := h
  rcases Deep.open_slice1 hu hc hf with ⟨hcs, _⟩ | ⟨x, l, c, m, n, V, D, Pl, hcs, _, hl, hm, hmm, _, hx⟩
  · simp [Value.cells] at hcs
    obtain ⟨rfl, rfl, rfl⟩ := hcs
    exact ⟨fun _ => false, Nat.zero_le _, .inl ⟨rfl, rfl⟩⟩
  · simp [Value.cells] at hcs
    obtain ⟨rfl, rfl, rfl⟩ := hcs
    have hlm : len ≤ m := by
      rw [hmm]
      split
      · exact hl
      · exact Nat.le_refl _
    refine ⟨fun j => match V j with | .bool b => b | _ => false, Nat.le_trans hl hm, .inr ⟨x, rfl, fun j hj => ?_⟩⟩
    obtain ⟨h1, h2⟩ := hx j (by omega)
    obtain ⟨b, hb⟩ : ∃ b, V j = .bool b := by
      obtain ⟨b, hb, _⟩ := DataW.trod_bool he h2
      exact ⟨b, by simpa using hb⟩
    rw [h1]
    simp only [hb]
/-- Between two rounds: k bytes have been turned. -/
structure MInv (w W : World) (s : ByteArray) (f : Nat → Bool) (k : Nat) : Prop where
  bl : Below w.heap.size w W
  row : ∃ cs : Array Value, W.heap[w.heap.size]? = some (.cells cs 5 (cs.size, cs.size + 1)) ∧ s.size ≤ cs.size ∧ ∀ j, j < s.size → cs[j]? = some (.int .u8 (if j < k then lowI ((bytesL s).getD j 0) (f j) else (bytesL s).getD j 0))
theorem MInv.start (w : World) (s : ByteArray) (f : Nat → Bool) : MInv w (Lib.bytesWorld w 5 s) s f 0 := by
  obtain ⟨cs, h1, h2, h3⟩ := (LInv.start w s).row
  exact ⟨(LInv.start w s).bl, cs, h1, h2, fun j hj => by rw [h3 j hj, if_neg (by omega), if_neg (by omega)]⟩
theorem MInv.cell {w W : World} {s : ByteArray} {f : Nat → Bool} {k : Nat} (h : MInv w W s f k) (hk : k < s.size) : W.cell? ⟨w.heap.size, k, none⟩ = some (.int .u8 ((bytesL s).getD k 0)) ∧ W.frozen? ⟨w.heap.size, k, none⟩ = false := by
  obtain ⟨cs, h1, h2, h3⟩ := h.row
  refine ⟨?_, ?_⟩
  · rw [cell_of_row _ _ _ _ _ _ h1, h3 k hk, if_neg (by omega)]
  · simp [World.frozen?, h1]
    omega
theorem MInv.keep {w W : World} {s : ByteArray} {f : Nat → Bool} {k : Nat} (h : MInv w W s f k) (hx : lowI ((bytesL s).getD k 0) (f k) = (bytesL s).getD k 0) : MInv w W s f (k + 1) := by
  obtain ⟨cs, h1, h2, h3⟩ := h.row
  refine ⟨h.bl, cs, h1, h2, fun j hj => ?_⟩
  rw [h3 j hj]
  by_cases h4 : j < k
  · rw [if_pos h4, if_pos (by omega)]
  · rw [if_neg h4]
    by_cases h5 : j = k
    · subst h5
      rw [if_pos (by omega), hx]
    · rw [if_neg (by omega)]
theorem MInv.set {w W : World} {s : ByteArray} {f : Nat → Bool} {k : Nat} (h : MInv w W s f k) (hk : k < s.size) {x : Int} (hx : lowI ((bytesL s).getD k 0) (f k) = x) : MInv w (W.setCell ⟨w.heap.size, k, none⟩ (.int .u8 x)) s f (k + 1) := by
  obtain ⟨cs, h1, h2, h3⟩ := h.row
  refine ⟨h.bl.setCell (Nat.le_refl _) _, cs.setIfInBounds k (.int .u8 x), ?_, by simpa using h2, fun j hj => ?_⟩
  · rw [setCell_eq_setRow W _ k cs 5 _ _ h1, setRow_heap W _ cs _ 5 _ h1]
    simp
  · rw [Array.getElem?_setIfInBounds]
    by_cases h5 : k = j
    · subst h5
      rw [if_pos rfl, if_pos (by omega), if_pos (by omega), hx]
    · rw [if_neg h5, h3 j hj]
      by_cases h4 : j < k
      · rw [if_pos h4, if_pos (by omega)]
      · rw [if_neg h4, if_neg (by omega)]
theorem MInv.all {w W : World} {s : ByteArray} {f : Nat → Bool} {k : Nat} (h : MInv w W s f k) (hk : s.size ≤ k) : ∀ i, i < s.size → W.cell? ⟨w.heap.size, 0 + i, none⟩ = some (.int .u8 ((lowL s f).getD i 0)) := by
  intro i hi
  obtain ⟨cs, h1, h2, h3⟩ := h.row
  rw [Nat.zero_add, cell_of_row _ _ _ _ _ _ h1, h3 i hi, if_pos (by omega), lowL_get s f hi]
theorem low_off {x : Int} {b : Bool} (h : ¬ (65 ≤ x ∧ x ≤ 90 ∧ b = true)) : lowI x b = x := if_neg h
theorem low_on {x : Int} (h1 : 65 ≤ x) (h2 : x ≤ 90) : lowI x true = x + 32 := if_pos ⟨h1, h2, rfl⟩
end Go.Proofs.YtkbkkdeaegidjaaDoor
