/- The plain law of VietBack: the bytes of scalars, taken in again one by one, give these scalars. -/
import Derived.Test.YtadpmdlajfojiaaDoorVX
namespace Go.Proofs.YtadpmdlajfojiaaDoor
open Go.RowKit
/-- What is held, as a list. -/
def heldL (h : Int) : List Int := if h = 0 then [] else [h]
/-- What a step tells. -/
def outG (g : Got) : List Int := if g.k = 0 then [] else if g.k = 1 then [g.x] else [g.x, g.y]
/-- A step is a good one. -/
def GoodG (g : Got) : Prop := g.err = 0 ∧ g.n = 1 ∧ (g.k = 0 ∨ g.k = 1 ∨ g.k = 2) ∧ g.a = 0 ∧ g.b = 0 ∧ g.c = 0 ∧ (g.h = 0 ∨ holdsB g.h = true)
instance (g : Got) : Decidable (GoodG g) := by unfold GoodG; infer_instance
/-- The bytes, one by one. -/
def stepO (s : Option (List Int × Int)) (y : Int) : Option (List Int × Int) := match s with
  | none => none
  | some (l, h) => if GoodG (getR 0 0 0 h (some y)) then some (l ++ outG (getR 0 0 0 h (some y)), (getR 0 0 0 h (some y)).h) else none
def runO (bs : List Int) : Option (List Int × Int) := bs.foldl stepO (some ([], 0))
theorem run_none (bs : List Int) : bs.foldl stepO none = none := by
  induction bs with
  | nil => rfl
  | cons b bs ih => exact ih
theorem run_snoc (bs : List Int) (y : Int) : runO (bs ++ [y]) = stepO (runO bs) y := by simp [runO]
/-- The list of a text's bytes. -/
def bytesL (s : ByteArray) : List Int := s.data.toList.map fun c => (c.toNat : Int)
theorem bytesL_len (s : ByteArray) : (bytesL s).length = s.size := by simp [bytesL]
theorem bytesL_append (s t : ByteArray) : bytesL (s ++ t) = bytesL s ++ bytesL t := by simp [bytesL]
theorem bytesL_nums : ∀ (l : List Nat), (∀ b ∈ l, b < 256) → bytesL (strOfNums (l.map fun b : Nat => (b : Int))) = l.map fun b : Nat => (b : Int) := by
  intro l hl
  simp only [bytesL, strOfNums_data, List.map_map]
  refine List.map_congr_left fun b hb => ?_
  have := hl b hb
  simp [Function.comp]
  omega
theorem letters_no_marks : (allT.map (·.1)).eraseDups.all (fun l => (allT.map (·.2.1)).eraseDups.all fun m => decide (l ≠ m)) = true := by kernel_rfl
theorem letter_mark {l : Int} (hl : holdsB l = true) (h : Int) : composeL h l = none := by
  cases hc : composeL h l with
  | none => rfl
  | some r =>
    obtain ⟨k, hk⟩ := compose_some hc
    obtain ⟨t, ht, hte⟩ := List.any_eq_true.1 hl
    have h1 := List.all_eq_true.1 letters_no_marks l (List.mem_eraseDups.2 (List.mem_map.2 ⟨t, ht, by simpa using hte⟩))
    have h2 := List.all_eq_true.1 h1 l (List.mem_eraseDups.2 (List.mem_map.2 ⟨_, List.mem_of_getElem? hk, rfl⟩))
    simp at h2
/-- A state that the machine may be in. -/
def Fit (h : Int) : Prop := h = 0 ∨ holdsB h = true
theorem fit_of {h : Int} (hh : Fit h) : fitsB 0 0 0 h = true := by
  unfold fitsB
  exact decide_eq_true ⟨rfl, rfl, rfl, hh⟩
theorem holds_nz {u : Int} (hu : holdsB u = true) : u ≠ 0 := fun h0 => by
  rw [h0, show holdsB 0 = false by kernel_rfl] at hu
  cases hu
/-- A byte that makes nothing with what is held. -/
theorem one_step {h y u : Int} (hh : Fit h) (hu : scalarB y = u) (h1 : u ≠ 65533) (hc : h ≠ 0 → composeL h u = none) :
    GoodG (getR 0 0 0 h (some y)) ∧ outG (getR 0 0 0 h (some y)) ++ heldL (getR 0 0 0 h (some y)).h = heldL h ++ [u] ∧ ((getR 0 0 0 h (some y)).h = 0 ∨ (getR 0 0 0 h (some y)).h = u) ∧ (holdsB u = true → (getR 0 0 0 h (some y)).h = u) := by
  unfold getR
  rw [if_pos (fit_of hh)]
  dsimp only
  rw [hu, if_neg h1]
  by_cases h0 : h = 0
  · subst h0
    rw [if_pos rfl]
    by_cases hb : holdsB u = true
    · rw [if_pos hb]
      have := holds_nz hb
      exact ⟨⟨rfl, rfl, .inl rfl, rfl, rfl, rfl, .inr hb⟩, by simp [outG, heldL, this], .inr rfl, fun _ => rfl⟩
    · rw [if_neg hb]
      exact ⟨⟨rfl, rfl, .inr (.inl rfl), rfl, rfl, rfl, .inl rfl⟩, by simp [outG, heldL], .inl rfl, fun k => absurd k hb⟩
  · rw [if_neg h0, hc h0]
    dsimp only
    by_cases hb : holdsB u = true
    · rw [if_pos hb]
      have := holds_nz hb
      exact ⟨⟨rfl, rfl, .inr (.inl rfl), rfl, rfl, rfl, .inr hb⟩, by simp [outG, heldL, this, h0], .inr rfl, fun _ => rfl⟩
    · rw [if_neg hb]
      exact ⟨⟨rfl, rfl, .inr (.inr rfl), rfl, rfl, rfl, .inl rfl⟩, by simp [outG, heldL, h0], .inl rfl, fun k => absurd k hb⟩
/-- A byte that makes a scalar with what is held. -/
theorem made_step {h y u r : Int} (hh : Fit h) (h0 : h ≠ 0) (hu : scalarB y = u) (h1 : u ≠ 65533) (hc : composeL h u = some r) :
    GoodG (getR 0 0 0 h (some y)) ∧ outG (getR 0 0 0 h (some y)) = [r] ∧ (getR 0 0 0 h (some y)).h = 0 := by
  unfold getR
  rw [if_pos (fit_of hh)]
  dsimp only
  rw [hu, if_neg h1, if_neg h0, hc]
  exact ⟨⟨rfl, rfl, .inr (.inl rfl), rfl, rfl, rfl, .inl rfl⟩, rfl, rfl⟩
/-- The bytes stand for these scalars. -/
def Runs (want bs : List Int) : Prop := ∃ got h, runO bs = some (got, h) ∧ got ++ heldL h = want ∧ Fit h
theorem runs_nil : Runs [] [] := ⟨[], 0, rfl, rfl, .inl rfl⟩
theorem one_some {u : Int} {b : Nat} (h : oneL u = some b) : u ≠ 65533 ∧ scalarB (b : Int) = u := by
  have := List.find?_some h
  simpa [oneP] using this
theorem last_held {got want : List Int} {h : Int} (hw : got ++ heldL h = want) (h0 : h ≠ 0) : want.getLast? = some h := by
  subst hw
  simp [heldL, h0]
theorem runs_one {want bs : List Int} {u : Int} {b : Nat} (hr : Runs want bs) (ho : oneL u = some b) (hc : ∀ z, want.getLast? = some z → composeL z u = none) :
    Runs (want ++ [u]) (bs ++ [(b : Int)]) := by
  obtain ⟨got, h, h1, h2, h3⟩ := hr
  obtain ⟨n1, n2⟩ := one_some ho
  obtain ⟨g1, g2, g3, g4⟩ := one_step h3 n2 n1 (fun h0 => hc h (last_held h2 h0))
  refine ⟨got ++ outG (getR 0 0 0 h (some (b : Int))), (getR 0 0 0 h (some (b : Int))).h, by rw [run_snoc, h1]; simp [stepO, g1], ?_, g1.2.2.2.2.2.2⟩
  rw [List.append_assoc, g2, ← List.append_assoc, h2]
theorem runs_two {want bs : List Int} {u l m : Int} {a c : Nat} (hr : Runs want bs) (hs : splitL u = some (l, m)) (ha : oneL l = some a) (hm : oneL m = some c) :
    Runs (want ++ [u]) (bs ++ [(a : Int), (c : Int)]) := by
  obtain ⟨got, h, h1, h2, h3⟩ := hr
  obtain ⟨n1, n2⟩ := one_some ha
  obtain ⟨m1, m2⟩ := one_some hm
  obtain ⟨k, hk⟩ := split_some hs
  have hl : holdsB l = true := List.any_eq_true.2 ⟨_, List.mem_of_getElem? hk, by simp⟩
  obtain ⟨g1, g2, g3, g4⟩ := one_step h3 n2 n1 (fun _ => letter_mark hl h)
  have hz := g4 hl
  rw [hz] at g2
  obtain ⟨k1, k2, k3⟩ := made_step (h := l) (.inr hl) (holds_nz hl) m2 m1 (compose_split hs)
  refine ⟨(got ++ outG (getR 0 0 0 h (some (a : Int)))) ++ [u], 0, ?_, ?_, .inl rfl⟩
  · rw [show bs ++ [(a : Int), (c : Int)] = (bs ++ [(a : Int)]) ++ [(c : Int)] by simp, run_snoc, run_snoc, h1]
    simp only [stepO, if_pos g1, hz, if_pos k1, k2, k3]
  · have : outG (getR 0 0 0 h (some (a : Int))) = heldL h := by
      have hb : heldL l = [l] := by simp [heldL, holds_nz hl]
      rw [hb] at g2
      exact List.append_cancel_right g2
    rw [this, h2]
    simp [heldL]
/-- What Set writes goes on with the law. -/
theorem runs_set {want bs : List Int} {u : Int} (hr : Runs want bs) (he : (setR u).1 = 0) (hc : ∀ z, want.getLast? = some z → composeL z u = none) :
    Runs (want ++ [u]) (bs ++ bytesL (setR u).2) ∧ 1 ≤ (setR u).2.size ∧ (setR u).2.size ≤ 2 := by
  cases ho : oneL u with
  | some b =>
    have hb := oneL_lt ho
    have e : setR u = (0, strOfNums [(b : Int)]) := by unfold setR; rw [ho]
    rw [e]
    have e2 : bytesL (strOfNums [(b : Int)]) = [(b : Int)] := bytesL_nums [b] (by simpa using hb)
    dsimp only
    rw [e2]
    exact ⟨runs_one hr ho hc, by simp [strOfNums_size], by simp [strOfNums_size]⟩
  | none =>
    cases hs : splitL u with
    | none =>
      have e : setR u = (11, ⟨#[]⟩) := by unfold setR; rw [ho, hs]
      rw [e] at he
      simp at he
    | some p =>
      obtain ⟨l, m⟩ := p
      obtain ⟨k, hk⟩ := split_some hs
      obtain ⟨a, c, ha, hm⟩ := parts_one hk
      have e : setR u = (0, strOfNums [(a : Int), (c : Int)]) := by unfold setR; rw [ho, hs]; simp [ha, hm]
      rw [e]
      have h1 := oneL_lt ha
      have h2 := oneL_lt hm
      have e2 : bytesL (strOfNums [(a : Int), (c : Int)]) = [(a : Int), (c : Int)] := bytesL_nums [a, c] (by simp; omega)
      dsimp only
      rw [e2]
      exact ⟨runs_two hr hs ha hm, by simp [strOfNums_size], by simp [strOfNums_size]⟩
theorem set_err (u : Int) : (setR u).1 = 0 ∨ (setR u).1 = 11 := by
  unfold setR
  split
  · exact .inl rfl
  · split
    · exact .inl rfl
    · exact .inr rfl
/-- Of bytes that go through, each step goes through. -/
theorem run_prefix {bs : List Int} {r : List Int × Int} (h : runO bs = some r) (k : Nat) (hk : k < bs.length) :
    ∃ got z, runO (bs.take k) = some (got, z) ∧ GoodG (getR 0 0 0 z (some (bs.getD k 0))) ∧ runO (bs.take (k + 1)) = some (got ++ outG (getR 0 0 0 z (some (bs.getD k 0))), (getR 0 0 0 z (some (bs.getD k 0))).h) := by
  have hsp : bs = bs.take (k + 1) ++ bs.drop (k + 1) := (List.take_append_drop _ _).symm
  have hne : runO (bs.take (k + 1)) ≠ none := fun hn => by
    rw [hsp] at h
    unfold runO at h hn
    rw [List.foldl_append, hn, run_none] at h
    cases h
  have hts : bs.take (k + 1) = bs.take k ++ [bs.getD k 0] := by
    rw [List.take_succ_eq_append_getElem hk, List.getD_eq_getElem?_getD, List.getElem?_eq_getElem hk]
    rfl
  rw [hts, run_snoc] at hne ⊢
  cases hr : runO (bs.take k) with
  | none => rw [hr] at hne; exact absurd rfl hne
  | some p =>
    obtain ⟨got, z⟩ := p
    rw [hr] at hne
    by_cases hg : GoodG (getR 0 0 0 z (some (bs.getD k 0)))
    · exact ⟨got, z, rfl, hg, by simp only [stepO, if_pos hg]⟩
    · exact absurd (by simp only [stepO, if_neg hg]) hne
end Go.Proofs.YtadpmdlajfojiaaDoor
