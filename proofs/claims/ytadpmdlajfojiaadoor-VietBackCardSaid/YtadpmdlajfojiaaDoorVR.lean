/- Both Gets at one function. -/
import Derived.Test.YtadpmdlajfojiaaDoorVQ
namespace Go.Proofs.YtadpmdlajfojiaaDoor
open Go.RowKit
/-- What Get hands back, of a state and a first byte. -/
def getR (a b c h : Int) (f : Option Int) : Got :=
  if fitsB a b c h = true then
    match f with
    | none => ⟨1, 0, 0, 0, 0, 0, 0, 0, 0⟩
    | some y =>
      if scalarB y = 65533 then ⟨10, 1, 0, 0, 0, a, b, c, h⟩
      else if h = 0 then
        if holdsB (scalarB y) = true then ⟨0, 1, 0, 0, 0, 0, 0, 0, scalarB y⟩ else ⟨0, 1, 1, scalarB y, 0, 0, 0, 0, 0⟩
      else match composeL h (scalarB y) with
        | some r => ⟨0, 1, 1, r, 0, 0, 0, 0, 0⟩
        | none => if holdsB (scalarB y) = true then ⟨0, 1, 1, h, 0, 0, 0, 0, scalarB y⟩ else ⟨0, 1, 2, h, scalarB y, 0, 0, 0, 0⟩
  else ⟨7, 0, 0, 0, 0, 0, 0, 0, 0⟩
/-- The first byte of a slice. -/
def First (w : World) (A : Option Addr) (n : Nat) (f : Option Int) : Prop :=
  (n = 0 ∧ f = none) ∨ ∃ ad y, 0 < n ∧ n ≤ 9223372036854775807 ∧ A = some ad ∧ f = some y ∧ 0 ≤ y ∧ y ≤ 255 ∧ w.cell? ad = some (.int .u8 y)
theorem First.below {w w' : World} {A : Option Addr} {n : Nat} {f : Option Int} (h : First w A n f) (hb : Below w.heap.size w w') : First w' A n f := by
  rcases h with h | ⟨ad, y, h1, h2, h3, h4, h5, h6, h7⟩
  · exact .inl h
  · exact .inr ⟨ad, y, h1, h2, h3, h4, h5, h6, (hb.cell (p := ad) (block_lt_of_cell h7)).trans h7⟩
theorem fits_zero {a b c h : Int} (hf : fitsB a b c h = true) : a = 0 ∧ b = 0 ∧ c = 0 := by
  have := of_decide_eq_true hf
  exact ⟨this.1, this.2.1, this.2.2.1⟩
theorem get_any (a b c h : Int) (A : Option Addr) (n cap : Nat) (f : Option Int) (w : World) (hw : ListAt w) (hA : First w A n f) :
    Calls Tryd.prog 12 #[stV a b c h, .slice A n cap] w fun e w' => e = .returned (gotV (getR a b c h f)) ∧ Below w.heap.size w w' := by
  unfold getR
  by_cases hf : fitsB a b c h = true
  · rw [if_pos hf]
    rcases hA with ⟨rfl, rfl⟩ | ⟨ad, y, h1, h2, rfl, rfl, h5, h6, h7⟩
    · exact get_empty a b c h A cap hf w
    · have hn : ((n : Int) == 0) = false := beq_eq_false_iff_ne.2 (by omega)
      dsimp only
      by_cases hu : scalarB y = 65533
      · rw [if_pos hu]
        exact get_illegal a b c h ad n cap hn h2 h1 y h5 h6 hf w hw h7 hu
      · rw [if_neg hu]
        obtain ⟨rfl, rfl, rfl⟩ := fits_zero hf
        by_cases hh : h = 0
        · subst hh
          rw [if_pos rfl]
          cases hl : holdsB (scalarB y) with
          | true => exact get_hold ad n cap hn h2 h1 y _ h5 h6 w hw h7 rfl hu hl
          | false => exact get_plain ad n cap hn h2 h1 y _ h5 h6 w hw h7 rfl hu hl
        · rw [if_neg hh]
          cases hr : composeL h (scalarB y) with
          | some r => exact get_made h hf hh ad n cap hn h2 h1 y _ r h5 h6 w hw h7 rfl hu hr
          | none =>
            dsimp only
            cases hl : holdsB (scalarB y) with
            | true => exact get_keep h hf hh ad n cap hn h2 h1 y _ h5 h6 w hw h7 rfl hu hr hl
            | false => exact get_both h hf hh ad n cap hn h2 h1 y _ h5 h6 w hw h7 rfl hu hr hl
  · rw [if_neg hf]
    exact get_unfit a b c h _ (by simpa using hf) w
theorem rget_any (a b c h : Int) (A : Option Addr) (n cap : Nat) (f : Option Int) (w : World) (hA : First w A n f) :
    Calls Tryd.prog 13 #[stV a b c h, .slice A n cap] w fun e w' => e = .returned (gotV (getR a b c h f)) ∧ Below w.heap.size w w' := by
  unfold getR
  by_cases hf : fitsB a b c h = true
  · rw [if_pos hf]
    rcases hA with ⟨rfl, rfl⟩ | ⟨ad, y, h1, h2, rfl, rfl, h5, h6, h7⟩
    · exact rget_empty a b c h A cap hf w
    · have hn : ((n : Int) == 0) = false := beq_eq_false_iff_ne.2 (by omega)
      dsimp only
      by_cases hu : scalarB y = 65533
      · rw [if_pos hu]
        exact rget_illegal a b c h hf ad n cap hn h2 h1 y _ h5 h6 w h7 rfl hu
      · rw [if_neg hu]
        obtain ⟨rfl, rfl, rfl⟩ := fits_zero hf
        by_cases hh : h = 0
        · subst hh
          rw [if_pos rfl]
          cases hl : holdsB (scalarB y) with
          | true => exact rget_hold ad n cap hn h2 h1 y _ h5 h6 w h7 rfl hu hl
          | false => exact rget_plain ad n cap hn h2 h1 y _ h5 h6 w h7 rfl hu hl
        · rw [if_neg hh]
          cases hr : composeL h (scalarB y) with
          | some r => exact rget_made h hf hh ad n cap hn h2 h1 y _ h5 h6 w h7 rfl hu r hr
          | none =>
            dsimp only
            cases hl : holdsB (scalarB y) with
            | true => exact rget_keep h hf hh ad n cap hn h2 h1 y _ h5 h6 w h7 rfl hu hr hl
            | false => exact rget_both h hf hh ad n cap hn h2 h1 y _ h5 h6 w h7 rfl hu hr hl
  · rw [if_neg hf]
    exact rget_unfit a b c h _ (by simpa using hf) w
end Go.Proofs.YtadpmdlajfojiaaDoor
