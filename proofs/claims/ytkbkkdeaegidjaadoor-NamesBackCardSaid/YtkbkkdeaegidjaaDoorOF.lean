/- A slice of integers among a row's arguments. -/
import Derived.Test.YtkbkkdeaegidjaaDoorOE
import Derived.ChangeSlices
import Derived.SizedLaws
import Derived.Lib.SmallJoins
import Derived.Lib.LaidTab
namespace Go.Proofs.YtkbkkdeaegidjaaDoor
open Go.RowKit Go.ChangeShapes Go.WideShapes
def SlI (k : IntKind) (w : World) (A : Option Addr) (n cap : Nat) (xs : List Int) : Prop :=
  xs.length = n ∧ n ≤ 140737488351232 ∧ (∀ x ∈ xs, (Lit.int k x).wf = true) ∧ ((A = none ∧ n = 0 ∧ cap = 0) ∨ ∃ ad, A = some ad ∧ ∀ j, j < n → w.cell? (ad.add j) = some (.int k (xs.getD j 0)))
theorem SlI.below {k : IntKind} {w w' : World} {A : Option Addr} {n cap : Nat} {xs : List Int} (h : SlI k w A n cap xs) (hb : Below w.heap.size w w') : SlI k w' A n cap xs := by
  obtain ⟨h1, h2, h3, h4⟩ := h
  refine ⟨h1, h2, h3, ?_⟩
  rcases h4 with h4 | ⟨ad, h5, h6⟩
  · exact .inl h4
  · exact .inr ⟨ad, h5, fun j hj => (hb.cell (p := ad.add j) (block_lt_of_cell (h6 j hj))).trans (h6 j hj)⟩
theorem slI_of_trod {H : Type} {enc : TypeId × Value → H} {P : Program} {W : World} {base : Nat} {spare : Nat → Bool} {held : Bool} {t e : TypeId} {k : IntKind} {a : Option Addr} {len cap : Nat} {d : DataW H} {ps : List MemPlace} {ts : List TypeId} {ds : List (DataW H)} {j : Nat}
    (hsz : (DataW.weightsEach P ts ds).all (· ≤ reachBytes) = true) (ht : ts[j]? = some t) (hd : ds[j]? = some d) (hu : P.underlying t = some (.slice e)) (he : P.underlying e = some (.int k)) (hc : P.cellsOf e = 1) {B : Nat} (hB : P.bytesOf e = B) (hB0 : 0 < B)
    (h : DataW.Trod enc P W base spare held t (.slice a len cap) d ps) : ∃ xs, SlI k W a len cap xs := by
  obtain ⟨fuel, hf⟩ := h
  rcases open_ints hu he hc hf with ⟨hcs, _⟩ | ⟨x, l, c, zs, hcs, _, hl, hm, hz, hx, hcell, hwf⟩
  · simp [Value.cells] at hcs
    obtain ⟨rfl, rfl, rfl⟩ := hcs
    exact ⟨[], rfl, by omega, by simp, .inl ⟨rfl, rfl, rfl⟩⟩
  · simp [Value.cells] at hcs
    obtain ⟨rfl, rfl, rfl⟩ := hcs
    obtain ⟨hx, _⟩ := Prod.mk.inj hx
    subst hx
    have z := sized_slice hsz ht hd hu
    rw [hB] at z
    have hl2 : len ≤ zs.length := by
      rw [hz]
      split
      · exact hl
      · exact Nat.le_refl _
    have h1 : (lits (H := H) k (zs.take len)).length + (lits (H := H) k (zs.drop len)).length = zs.length := by
      simp [lits]
      omega
    rw [h1] at z
    have z2 : len ≤ 140737488351232 := Nat.le_trans (Nat.le_trans hl2 (Nat.le_mul_of_pos_right _ hB0)) z
    refine ⟨zs.take len, by rw [List.length_take]; omega, z2, fun n hn => hwf n (List.mem_of_mem_take hn), .inr ⟨x, rfl, fun j hj => ?_⟩⟩
    rw [hcell j (by omega), List.getD_eq_getElem?_getD, List.getD_eq_getElem?_getD, List.getElem?_take, if_pos hj]
end Go.Proofs.YtkbkkdeaegidjaaDoor
