/- From a row's arguments to a walk's: slices of integers, states. -/
import Derived.Test.YtadpmdlajfojiaaDoorVT
import Derived.ChangeSlices
import Derived.SizedLaws
import Derived.Lib.SmallJoins
import Derived.Lib.LaidTab
namespace Go.Proofs.YtadpmdlajfojiaaDoor
open Go.RowKit Go.ChangeShapes Go.WideShapes
theorem slI_of_trod {H : Type} {enc : TypeId × Value → H} {P : Program} {W : World} {base : Nat} {spare : Nat → Bool} {held : Bool} {t e : TypeId} {k : IntKind} {a : Option Addr} {len cap : Nat} {d : DataW H} {ps : List MemPlace} {ts : List TypeId} {ds : List (DataW H)} {j : Nat}
    (hsz : (DataW.weightsEach P ts ds).all (· ≤ reachBytes) = true) (ht : ts[j]? = some t) (hd : ds[j]? = some d) (hu : P.underlying t = some (.slice e)) (he : P.underlying e = some (.int k)) (hc : P.cellsOf e = 1) {B : Nat} (hB : P.bytesOf e = B) (hB0 : 0 < B)
    (h : DataW.Trod enc P W base spare held t (.slice a len cap) d ps) : ∃ xs, SlI k W a len cap xs := by
  obtain ⟨fuel, hf⟩ := h
  rcases open_ints hu he hc hf with ⟨hcs, _⟩ | ⟨x, l, c, zs, hcs, _, hl, hm, hz, hx, hcell, hwf⟩
  · simp [Value.cells] at hcs
    obtain ⟨rfl, rfl, rfl⟩ := hcs
    exact ⟨[], rfl, by omega, by simp, .inl ⟨rfl, rfl, rfl⟩⟩
  · simp [Value.cells] at hcs
    obtain ⟨rfl, rfl, rfl⟩ := hcs
    obtain ⟨hx, _⟩ := Prod.mk.inj hx
    subst hx
    have z := sized_slice hsz ht hd hu
    rw [hB] at z
    have hl2 : len ≤ zs.length := by
      rw [hz]
      split
      · exact hl
      · exact Nat.le_refl _
    have h1 : (lits (H := H) k (zs.take len)).length + (lits (H := H) k (zs.drop len)).length = zs.length := by
      simp [lits]
      omega
    rw [h1] at z
    have z2 : len ≤ 140737488351232 := Nat.le_trans (Nat.le_trans hl2 (Nat.le_mul_of_pos_right _ hB0)) z
    refine ⟨zs.take len, by rw [List.length_take]; omega, z2, fun n hn => hwf n (List.mem_of_mem_take hn), .inr ⟨x, rfl, fun j hj => ?_⟩⟩
    rw [hcell j (by omega), List.getD_eq_getElem?_getD, List.getD_eq_getElem?_getD, List.getElem?_take, if_pos hj]
theorem st_of_trod {H : Type} {enc : TypeId × Value → H} {W : World} {base b0 : Nat} {r : Reach} {spare : Nat → Bool} {held : Bool} {v : Value} {d : DataW H} {ps : List MemPlace}
    (hv : Value.okWide Tryd.prog W r b0 25 v) (h : DataW.Trod enc Tryd.prog W base spare held 25 v d ps) : ∃ a b c x, v = stV a b c x := by
  obtain ⟨c0, c1, c2, c3, y0, y1, y2, y3, n, rfl, rfl, rfl, t0, t1, t2, t3⟩ := Joins.open_agg4 Tryd.underlying25 (by kernel_rfl) (by kernel_rfl) hv h
  obtain ⟨a, ha, _⟩ := DataW.trod_int Tryd.underlying3 t0
  obtain ⟨b, hb, _⟩ := DataW.trod_int Tryd.underlying3 t1
  obtain ⟨c, hc, _⟩ := DataW.trod_int Tryd.underlying23 t2
  obtain ⟨x, hx, _⟩ := DataW.trod_int Tryd.underlying21 t3
  cases ha; cases hb; cases hc; cases hx
  exact ⟨a, b, c, x, rfl⟩
end Go.Proofs.YtadpmdlajfojiaaDoor
