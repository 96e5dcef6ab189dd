/- A wish among a row's arguments. -/
import Derived.Test.YtkbkkdeaegidjaaDoorOB
import Derived.ChangeSlices
import Derived.SizedLaws
import Derived.Lib.SmallJoins
import Derived.Lib.LaidTab
namespace Go.Proofs.YtkbkkdeaegidjaaDoor
open Go.RowKit
theorem wish_of_trod {H : Type} {enc : TypeId × Value → H} {W : World} {base b0 : Nat} {r : Reach} {spare : Nat → Bool} {held : Bool} {v : Value} {d : DataW H} {ps : List MemPlace}
    (hv : Value.okWide Tryd.prog W r b0 46 v) (h : DataW.Trod enc Tryd.prog W base spare held 46 v d ps) : ∃ k t i, v = .agg #[.int .i64 k, .bool t, .bool i] := by
  obtain ⟨c0, c1, c2, y0, y1, y2, n, rfl, rfl, rfl, t0, t1, t2⟩ := Joins.open_agg3 Tryd.underlying46 (by kernel_rfl) (by kernel_rfl) hv h
  obtain ⟨a, ha, _⟩ := DataW.trod_int Tryd.underlying3 t0
  obtain ⟨b, hb, _⟩ := DataW.trod_bool Tryd.underlying4 t1
  obtain ⟨c, hc, _⟩ := DataW.trod_bool Tryd.underlying4 t2
  cases ha; cases hb; cases hc
  exact ⟨a, b, c, rfl⟩
end Go.Proofs.YtkbkkdeaegidjaaDoor
