/- The walk of VietMakes. -/
import Derived.Test.YtadpmdlajfojiaaVG
namespace Go.Proofs.Ytadpmdlajfojiaa
open Go.RowKit
set_option maxRecDepth 100000 in
set_option maxHeartbeats 1600000 in
theorem makes_calls (l m u : Int) (w : World) : Calls Try.prog 3 #[.int .i32 l, .int .i32 m, .int .i32 u] w fun e w' => e = .returned (.bool true) ∧ Below w.heap.size w w' := by
  obtain ⟨x, ok, hx⟩ : ∃ x ok, (composeL l m).getD 0 = x ∧ (composeL l m).isSome = ok := ⟨_, _, rfl, rfl⟩
  obtain ⟨a, b, so, hs⟩ : ∃ a b so, ((splitL u).map (·.1)).getD 0 = a ∧ ((splitL u).map (·.2)).getD 0 = b ∧ (splitL u).isSome = so := ⟨_, _, _, rfl, rfl, rfl⟩
  have c1 := comp_any l m
  have c2 := rcomp_any l m
  have c3 := spl_any u
  have c4 := rspl_any u
  rw [hx.1, hx.2] at c1 c2
  rw [hs.1, hs.2.1, hs.2.2] at c3 c4
  have hc5 : ∃ e f fine, Spl 6 x e f fine ∧ (ok = true → fine = true ∧ e = l ∧ f = m) := by
    refine ⟨_, _, _, spl_any x, fun h => ?_⟩
    cases hc : composeL l m with
    | none => rw [hc] at hx; rw [← hx.2] at h; cases h
    | some r =>
      rw [hc] at hx
      have hr : r = x := hx.1
      subst hr
      rw [split_compose hc]
      exact ⟨rfl, rfl, rfl⟩
  have hc6 : ∃ v good, Comp 4 a b v good ∧ (so = true → good = true ∧ v = u) := by
    refine ⟨_, _, comp_any a b, fun h => ?_⟩
    cases hc : splitL u with
    | none => rw [hc] at hs; rw [← hs.2.2] at h; cases h
    | some r =>
      obtain ⟨a', b'⟩ := r
      rw [hc] at hs
      have ha : a' = a := hs.1
      have hb : b' = b := hs.2.1
      subst ha hb
      rw [compose_split hc]
      exact ⟨rfl, rfl⟩
  obtain ⟨e, f, fine, c5, h5⟩ := hc5
  obtain ⟨v, good, c6, h6⟩ := hc6
  clear hx hs
  have H5 := Lib.hid h5
  have H6 := Lib.hid h6
  clear h5 h6
  go_enter Try.func3, Try.ntmps3
  go_wp2_with fail
  refine (c1 _).mono ?_
  rintro e1 w1 ⟨rfl, b1⟩
  have B1 := Lib.hid b1
  clear b1
  go_wp2_with fail
  refine (c2 _).mono ?_
  rintro e1 w2 ⟨rfl, b1⟩
  have B2 := Lib.hid (below_then B1.out B1.out.size b1)
  clear b1 B1
  go_wp2_with fail
  refine (c3 _).mono ?_
  rintro e1 w3 ⟨rfl, b1⟩
  have B3 := Lib.hid (below_then B2.out B2.out.size b1)
  clear b1 B2
  go_wp2_with fail
  refine (c4 _).mono ?_
  rintro e1 w4 ⟨rfl, b1⟩
  have B4 := Lib.hid (below_then B3.out B3.out.size b1)
  clear b1 B3
  go_wp2_with fail
  refine (c5 _).mono ?_
  rintro e1 w5 ⟨rfl, b1⟩
  have B5 := Lib.hid (below_then B4.out B4.out.size b1)
  clear b1 B4
  go_wp2_with fail
  refine (c6 _).mono ?_
  rintro e1 w6 ⟨rfl, b1⟩
  have B6 := Lib.hid (below_then B5.out B5.out.size b1)
  clear b1 B5 c1 c2 c3 c4 c5 c6
  cases ok <;> cases so
  · go_wp2
    go_ret
    exact ⟨rfl, B6.out⟩
  · obtain ⟨rfl, rfl⟩ := H6.out rfl
    go_wp2
    go_ret
    exact ⟨rfl, B6.out⟩
  · obtain ⟨rfl, rfl, rfl⟩ := H5.out rfl
    go_wp2
    go_ret
    exact ⟨rfl, B6.out⟩
  · obtain ⟨rfl, rfl, rfl⟩ := H5.out rfl
    obtain ⟨rfl, rfl⟩ := H6.out rfl
    go_wp2
    go_ret
    exact ⟨rfl, B6.out⟩
end Go.Proofs.Ytadpmdlajfojiaa
