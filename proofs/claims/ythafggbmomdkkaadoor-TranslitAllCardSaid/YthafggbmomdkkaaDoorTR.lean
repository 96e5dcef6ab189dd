/- The walk of TranslitFirst. -/
import Derived.Test.YthafggbmomdkkaaDoorTQ
namespace Go.Proofs.YthafggbmomdkkaaDoor
open Go.RowKit
set_option maxRecDepth 100000 in
set_option maxHeartbeats 1600000 in
theorem firsts_calls (u : Int) (s : ByteArray) (w : World) (hw : MaxAt w) : Calls Tryd.prog 5 #[.int .i32 u, .string s] w fun e w' => e = .returned (.bool true) ∧ Below w.heap.size w w' := by
  obtain ⟨t, ht⟩ : ∃ t, (firstL u s).getD ⟨#[]⟩ = t := ⟨_, rfl⟩
  obtain ⟨r, hr⟩ : ∃ r, (firstL u s).isSome = r := ⟨_, rfl⟩
  have HA := Lib.hid (fun w h => by have := first_any u s w h; rwa [ht, hr] at this)
  by_cases hs : s.size ≤ 300
  · have HB := Lib.hid (fun w => by have := rfirst_any u s hs w; rwa [ht, hr] at this)
    have HW := Lib.hid hw
    have hq : ¬ (300 < (s.size : Int)) := by omega
    have hq2 : ¬ (300 < s.size) := by omega
    have hq3 : decide (300 < (s.size : Int)) = false := decide_eq_false (by omega)
    clear ht hr hw
    go_enter Tryd.func5, Tryd.ntmps5
    go_wp2_with fail
    refine (HA.out _ HW.out).mono ?_
    rintro e w1 ⟨rfl, hb⟩
    have B1 := Lib.hid hb
    clear hb
    go_wp2_with fail
    refine (HB.out _).mono ?_
    rintro e w2 ⟨rfl, hb⟩
    have B2 := Lib.hid (below_then B1.out B1.out.size hb)
    clear hb
    go_wp2_with fail
    go_ret
    exact ⟨rfl, B2.out⟩
  · have hq : (300 < (s.size : Int)) := by omega
    have hq3 : decide (300 < (s.size : Int)) = true := decide_eq_true (by omega)
    clear ht hr hw HA
    go_enter Tryd.func5, Tryd.ntmps5
    go_wp2_with fail
    go_ret
    exact ⟨rfl, Below.refl _ _⟩
end Go.Proofs.YthafggbmomdkkaaDoor
