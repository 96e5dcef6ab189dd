/- The reference's Holds and one. -/
import Derived.Test.YtadpmdlajfojiaaDoorVI
namespace Go.Proofs.YtadpmdlajfojiaaDoor
open Go.RowKit
set_option maxRecDepth 100000 in
set_option maxHeartbeats 400000 in
theorem rholds_calls (u : Int) (w : World) : Calls Tryd.prog 26 #[.int .i32 u] w fun e w' => e = .returned (.bool (holdsB u)) ∧ ∃ n, w' = w.drewN n := by
  have hsz := tripS_size
  go_enter Tryd.func26, Tryd.ntmps26
  conv in (occs := *) (Operand.const (Value.string _)) => all_goals change Operand.const (Value.string tripS)
  go_wp2
  go_loopw [3] (fun i wr => ∃ k n : Nat, k ≤ 120 ∧ i = .int .i64 ((12 * k : Nat) : Int) ∧ wr = w.drewN n ∧ NoneTo (fun t => decide (t.1 = u)) k) (fun i _ => 1440 - (intOf i).toNat)
  case atStart => exact ⟨0, 0, by omega, rfl, rfl, noneTo_zero _⟩
  case round =>
    obtain ⟨k, n, hk, rfl, rfl, hN⟩ := hrel
    by_cases hlt : k < 120
    · obtain ⟨⟨a, b, r⟩, ht⟩ : ∃ t, allT[k]? = some t := ⟨_, List.getElem?_eq_getElem (show k < allT.length by rw [allT_len]; exact hlt)⟩
      have hc := trip_calls k _ ht
      have C1 := Lib.hid hc.1
      have HN := Lib.hid hN
      have HT := Lib.hid ht
      clear hc hN ht
      by_cases hl : a = u
      · have HF := Lib.hid (show holdsB u = true by unfold holdsB; rw [List.any_eq_true]; exact ⟨_, List.mem_iff_getElem?.2 ⟨k, HT.out⟩, by simp [hl]⟩)
        subst hl
        go_wp2_with (first | (go_at_call 28; (with_reducible refine (C1.out _).mono ?_); rintro e w' ⟨rfl, n1, rfl⟩))
        go_ret
        exact ⟨by rw [HF.out]; rfl, _, by first | rfl | (simp only [World.drewN_drewN]; rfl)⟩
      · have HP := Lib.hid (noneTo_succ HN.out HT.out (by simp [hl]))
        have hl' : (a == u) = false := by simp [hl]
        clear hl
        go_wp2_with (first | (go_at_call 28; (with_reducible refine (C1.out _).mono ?_); rintro e w' ⟨rfl, n1, rfl⟩))
        go_roundw
        case rel => exact ⟨k + 1, _, by omega, by go_num, by first | rfl | (simp only [World.drewN_drewN]; rfl), HP.out⟩
        case measure => simp [intOf]; omega
    · have HF := Lib.hid (show holdsB u = false by
        unfold holdsB
        have := noneTo_all hN (by omega)
        rw [List.find?_eq_none] at this
        rw [List.any_eq_false]
        exact this)
      clear hN
      go_wp2
      go_ret
      exact ⟨by rw [HF.out]; rfl, _, rfl⟩
/-- The reference's number of a scalar's byte. -/
def oneI (u : Int) : Int := match oneL u with
  | some b => b
  | none => -1
set_option maxRecDepth 100000 in
set_option maxHeartbeats 800000 in
theorem rone_calls (u : Int) (w : World) : Calls Tryd.prog 20 #[.int .i32 u] w fun e w' => e = .returned (.int .i64 (oneI u)) ∧ ∃ n, w' = w.drewN n := by
  go_enter Tryd.func20, Tryd.ntmps20
  go_wp2_with fail
  go_loopw [3] (fun i wr => ∃ k n : Nat, k ≤ 256 ∧ i = .int .i64 (k : Int) ∧ wr = w.drewN n ∧ NoneB (oneP u) k) (fun i _ => 256 - (intOf i).toNat)
  case atStart => exact ⟨0, 0, by omega, rfl, rfl, fun j h => by omega⟩
  case round =>
    obtain ⟨k, n, hk, rfl, rfl, hN⟩ := hrel
    have HN := Lib.hid hN
    clear hN
    by_cases hlt : k < 256
    · have hs := rscalar_calls (k : Int) (by omega) (by omega)
      obtain ⟨x, hx⟩ : ∃ x, scalarB (k : Int) = x := ⟨_, rfl⟩
      rw [hx] at hs
      have HX := Lib.hid hx
      have HS := Lib.hid hs
      clear hx hs
      by_cases hl : x = u
      · by_cases hu : u = 65533
        · have HP := Lib.hid (noneB_succ HN.out (by simp [oneP, hu]))
          subst hl
          subst hu
          go_wp2_with (go_at_call 24; (with_reducible refine (HS.out _).mono ?_); rintro e w' ⟨rfl, n1, rfl⟩)
          go_roundw
          case rel => exact ⟨k + 1, _, by omega, by go_num, by first | rfl | (simp only [World.drewN_drewN]; rfl), HP.out⟩
          case measure => simp [intOf]; omega
        · have HF := Lib.hid (show oneI u = k by unfold oneI; rw [show oneL u = some k from noneB_found HN.out hlt (by simp [oneP, HX.out, hl, hu])])
          have hu' : (u != 65533) = true := by simp [hu]
          have hu2 : (u == 65533) = false := by simp [hu]
          clear hu
          subst hl
          go_wp2_with (go_at_call 24; (with_reducible refine (HS.out _).mono ?_); rintro e w' ⟨rfl, n1, rfl⟩)
          go_ret
          exact ⟨by rw [HF.out]; rfl, _, by first | rfl | (simp only [World.drewN_drewN]; rfl)⟩
      · have HP := Lib.hid (noneB_succ HN.out (by simp [oneP, HX.out, hl]))
        have hl' : (x == u) = false := by simp [hl]
        clear hl
        go_wp2_with (go_at_call 24; (with_reducible refine (HS.out _).mono ?_); rintro e w' ⟨rfl, n1, rfl⟩)
        go_roundw
        case rel => exact ⟨k + 1, _, by omega, by go_num, by first | rfl | (simp only [World.drewN_drewN]; rfl), HP.out⟩
        case measure => simp [intOf]; omega
    · have HF := Lib.hid (show oneI u = -1 by unfold oneI; rw [show oneL u = none from noneB_all HN.out (by omega)])
      go_wp2_with fail
      go_ret
      exact ⟨by rw [HF.out]; rfl, _, rfl⟩
end Go.Proofs.YtadpmdlajfojiaaDoor
