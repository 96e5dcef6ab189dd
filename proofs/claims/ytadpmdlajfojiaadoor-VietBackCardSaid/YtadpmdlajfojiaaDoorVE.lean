/- The reference's Split. -/
import Derived.Test.YtadpmdlajfojiaaDoorVD
import Derived.IntWalk
namespace Go.Proofs.YtadpmdlajfojiaaDoor
open Go.RowKit
/-- Three results. -/
def splitV (u : Int) : Value := .tuple #[.int .i32 (((splitL u).map (·.1)).getD 0), .int .i32 (((splitL u).map (·.2)).getD 0), .bool (splitL u).isSome]
set_option maxRecDepth 100000 in
set_option maxHeartbeats 400000 in
theorem rsplit_calls (u : Int) (w : World) : Calls Tryd.prog 21 #[.int .i32 u] w fun e w' => e = .returned (splitV u) ∧ ∃ n, w' = w.drewN n := by
  have hsz := tripS_size
  go_enter Tryd.func21, Tryd.ntmps21
  conv in (occs := *) (Operand.const (Value.string _)) => all_goals change Operand.const (Value.string tripS)
  go_wp2
  go_loopw [5] (fun i wr => ∃ k n : Nat, k ≤ 120 ∧ i = .int .i64 ((12 * k : Nat) : Int) ∧ wr = w.drewN n ∧ NoneTo (fun t => decide (t.2.2 = u)) k) (fun i _ => 1440 - (intOf i).toNat)
  case atStart => exact ⟨0, 0, by omega, rfl, rfl, noneTo_zero _⟩
  case round =>
    obtain ⟨k, n, hk, rfl, rfl, hN⟩ := hrel
    by_cases hlt : k < 120
    · obtain ⟨⟨a, b, r⟩, ht⟩ : ∃ t, allT[k]? = some t := ⟨_, List.getElem?_eq_getElem (show k < allT.length by rw [allT_len]; exact hlt)⟩
      have hc := trip_calls k _ ht
      have C1 := Lib.hid hc.1
      have C2 := Lib.hid hc.2.1
      have C3 := Lib.hid hc.2.2
      have HN := Lib.hid hN
      have HT := Lib.hid ht
      clear hc hN ht
      by_cases hl : r = u
      · have HF := Lib.hid (show splitL u = some (a, b) by unfold splitL; rw [noneTo_found HN.out HT.out (by simp [hl])]; rfl)
        subst hl
        go_wp2_with (first | (go_at_call 28; (with_reducible refine (C3.out _).mono ?_); rintro e w' ⟨rfl, n3, rfl⟩))
        obtain ⟨W, hW⟩ : ∃ W, w.drewN (n + n3) = W := ⟨_, rfl⟩
        have HW := Lib.hid hW
        rw [hW]
        clear hW
        have hw : IntKind.i64.wrap (12 * (k : Int) + 4) = 12 * (k : Int) + 4 := IntWalk.i64_in _ (by omega)
        have h0 : (0 : Int) ≤ 12 * (k : Int) := by omega
        have h4 : (0 : Int) ≤ 12 * (k : Int) + 4 := by omega
        have h5 : 12 * (k : Int) ≤ 1440 := by omega
        have h6 : 12 * (k : Int) + 4 ≤ 1440 := by omega
        have h7 : (12 * (k : Int) + 4).toNat = 12 * k + 4 := by omega
        have h8 : (12 * (k : Int)).toNat = 12 * k := by omega
        go_quiet ((first | (go_at_call 28; with_reducible exact Calls.quiet_of (C1.out _)) | (go_at_call 28; with_reducible exact Calls.quiet_of (C2.out _))))
        clear hw h0 h4 h5 h6 h7 h8
        go_wp2
        go_ret3
        exact ⟨by unfold splitV; rw [HF.out]; rfl, n + n3 + nq, by rw [← HW.out]; exact World.drewN_drewN _ _ _⟩
      · have HP := Lib.hid (noneTo_succ HN.out HT.out (by simp [hl]))
        have hl' : (r == u) = false := by simp [hl]
        clear hl
        go_wp2_with (first | (go_at_call 28; (with_reducible refine (C3.out _).mono ?_); rintro e w' ⟨rfl, n1, rfl⟩))
        go_roundw
        case rel => exact ⟨k + 1, _, by omega, by go_num, by first | rfl | (simp only [World.drewN_drewN]; rfl), HP.out⟩
        case measure => simp [intOf]; omega
    · have HF := Lib.hid (show splitL u = none by unfold splitL; rw [noneTo_all hN (by omega)]; rfl)
      clear hN
      go_wp2
      go_ret3
      exact ⟨by unfold splitV; rw [HF.out]; rfl, _, rfl⟩
end Go.Proofs.YtadpmdlajfojiaaDoor
