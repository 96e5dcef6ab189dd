/- The byte of a scalar: the program's one, the reference's scalar, Holds, one. -/
import Derived.Test.YtadpmdlajfojiaaDoorVH
namespace Go.Proofs.YtadpmdlajfojiaaDoor
open Go.RowKit
/-- The least byte of a scalar. -/
def oneP (u : Int) (b : Nat) : Bool := decide (u ≠ 65533 ∧ scalarB (b : Int) = u)
def oneL (u : Int) : Option Nat := (List.range 256).find? (oneP u)
def NoneB (p : Nat → Bool) (k : Nat) : Prop := ∀ j, j < k → p j = false
theorem noneB_succ {p : Nat → Bool} {k : Nat} (h : NoneB p k) (hp : p k = false) : NoneB p (k + 1) := fun j hj => by
  rcases Nat.lt_succ_iff_lt_or_eq.1 hj with h1 | rfl
  · exact h j h1
  · exact hp
theorem noneB_all {p : Nat → Bool} {k : Nat} (h : NoneB p k) (hk : 256 ≤ k) : (List.range 256).find? p = none := by
  rw [List.find?_eq_none]
  intro j hj
  have := List.mem_range.1 hj
  simp [h j (by omega)]
theorem noneB_found {p : Nat → Bool} {k : Nat} (h : NoneB p k) (hk : k < 256) (hp : p k = true) : (List.range 256).find? p = some k := by
  rw [List.find?_eq_some_iff_getElem]
  refine ⟨hp, k, by simpa using hk, by simp, fun j hj => ?_⟩
  simp [h j hj]

set_option maxRecDepth 100000 in
set_option maxHeartbeats 800000 in
theorem one_calls (u : Int) (w : World) (hw : ListAt w) : Calls Tryd.prog 18 #[.int .i32 u] w fun e w' => e = .returned (.tuple #[.int .u8 (((oneL u).getD 0 : Nat) : Int), .bool (oneL u).isSome]) ∧ w = w' := by
  have HW := Lib.hid hw
  clear hw
  by_cases hu : u = 65533
  · subst hu
    have HF := Lib.hid (show oneL 65533 = none by unfold oneL; rw [List.find?_eq_none]; intro j _; simp [oneP])
    go_enter Tryd.func18, Tryd.ntmps18
    go_wp2_with fail
    go_loopw [5] (fun i wr => ∃ k : Nat, k ≤ 256 ∧ i = .int .i64 (k : Int) ∧ w = wr) (fun i _ => 256 - (intOf i).toNat)
    case atStart => exact ⟨0, by omega, rfl, rfl⟩
    case round =>
      obtain ⟨k, hk, rfl, rfl⟩ := hrel
      by_cases hlt : k < 256
      · go_wp2_with fail
        go_roundw
        case rel => exact ⟨k + 1, by omega, by go_num, by first | rfl | trivial⟩
        case measure => simp [intOf]; omega
      · go_wp2_with fail
        go_ret2
        exact ⟨by rw [HF.out]; rfl, by first | rfl | trivial⟩
  · have hu' : (u == 65533) = false := by simp [hu]
    have hu2 : (u != 65533) = true := by simp [hu]
    have HU := Lib.hid hu
    clear hu
    go_enter Tryd.func18, Tryd.ntmps18
    go_wp2_with fail
    go_loopw [5] (fun i wr => ∃ k : Nat, k ≤ 256 ∧ i = .int .i64 (k : Int) ∧ w = wr ∧ NoneB (oneP u) k) (fun i _ => 256 - (intOf i).toNat)
    case atStart => exact ⟨0, by omega, rfl, rfl, fun j h => by omega⟩
    case round =>
      obtain ⟨k, hk, rfl, rfl, hN⟩ := hrel
      have HN := Lib.hid hN
      clear hN
      by_cases hlt : k < 256
      · have hs := scalar_calls (k : Int) (by omega) (by omega) w HW.out
        obtain ⟨x, hx⟩ : ∃ x, scalarB (k : Int) = x := ⟨_, rfl⟩
        rw [hx] at hs
        have HX := Lib.hid hx
        have HS := Lib.hid hs
        clear hx hs
        by_cases hl : x = u
        · have HF := Lib.hid (show oneL u = some k by unfold oneL; exact noneB_found HN.out hlt (by simp [oneP, HX.out, hl, HU.out]))
          subst hl
          go_wp2_with (go_at_call 22; (with_reducible refine HS.out.mono ?_); rintro e w' ⟨rfl, rfl⟩)
          go_ret2
          exact ⟨by rw [HF.out]; rfl, rfl⟩
        · have HP := Lib.hid (noneB_succ HN.out (by simp [oneP, HX.out, hl]))
          have hl' : (x == u) = false := by simp [hl]
          clear hl
          go_wp2_with (go_at_call 22; (with_reducible refine HS.out.mono ?_); rintro e w' ⟨rfl, rfl⟩)
          go_roundw
          case rel => exact ⟨k + 1, by omega, by go_num, by first | rfl | trivial, HP.out⟩
          case measure => simp [intOf]; omega
      · have HF := Lib.hid (show oneL u = none from noneB_all HN.out (by omega))
        go_wp2_with fail
        go_ret2
        exact ⟨by rw [HF.out]; rfl, by first | rfl | trivial⟩

/-- The reference's list, as a text. -/
noncomputable def listS : ByteArray := bodyStr Tryd.f24
theorem listS_size : listS.size = 512 := by kernel_rfl
noncomputable def listN : List Nat := listS.data.toList.map (·.toNat)
def parse4 : List Nat → List Int
  | a :: b :: c :: d :: r => four4 a b c d :: parse4 r
  | _ => []
theorem list_parse : parse4 listN = listL := by kernel_rfl
theorem parse4_at : ∀ (L : List Nat) (k : Nat) (x : Int), (parse4 L)[k]? = some x → at4 L (4 * k) = x
  | a :: b :: c :: d :: r, k, x, H => by
    cases k with
    | zero =>
      simp only [parse4, List.getElem?_cons_zero, Option.some.injEq] at H
      subst H
      rfl
    | succ k =>
      have ih := parse4_at r k x (by simpa [parse4] using H)
      have e1 : ∀ p, at4 (a :: b :: c :: d :: r) (p + 4) = at4 r p := fun p => rfl
      rw [show 4 * (k + 1) = 4 * k + 4 by omega, e1]
      exact ih
  | [], _, _, H | [_], _, _, H | [_, _], _, _, H | [_, _, _], _, _, H => by simp [parse4] at H
theorem list_four (k : Nat) (h : k < 128) (w : World) : Calls Tryd.prog 28 #[.string (listS.extract (4 * k) 512)] w fun e w' => e = .returned (.int .i32 (listL.getD k 0)) ∧ ∃ n, w' = w.drewN n := by
  have hs := listS_size
  have hk : k < listL.length := by rw [listL_len]; exact h
  have e : fourS (listS.extract (4 * k) 512) = listL.getD k 0 := by
    rw [← hs, fourS_extract]
    refine parse4_at _ k _ ?_
    show (parse4 listN)[k]? = _
    rw [list_parse, List.getD_eq_getElem?_getD, List.getElem?_eq_getElem hk]
    rfl
  rw [← e]
  exact four_calls _ (by simp [hs]; omega) w
set_option maxRecDepth 100000 in
set_option maxHeartbeats 400000 in
theorem rscalar_calls (b : Int) (h0 : 0 ≤ b) (h1 : b ≤ 255) (w : World) : Calls Tryd.prog 24 #[.int .u8 b] w fun e w' => e = .returned (.int .i32 (scalarB b)) ∧ ∃ n, w' = w.drewN n := by
  by_cases h : b < 128
  · have E := Lib.hid (show scalarB b = b from if_pos h)
    go_enter Tryd.func24, Tryd.ntmps24
    conv in (occs := *) (Operand.const (Value.string _)) => all_goals change Operand.const (Value.string listS)
    go_wp2
    go_ret
    exact ⟨by rw [E.out]; rfl, 0, rfl⟩
  · obtain ⟨j, rfl⟩ : ∃ j : Nat, b = (j : Int) + 128 := ⟨(b - 128).toNat, by omega⟩
    have hc := list_four j (by omega)
    have E := Lib.hid (show scalarB ((j : Int) + 128) = listL.getD j 0 by unfold scalarB; rw [if_neg h, show ((j : Int) + 128 - 128).toNat = j by omega])
    have HC := Lib.hid hc
    clear hc
    have hsz := listS_size
    have hj : (4 * (j : Int)).toNat = 4 * j := by omega
    have h5 : (0 : Int) ≤ 4 * (j : Int) := by omega
    have h6 : 4 * (j : Int) ≤ 512 := by omega
    have h7 : (j : Int) + 128 - 128 = j := by omega
    go_enter Tryd.func24, Tryd.ntmps24
    conv in (occs := *) (Operand.const (Value.string _)) => all_goals change Operand.const (Value.string listS)
    go_wp2_with fail
    refine (HC.out _).mono ?_
    rintro e w' ⟨rfl, n, rfl⟩
    go_wp2
    go_ret
    exact ⟨by rw [E.out]; rfl, n, rfl⟩
end Go.Proofs.YtadpmdlajfojiaaDoor
