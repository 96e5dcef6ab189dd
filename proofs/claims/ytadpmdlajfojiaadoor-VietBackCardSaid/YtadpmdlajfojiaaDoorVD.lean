/- The reference's search through its triples. -/
import Derived.Test.YtadpmdlajfojiaaDoorVC
namespace Go.Proofs.YtadpmdlajfojiaaDoor
open Go.RowKit
/-- The first text that a code slices. -/
def opsStr : List Oper → Option ByteArray
  | [] => none
  | o :: r => match o.op with
    | .slice _ (.const (.string s)) _ _ _ => some s
    | _ => opsStr r
def codeStr : Code → Option ByteArray
  | .region _ ops _ => opsStr ops.toList
  | .seq a b => (codeStr a).or (codeStr b)
  | .cond _ a b => (codeStr a).or (codeStr b)
  | .block _ a => codeStr a
  | .loop a => codeStr a
  | _ => none
noncomputable def bodyStr (fn : Func) : ByteArray := ((fn.body.bind codeStr)).getD ⟨#[]⟩
/-- The triples' text. -/
noncomputable def tripS : ByteArray := bodyStr Tryd.f21
theorem tripS_size : tripS.size = 1440 := by kernel_rfl
/-- Its bytes as numbers. -/
noncomputable def tripL : List Nat := tripS.data.toList.map (·.toNat)
def four4 (a b c d : Nat) : Int := 4096 * digV a + 256 * digV b + 16 * digV c + digV d
def parse12 : List Nat → List (Int × Int × Int)
  | a :: b :: c :: d :: e :: f :: g :: h :: i :: j :: k :: l :: r => (four4 a b c d, four4 e f g h, four4 i j k l) :: parse12 r
  | _ => []
theorem trip_parse : parse12 tripL = allT := by kernel_rfl
def at4 (L : List Nat) (p : Nat) : Int := four4 (L.getD p 0) (L.getD (p + 1) 0) (L.getD (p + 2) 0) (L.getD (p + 3) 0)
theorem parse_at : ∀ (L : List Nat) (k : Nat) (t : Int × Int × Int), (parse12 L)[k]? = some t → at4 L (12 * k) = t.1 ∧ at4 L (12 * k + 4) = t.2.1 ∧ at4 L (12 * k + 8) = t.2.2
  | a :: b :: c :: d :: e :: f :: g :: h :: i :: j :: k' :: l :: r, k, t, H => by
    cases k with
    | zero =>
      simp only [parse12, List.getElem?_cons_zero, Option.some.injEq] at H
      subst H
      exact ⟨rfl, rfl, rfl⟩
    | succ k =>
      have ih := parse_at r k t (by simpa [parse12] using H)
      have e1 : ∀ p, at4 (a :: b :: c :: d :: e :: f :: g :: h :: i :: j :: k' :: l :: r) (p + 12) = at4 r p := fun p => rfl
      rw [show 12 * (k + 1) = 12 * k + 12 by omega, show 12 * k + 12 + 4 = 12 * k + 4 + 12 by omega, show 12 * k + 12 + 8 = 12 * k + 8 + 12 by omega, e1, e1, e1]
      exact ih
  | [], _, _, H | [_], _, _, H | [_, _], _, _, H | [_, _, _], _, _, H | [_, _, _, _], _, _, H | [_, _, _, _, _], _, _, H | [_, _, _, _, _, _], _, _, H | [_, _, _, _, _, _, _], _, _, H
  | [_, _, _, _, _, _, _, _], _, _, H | [_, _, _, _, _, _, _, _, _], _, _, H | [_, _, _, _, _, _, _, _, _, _], _, _, H | [_, _, _, _, _, _, _, _, _, _, _], _, _, H => by simp [parse12] at H
theorem bt_extract (s : ByteArray) (p i : Nat) : bt (s.extract p s.size) i = ((s.data.toList.map (·.toNat)).getD (p + i) 0 : Nat) := by
  have hsz : (s.extract p s.size).size = s.size - p := by simp
  unfold bt
  by_cases h : p + i < s.size
  · rw [dif_pos (by rw [hsz]; omega)]
    rw [List.getD_eq_getElem?_getD, List.getElem?_map, List.getElem?_eq_getElem (by simpa using h)]
    simp only [Option.map_some, Option.getD_some]
    congr 2
    rw [ByteArray.getElem_extract]
    rfl
  · rw [dif_neg (by rw [hsz]; omega)]
    rw [List.getD_eq_getElem?_getD, List.getElem?_map, List.getElem?_eq_none (by simpa using h)]
    rfl
theorem fourS_extract (s : ByteArray) (p : Nat) : fourS (s.extract p s.size) = at4 (s.data.toList.map (·.toNat)) p := by
  unfold fourS at4 four4
  rw [bt_extract, bt_extract, bt_extract, bt_extract]
  rfl
theorem trip_at (k : Nat) (t : Int × Int × Int) (h : allT[k]? = some t) : fourS (tripS.extract (12 * k) 1440) = t.1 ∧ fourS (tripS.extract (12 * k + 4) 1440) = t.2.1 ∧ fourS (tripS.extract (12 * k + 8) 1440) = t.2.2 := by
  have hs := tripS_size
  have := parse_at tripL k t (by rw [trip_parse]; exact h)
  rw [← hs, fourS_extract, fourS_extract, fourS_extract]
  exact this
theorem trip_calls (k : Nat) (t : Int × Int × Int) (h : allT[k]? = some t) :
    (∀ w, Calls Tryd.prog 28 #[.string (tripS.extract (12 * k) 1440)] w fun e w' => e = .returned (.int .i32 t.1) ∧ ∃ n, w' = w.drewN n) ∧
    (∀ w, Calls Tryd.prog 28 #[.string (tripS.extract (12 * k + 4) 1440)] w fun e w' => e = .returned (.int .i32 t.2.1) ∧ ∃ n, w' = w.drewN n) ∧
    (∀ w, Calls Tryd.prog 28 #[.string (tripS.extract (12 * k + 8) 1440)] w fun e w' => e = .returned (.int .i32 t.2.2) ∧ ∃ n, w' = w.drewN n) := by
  have hk : k < 120 := by have := (List.getElem?_eq_some_iff.1 h).1; rwa [allT_len] at this
  obtain ⟨e1, e2, e3⟩ := trip_at k t h
  have hs := tripS_size
  refine ⟨fun w => ?_, fun w => ?_, fun w => ?_⟩
  · rw [← e1]; exact four_calls _ (by simp [hs]; omega) w
  · rw [← e2]; exact four_calls _ (by simp [hs]; omega) w
  · rw [← e3]; exact four_calls _ (by simp [hs]; omega) w
/-- What a letter and a mark make. -/
def composeL (l m : Int) : Option Int := (allT.find? fun t => decide (t.1 = l ∧ t.2.1 = m)).map (·.2.2)
def splitL (u : Int) : Option (Int × Int) := (allT.find? fun t => decide (t.2.2 = u)).map fun t => (t.1, t.2.1)
def holdsB (u : Int) : Bool := allT.any fun t => decide (t.1 = u)
/-- The search up to the k-th. -/
def NoneTo (p : Int × Int × Int → Bool) (k : Nat) : Prop := ∀ j t, j < k → allT[j]? = some t → p t = false
theorem noneTo_zero (p : Int × Int × Int → Bool) : NoneTo p 0 := fun _ _ h => by omega
theorem noneTo_succ {p : Int × Int × Int → Bool} {k : Nat} {t : Int × Int × Int} (h : NoneTo p k) (ht : allT[k]? = some t) (hp : p t = false) : NoneTo p (k + 1) := fun j x hj hx => by
  rcases Nat.lt_succ_iff_lt_or_eq.1 hj with h1 | rfl
  · exact h j x h1 hx
  · rw [ht] at hx; cases hx; exact hp
theorem noneTo_all {p : Int × Int × Int → Bool} {k : Nat} (h : NoneTo p k) (hk : 120 ≤ k) : allT.find? p = none := by
  rw [List.find?_eq_none]
  intro t ht
  obtain ⟨j, hj⟩ := List.mem_iff_getElem?.1 ht
  have h1 := (List.getElem?_eq_some_iff.1 hj).1
  rw [allT_len] at h1
  simp [h j t (by omega) hj]
theorem noneTo_found {p : Int × Int × Int → Bool} {k : Nat} {t : Int × Int × Int} (h : NoneTo p k) (ht : allT[k]? = some t) (hp : p t = true) : allT.find? p = some t := by
  rw [List.find?_eq_some_iff_getElem]
  obtain ⟨h1, h2⟩ := List.getElem?_eq_some_iff.1 ht
  refine ⟨hp, k, h1, h2, fun j hj => ?_⟩
  simp [h j _ hj (List.getElem?_eq_getElem (by omega))]

set_option maxRecDepth 100000 in
set_option maxHeartbeats 400000 in
theorem rcompose_calls (l m : Int) (w : World) : Calls Tryd.prog 25 #[.int .i32 l, .int .i32 m] w fun e w' => e = .returned (.tuple #[.int .i32 ((composeL l m).getD 0), .bool (composeL l m).isSome]) ∧ ∃ n, w' = w.drewN n := by
  have hsz := tripS_size
  go_enter Tryd.func25, Tryd.ntmps25
  conv in (occs := *) (Operand.const (Value.string _)) => all_goals change Operand.const (Value.string tripS)
  go_wp2
  go_loopw [6] (fun i wr => ∃ k n : Nat, k ≤ 120 ∧ i = .int .i64 ((12 * k : Nat) : Int) ∧ wr = w.drewN n ∧ NoneTo (fun t => decide (t.1 = l ∧ t.2.1 = m)) k) (fun i _ => 1440 - (intOf i).toNat)
  case atStart => exact ⟨0, 0, by omega, rfl, rfl, noneTo_zero _⟩
  case round =>
    obtain ⟨k, n, hk, rfl, rfl, hN⟩ := hrel
    by_cases hlt : k < 120
    · obtain ⟨⟨a, b, r⟩, ht⟩ : ∃ t, allT[k]? = some t := ⟨_, List.getElem?_eq_getElem (show k < allT.length by rw [allT_len]; exact hlt)⟩
      have hc := trip_calls k _ ht
      have C1 := Lib.hid hc.1
      have C2 := Lib.hid hc.2.1
      have C3 := Lib.hid hc.2.2
      have HN := Lib.hid hN
      have HT := Lib.hid ht
      clear hc hN ht
      by_cases hl : a = l
      · by_cases hm : b = m
        · have HF := Lib.hid (show composeL l m = some r by unfold composeL; rw [noneTo_found HN.out HT.out (by simp [hl, hm])]; rfl)
          subst hl
          subst hm
          go_wp2_with (first | (go_at_call 28; (with_reducible refine (C1.out _).mono ?_); rintro e w' ⟨rfl, n1, rfl⟩) | (go_at_call 28; (with_reducible refine (C2.out _).mono ?_); rintro e w' ⟨rfl, n2, rfl⟩) | (go_at_call 28; (with_reducible refine (C3.out _).mono ?_); rintro e w' ⟨rfl, n3, rfl⟩))
          go_ret2
          exact ⟨by rw [HF.out]; rfl, _, by first | rfl | (simp only [World.drewN_drewN]; rfl)⟩
        · have HP := Lib.hid (noneTo_succ HN.out HT.out (by simp [hm]))
          have hm' : (b == m) = false := by simp [hm]
          clear hm
          subst hl
          go_wp2_with (first | (go_at_call 28; (with_reducible refine (C1.out _).mono ?_); rintro e w' ⟨rfl, n1, rfl⟩) | (go_at_call 28; (with_reducible refine (C2.out _).mono ?_); rintro e w' ⟨rfl, n2, rfl⟩))
          go_roundw
          case rel => exact ⟨k + 1, _, by omega, by go_num, by first | rfl | (simp only [World.drewN_drewN]; rfl), HP.out⟩
          case measure => simp [intOf]; omega
      · have HP := Lib.hid (noneTo_succ HN.out HT.out (by simp [hl]))
        have hl' : (a == l) = false := by simp [hl]
        clear hl
        go_wp2_with (first | (go_at_call 28; (with_reducible refine (C1.out _).mono ?_); rintro e w' ⟨rfl, n1, rfl⟩))
        go_roundw
        case rel => exact ⟨k + 1, _, by omega, by go_num, by first | rfl | (simp only [World.drewN_drewN]; rfl), HP.out⟩
        case measure => simp [intOf]; omega
    · have HF := Lib.hid (show composeL l m = none by unfold composeL; rw [noneTo_all hN (by omega)]; rfl)
      clear hN
      go_wp2
      go_ret2
      exact ⟨by rw [HF.out]; rfl, _, rfl⟩
end Go.Proofs.YtadpmdlajfojiaaDoor
