/- First at every number; works; the walk of TranslitWide. -/
import Derived.Test.YthafggbmomdkkaaDoorTD
namespace Go.Proofs.YthafggbmomdkkaaDoor
open Go.RowKit
theorem ent_lens : entT.all (fun t => decide ((splitBar t.2).length ≤ 3) && decide ((splitBar t.2).all (fun c => decide (c.size ≤ 10)) = true)) = true := by decide +kernel
theorem cand_cases (u : Int) : (candL u = [byteS (u - 65248)] ∧ 65281 ≤ u ∧ u ≤ 65374) ∨ (∃ t ∈ entT, t.1 = u ∧ candL u = splitBar t.2) ∨ candL u = [] := by
  unfold candL
  split
  · rename_i h
    exact .inl ⟨rfl, h⟩
  · split
    · rename_i t ht
      exact .inr (.inl ⟨t, List.mem_of_find?_eq_some ht, by simpa using List.find?_some ht, rfl⟩)
    · exact .inr (.inr rfl)
theorem cand_len (u : Int) : (candL u).length ≤ 3 ∧ ∀ c ∈ candL u, c.size ≤ 10 := by
  rcases cand_cases u with ⟨h, _⟩ | ⟨t, ht, _, h⟩ | h
  · rw [h]
    exact ⟨by simp, fun c hc => by simp at hc; subst hc; exact (by show (1 : Nat) ≤ 10; omega)⟩
  · rw [h]
    have := List.all_eq_true.1 ent_lens t ht
    simp only [Bool.and_eq_true, decide_eq_true_eq] at this
    exact ⟨this.1, fun c hc => of_decide_eq_true (List.all_eq_true.1 this.2 c hc)⟩
  · rw [h]
    exact ⟨by simp, fun c hc => by cases hc⟩
theorem first_any (u : Int) (among : ByteArray) (w : World) (hw : MaxAt w) : Calls Tryd.prog 14 #[.int .i32 u, .string among] w fun e w' => e = .returned (.tuple #[.string ((firstL u among).getD ⟨#[]⟩), .bool (firstL u among).isSome]) ∧ Below w.heap.size w w' := by
  by_cases h : candL u = []
  · have := first_none u among h w hw
    rw [show firstL u among = none by unfold firstL; rw [h]; rfl]
    exact this
  · exact first_some u among (candL u) rfl h (by have := (cand_len u).1; omega) w hw
theorem works_parts : candL 8364 = [⟨#[69, 85, 82]⟩, ⟨#[69]⟩] ∧ firstL 8364 ⟨#[69, 82]⟩ = some ⟨#[69]⟩ ∧ candL 97 = [] := by
  refine ⟨by decide +kernel, by decide +kernel, by decide +kernel⟩
set_option maxRecDepth 100000 in
set_option maxHeartbeats 1600000 in
theorem works_calls (w : World) (hw : MaxAt w) : Calls Tryd.prog 8 #[] w fun e w' => e = .returned (.bool true) ∧ Below w.heap.size w w' := by
  have h1 := cand_some 8364 _ works_parts.1 (by simp)
  have h2 := first_any 8364 ⟨#[69, 82]⟩
  rw [works_parts.2.1] at h2
  have h3 := cand_none 97 works_parts.2.2
  have H1 := Lib.hid h1
  have H2 := Lib.hid h2
  have H3 := Lib.hid h3
  have HW := Lib.hid hw
  clear h1 h2 h3 hw
  go_enter Tryd.func8, Tryd.ntmps8
  go_wp2_with fail
  refine (H1.out _ HW.out).mono ?_
  rintro e w1 ⟨g, hg, rfl, hcs, hb⟩
  have I1 := Lib.hid (show FInv w w1 g _ from ⟨hb, hg, hcs⟩)
  have HW1 := Lib.hid (HW.out.below hb)
  clear hg hb hcs
  go_wp2_with fail
  refine (H2.out _ HW1.out).mono ?_
  rintro e w2 ⟨rfl, hb⟩
  have I2 := Lib.hid (I1.out.below hb)
  have HW2 := Lib.hid (HW1.out.below hb)
  have hc0 : w2.cell? ⟨g, 0, none⟩ = some (.string ⟨#[69, 85, 82]⟩) := I2.out.cell rfl
  clear hb
  go_wp2_with fail
  refine (H3.out _ HW2.out).mono ?_
  rintro e w3 ⟨rfl, hb⟩
  have I3 := Lib.hid (I2.out.below hb)
  clear hb
  go_wp2_with fail
  go_ret
  exact ⟨rfl, I3.out.bl⟩
theorem byte_end {c : Int} (h0 : 0 ≤ c) (h1 : c < 256) (h : 0 < (byteS c).size) : (wrap32 ((((byteS c)[0]'h).toNat : Nat) : Int) == c) = true := by
  have e : ((((byteS c)[0]'h).toNat : Nat) : Int) = c := by
    show ((UInt8.ofNat c.toNat).toNat : Int) = c
    simp
    omega
  rw [e, show wrap32 c = c by unfold wrap32; omega]
  simp
theorem ascii_none : entT.all (fun t => decide (128 ≤ t.1)) = true := by decide +kernel
set_option maxRecDepth 100000 in
set_option maxHeartbeats 1600000 in
theorem wide_calls (u : Int) (w : World) (hw : MaxAt w) : Calls Tryd.prog 7 #[.int .i32 u] w fun e w' => e = .returned (.bool true) ∧ Below w.heap.size w w' := by
  have HK := Lib.hid works_calls
  have HW := Lib.hid hw
  by_cases hu : 65281 ≤ u ∧ u ≤ 65374
  · obtain ⟨h0, h1⟩ := hu
    have hcu : candL u = [byteS (u - 65248)] := if_pos ⟨h0, h1⟩
    have HC := Lib.hid (cand_some u _ hcu (by simp))
    clear hcu hw
    go_enter Tryd.func7, Tryd.ntmps7
    go_wp2_with fail
    refine (HK.out _ HW.out).mono ?_
    rintro e w1 ⟨rfl, hb⟩
    have B1 := Lib.hid hb
    have HW1 := Lib.hid (HW.out.below hb)
    clear hb
    go_wp2_with fail
    refine (HC.out _ HW1.out).mono ?_
    rintro e w2 ⟨g, hg, rfl, hcs, hb⟩
    have I2 := Lib.hid (show FInv w1 w2 g _ from ⟨hb, hg, hcs⟩)
    have hc0 : w2.cell? ⟨g, 0, none⟩ = some (.string (byteS (u - 65248))) := I2.out.cell rfl
    clear hg hb hcs
    have hsz : (byteS (u - 65248)).size = 1 := rfl
    go_wp2_with fail
    go_ret
    refine ⟨?_, below_then B1.out B1.out.size I2.out.bl⟩
    exact congrArg (fun b => Ending.returned (.bool b)) (byte_end (c := u - 65248) (by omega) (by omega) Nat.zero_lt_one)
  · by_cases ha : 0 ≤ u ∧ u < 128
    · have hcu : candL u = [] := by
        rcases cand_cases u with ⟨_, h⟩ | ⟨t, ht, hte, _⟩ | h
        · exact absurd h hu
        · have := of_decide_eq_true (List.all_eq_true.1 ascii_none t ht)
          omega
        · exact h
      have HC := Lib.hid (cand_none u hcu)
      obtain ⟨a0, a1⟩ := ha
      have hd : decide (128 ≤ u) = false := by simp; omega
      have hd2 : decide (u < 0) = false := by simp; omega
      have hd3 : decide (65281 ≤ u) = false := by simp; omega
      clear hcu hw hu
      go_enter Tryd.func7, Tryd.ntmps7
      go_wp2_with fail
      refine (HK.out _ HW.out).mono ?_
      rintro e w1 ⟨rfl, hb⟩
      have B1 := Lib.hid hb
      have HW1 := Lib.hid (HW.out.below hb)
      clear hb
      go_wp2_with fail
      refine (HC.out _ HW1.out).mono ?_
      rintro e w2 ⟨rfl, hb⟩
      have B2 := Lib.hid (below_then B1.out B1.out.size hb)
      clear hb
      go_wp2_with fail
      go_ret
      exact ⟨rfl, B2.out⟩
    · have HC := Lib.hid (cand_any u)
      have hcs : u < 0 ∨ (128 ≤ u ∧ u < 65281) ∨ 65374 < u := by omega
      clear hw hu ha
      rcases hcs with h | ⟨h, h'⟩ | h
      · have hd2 : decide (u < 0) = true := by simp; omega
        have hd3 : decide (65281 ≤ u) = false := by simp; omega
        go_enter Tryd.func7, Tryd.ntmps7
        go_wp2_with fail
        refine (HK.out _ HW.out).mono ?_
        rintro e w1 ⟨rfl, hb⟩
        have B1 := Lib.hid hb
        have HW1 := Lib.hid (HW.out.below hb)
        clear hb
        go_wp2_with fail
        refine (HC.out _ HW1.out).mono ?_
        rintro e w2 ⟨hq, hb⟩
        have B2 := Lib.hid (below_then B1.out B1.out.size hb)
        clear hb
        rcases hq with ⟨_, rfl⟩ | ⟨g, _, _, rfl, _⟩
        all_goals
          go_wp2_with fail
          go_ret
          exact ⟨rfl, B2.out⟩
      · have hd : decide (128 ≤ u) = true := by simp; omega
        have hd2 : decide (u < 0) = false := by simp; omega
        have hd3 : decide (65281 ≤ u) = false := by simp; omega
        go_enter Tryd.func7, Tryd.ntmps7
        go_wp2_with fail
        refine (HK.out _ HW.out).mono ?_
        rintro e w1 ⟨rfl, hb⟩
        have B1 := Lib.hid hb
        have HW1 := Lib.hid (HW.out.below hb)
        clear hb
        go_wp2_with fail
        refine (HC.out _ HW1.out).mono ?_
        rintro e w2 ⟨hq, hb⟩
        have B2 := Lib.hid (below_then B1.out B1.out.size hb)
        clear hb
        rcases hq with ⟨_, rfl⟩ | ⟨g, _, _, rfl, _⟩
        all_goals
          go_wp2_with fail
          go_ret
          exact ⟨rfl, B2.out⟩
      · have hd : decide (128 ≤ u) = true := by simp; omega
        have hd2 : decide (u < 0) = false := by simp; omega
        have hd3 : decide (65281 ≤ u) = true := by simp; omega
        have hd4 : decide (u ≤ 65374) = false := by simp; omega
        go_enter Tryd.func7, Tryd.ntmps7
        go_wp2_with fail
        refine (HK.out _ HW.out).mono ?_
        rintro e w1 ⟨rfl, hb⟩
        have B1 := Lib.hid hb
        have HW1 := Lib.hid (HW.out.below hb)
        clear hb
        go_wp2_with fail
        refine (HC.out _ HW1.out).mono ?_
        rintro e w2 ⟨hq, hb⟩
        have B2 := Lib.hid (below_then B1.out B1.out.size hb)
        clear hb
        rcases hq with ⟨_, rfl⟩ | ⟨g, _, _, rfl, _⟩
        all_goals
          go_wp2_with fail
          go_ret
          exact ⟨rfl, B2.out⟩
end Go.Proofs.YthafggbmomdkkaaDoor
