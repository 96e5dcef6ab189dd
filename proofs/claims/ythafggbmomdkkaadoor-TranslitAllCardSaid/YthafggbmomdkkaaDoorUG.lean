/- The walk of TranslitAll (the first round written by mkug.py). -/
import Derived.Test.YthafggbmomdkkaaDoorUF
import Derived.Deep.RegionHeldLaw
namespace Go.Proofs.YthafggbmomdkkaaDoor
open Go.RowKit
theorem u_keep {w X Y : World} {g k j : Nat} {x y : Int} (h : X.cell? ⟨g, k, none⟩ = some (.int .i32 x) ∧ X.cell? ⟨g, j, none⟩ = some (.int .i32 y) ∧ UInv w X g) (hb : Below X.heap.size X Y) : Y.cell? ⟨g, k, none⟩ = some (.int .i32 x) ∧ Y.cell? ⟨g, j, none⟩ = some (.int .i32 y) ∧ UInv w Y g :=
  ⟨(hb.cell (p := ⟨g, k, none⟩) (block_lt_of_cell h.1)).trans h.1, (hb.cell (p := ⟨g, j, none⟩) (block_lt_of_cell h.2.1)).trans h.2.1, h.2.2.below hb⟩
theorem u_keep2 {w X Y : World} {g k : Nat} {x : Int} (h : X.cell? ⟨g, k, none⟩ = some (.int .i32 x) ∧ UInv w X g) (hb : Below X.heap.size X Y) : Y.cell? ⟨g, k, none⟩ = some (.int .i32 x) ∧ UInv w Y g :=
  ⟨(hb.cell (p := ⟨g, k, none⟩) (block_lt_of_cell h.1)).trans h.1, h.2.below hb⟩
set_option maxRecDepth 100000 in
set_option maxHeartbeats 6400000 in
theorem tall_calls (u : Int) (w : World) (hw : MaxAt w) : Calls Tryd.prog 3 #[.int .i32 u] w fun e w' => e = .returned (.bool true) ∧ Below w.heap.size w w' := by
  have HWK := Lib.hid works_calls
  have HW := Lib.hid hw
  clear hw
  go_enter Tryd.func3, Tryd.ntmps3
  go_wp2_with fail
  refine (HWK.out _ HW.out).mono ?_
  rintro e w1 ⟨rfl, hb⟩
  have B1 := Lib.hid hb
  clear hb
  go_wp2_with fail
  refine (all_calls _).mono ?_
  rintro e w2 ⟨g, cap, rfl, ha, hb⟩
  have I2 := Lib.hid (show UInv w w2 g from ⟨below_then B1.out B1.out.size hb, ha, (HW.out.below B1.out).below hb⟩)
  clear hb ha
  go_wp2_with fail
  go_loopg [4, 5] 212 (fun gg vr i wr => ∃ (k : Nat) (r : Bool), k + gg = 212 ∧ i = .int .i64 (k : Int) ∧ vr = .bool r ∧ Hid (r = (allL.take k).any (· == u)) ∧ Hid (UInv w wr g))
  case atStart => exact ⟨0, false, rfl, rfl, rfl, Lib.hid rfl, I2⟩
  case round =>
    obtain ⟨k, r, hk, rfl, rfl, HR, HI⟩ := hrel
    cases gk with
    | zero =>
      obtain rfl : k = 212 := by omega
      have hr := HR.out
      rw [any_all] at hr
      clear HR
      by_cases hcu : candL u = []
      · obtain rfl : r = false := by rw [hr, hcu]; rfl
        have HC := Lib.hid (cand_none u hcu)
        clear hr hcu
        go_wp2_with fail
        refine (HC.out _ HI.out.mx).mono ?_
        rintro e w4 ⟨rfl, hb⟩
        have I4 := Lib.hid (HI.out.below hb)
        clear hb
        go_wp2_with fail
        refine (rall_calls _).mono ?_
        rintro e w5 ⟨g2, cap2, rfl, ha, hb⟩
        have I5 := Lib.hid (I4.out.below hb)
        have HA2 := Lib.hid ha
        clear hb ha
        go_wp2_with fail
        refine (sames_calls g cap g2 cap2 _ I5.out.at_ HA2.out).mono ?_
        rintro e w6 ⟨rfl, hb⟩
        have I6 := Lib.hid (I5.out.below hb)
        clear hb
        go_wp2_with fail
        go_ret
        exact ⟨rfl, I6.out.bl⟩
      · have hn := List.length_pos_iff.2 hcu
        obtain rfl : r = true := by rw [hr]; exact decide_eq_true hn
        have HC := Lib.hid (cand_some u _ rfl hcu)
        obtain ⟨n, hnn⟩ : ∃ n, (candL u).length = n := ⟨_, rfl⟩
        rw [hnn] at HC hn
        have hd : decide (0 < n) = true := decide_eq_true hn
        clear hr hcu hnn
        go_wp2_with fail
        refine (HC.out _ HI.out.mx).mono ?_
        rintro e w4 ⟨gc, hgc, rfl, hcs, hb⟩
        have I4 := Lib.hid (HI.out.below hb)
        clear hb hgc hcs
        go_wp2_with fail
        refine (rall_calls _).mono ?_
        rintro e w5 ⟨g2, cap2, rfl, ha, hb⟩
        have I5 := Lib.hid (I4.out.below hb)
        have HA2 := Lib.hid ha
        clear hb ha
        go_wp2_with fail
        refine (sames_calls g cap g2 cap2 _ I5.out.at_ HA2.out).mono ?_
        rintro e w6 ⟨rfl, hb⟩
        have I6 := Lib.hid (I5.out.below hb)
        clear hb
        go_wp2_with fail
        go_ret
        exact ⟨rfl, I6.out.bl⟩
    | succ gg =>
      have hkz : (k : Int) < 212 := by omega
      have hk0 : (0 : Int) ≤ (k : Int) := by omega
      have c1 : wr.cell? ⟨g, k, none⟩ = some (.int .i32 (allL.getD k 0)) := HI.out.at_ k (by omega)
      have HA := Lib.hid (any_take (k := k) (u := u) (by omega))
      have hne := cand_all (k := k) (by omega)
      obtain ⟨x, hx⟩ : ∃ x, allL.getD k 0 = x := ⟨_, rfl⟩
      have hlt := fun (h : 1 ≤ k) => (show allL.getD (k - 1) 0 < allL.getD k 0 by
        have := all_next (k := k - 1) (by omega)
        rwa [show k - 1 + 1 = k by omega] at this)
      rw [hx] at c1 HA hne hlt
      have HC := Lib.hid (cand_some x _ rfl hne)
      have hn := List.length_pos_iff.2 hne
      obtain ⟨n, hnn⟩ : ∃ n, (candL x).length = n := ⟨_, rfl⟩
      rw [hnn] at HC hn
      have hn0 : ((n : Int) == 0) = false := beq_eq_false_iff_ne.2 (by omega)
      clear hnn hne hx
      by_cases h1 : 1 ≤ k
      · have hkp : (0 : Int) < (k : Int) := by omega
        obtain ⟨m, hm⟩ : ∃ m, k - 1 = m := ⟨_, rfl⟩
        have hm0 : (0 : Int) ≤ (m : Int) := by omega
        have hm1 : (m : Int) < 212 := by omega
        have hwm : IntKind.i64.wrap ((k : Int) - 1) = (m : Int) := by rw [IntKind.wrap_i64]; omega
        rw [hm] at hlt
        have c2 : wr.cell? ⟨g, m, none⟩ = some (.int .i32 (allL.getD m 0)) := HI.out.at_ m (by omega)
        have hy1 := hlt h1
        obtain ⟨y, hy⟩ : ∃ y, allL.getD m 0 = y := ⟨_, rfl⟩
        rw [hy] at c2 hy1
        have hxy : decide (x ≤ y) = false := by simp; omega
        have S3 : wr.drew.cell? ⟨g, k, none⟩ = some (.int .i32 x) ∧ wr.drew.cell? ⟨g, m, none⟩ = some (.int .i32 y) ∧ UInv w wr.drew g := ⟨c1, c2, HI.out.drew⟩
        clear hlt hy c1 c2 hy1 hm
        go_wp2_with fail
        first
          | (go_region_held_law (fun X => X.cell? ⟨g, k, none⟩ = some (.int .i32 x) ∧ X.cell? ⟨g, m, none⟩ = some (.int .i32 y) ∧ UInv w X g)
          ((first | exact S3 | exact S4))
          (first | (go_at_call 10; refine (HC.out _ S3.2.2.mx).mono ?_; rintro e w4 ⟨gc, hgc, rfl, hcs, hb⟩; have S4 := (u_keep S3 hb : w4.cell? ⟨g, k, none⟩ = some (.int .i32 x) ∧ w4.cell? ⟨g, m, none⟩ = some (.int .i32 y) ∧ UInv w w4 g); clear hb hcs hgc) | fail))
          | fail
        all_goals
          have I4 := Lib.hid S4.2.2
          have c4 := S4.1
          clear S3 S4
          cases r with
          | true =>
            go_wp2_with fail
            go_roundg gg
            case measure => omega
            case rel => exact ⟨k + 1, true, by omega, by go_num, rfl, Lib.hid (by rw [HA.out, ← HR.out]; rfl), I4⟩
          | false =>
            go_wp2_with fail
            go_roundg gg
            case measure => omega
            case rel => exact ⟨k + 1, _, by omega, by go_num, rfl, Lib.hid (by rw [HA.out, ← HR.out]; rfl), I4⟩
      · obtain rfl : k = 0 := by omega
        obtain rfl : r = false := HR.out
        rw [show ((0 : Nat) : Int) = 0 from rfl]
        have S3 : wr.drew.cell? ⟨g, 0, none⟩ = some (.int .i32 x) ∧ UInv w wr.drew g := ⟨c1, HI.out.drew⟩
        clear hlt c1 h1
        go_wp2_with fail
        refine wp_region_held_drew (S := (fun X => X.cell? ⟨g, 0, none⟩ = some (.int .i32 x) ∧ UInv w X g)) (by kernel_rfl) S3 (fun hHeld => ?_)
        refine wpAnyH_take (i := 0) (oi := _) (v := ?v0) rfl (by kernel_rfl) (by kernel_rfl) (by kernel_rfl) (fun _ _ _ h => h) (Or.inl ⟨by rfl, ?hy0⟩) (by assumption) ?rest0
        case hy0 =>
          intro w hSw
          try dsimp only at hSw
          go_simp
          all_goals with_reducible rfl
        try simp only [Act.put, List.setIfInBounds_toArray, List.set_cons_zero, List.set_cons_succ]
        refine wpAnyH_take (i := 1) (oi := _) (v := ?v1) rfl (by kernel_rfl) (by kernel_rfl) (by kernel_rfl) (fun _ _ _ h => h) (Or.inl ⟨by rfl, ?hy1⟩) (by assumption) ?rest1
        case hy1 =>
          intro w hSw
          try dsimp only at hSw
          go_simp
          all_goals with_reducible rfl
        try simp only [Act.put, List.setIfInBounds_toArray, List.set_cons_zero, List.set_cons_succ]
        refine wpAnyH_take (i := 2) (oi := _) (v := ?v2) rfl (by kernel_rfl) (by kernel_rfl) (by kernel_rfl) (fun _ _ _ h => h) (Or.inl ⟨by rfl, ?hy2⟩) (by assumption) ?rest2
        case hy2 =>
          intro w hSw
          try dsimp only at hSw
          go_simp
          all_goals with_reducible rfl
        try simp only [Act.put, List.setIfInBounds_toArray, List.set_cons_zero, List.set_cons_succ]
        refine wpAnyH_take (i := 3) (oi := _) (v := undef) rfl (by kernel_rfl) (by kernel_rfl) (by kernel_rfl) (fun _ _ _ h => h) ?hy3 (by assumption) ?rest3
        case hy3 =>
          refine Or.inr (And.intro ?_ rfl)
          kernel_rfl
        try simp only [Act.put, List.setIfInBounds_toArray, List.set_cons_zero, List.set_cons_succ]
        refine wpAnyH_take (i := 4) (oi := _) (v := undef) rfl (by kernel_rfl) (by kernel_rfl) (by kernel_rfl) (fun _ _ _ h => h) ?hy4 (by assumption) ?rest4
        case hy4 =>
          refine Or.inr (And.intro ?_ rfl)
          kernel_rfl
        try simp only [Act.put, List.setIfInBounds_toArray, List.set_cons_zero, List.set_cons_succ]
        refine wpAnyH_take (i := 5) (oi := _) (v := undef) rfl (by kernel_rfl) (by kernel_rfl) (by kernel_rfl) (fun _ _ _ h => h) ?hy5 (by assumption) ?rest5
        case hy5 =>
          refine Or.inr (And.intro ?_ rfl)
          kernel_rfl
        try simp only [Act.put, List.setIfInBounds_toArray, List.set_cons_zero, List.set_cons_succ]
        refine wpAnyH_take (i := 6) (oi := _) (v := undef) rfl (by kernel_rfl) (by kernel_rfl) (by kernel_rfl) (fun _ _ _ h => h) ?hy6 (by assumption) ?rest6
        case hy6 =>
          refine Or.inr (And.intro ?_ rfl)
          kernel_rfl
        try simp only [Act.put, List.setIfInBounds_toArray, List.set_cons_zero, List.set_cons_succ]
        refine wpAnyH_take (i := 7) (oi := _) (v := undef) rfl (by kernel_rfl) (by kernel_rfl) (by kernel_rfl) (fun _ _ _ h => h) ?hy7 (by assumption) ?rest7
        case hy7 =>
          refine Or.inr (And.intro ?_ rfl)
          kernel_rfl
        try simp only [Act.put, List.setIfInBounds_toArray, List.set_cons_zero, List.set_cons_succ]
        refine wpAnyH_take (i := 8) (oi := _) (v := undef) rfl (by kernel_rfl) (by kernel_rfl) (by kernel_rfl) (fun _ _ _ h => h) ?hy8 (by assumption) ?rest8
        case hy8 =>
          refine Or.inr (And.intro ?_ rfl)
          kernel_rfl
        try simp only [Act.put, List.setIfInBounds_toArray, List.set_cons_zero, List.set_cons_succ]
        refine wpAnyH_take (i := 9) (oi := _) (v := undef) rfl (by kernel_rfl) (by kernel_rfl) (by kernel_rfl) (fun _ _ _ h => h) ?hy9 (by assumption) ?rest9
        case hy9 =>
          refine Or.inr (And.intro ?_ rfl)
          kernel_rfl
        try simp only [Act.put, List.setIfInBounds_toArray, List.set_cons_zero, List.set_cons_succ]
        refine wpAnyH_take (i := 10) (oi := _) (v := undef) rfl (by kernel_rfl) (by kernel_rfl) (by kernel_rfl) (fun _ _ _ h => h) ?hy10 (by assumption) ?rest10
        case hy10 =>
          refine Or.inr (And.intro ?_ rfl)
          kernel_rfl
        try simp only [Act.put, List.setIfInBounds_toArray, List.set_cons_zero, List.set_cons_succ]
        refine wpAnyH_take (i := 11) (oi := _) (v := undef) rfl (by kernel_rfl) (by kernel_rfl) (by kernel_rfl) (fun _ _ _ h => h) ?hy11 (by assumption) ?rest11
        case hy11 =>
          refine Or.inr (And.intro ?_ rfl)
          kernel_rfl
        try simp only [Act.put, List.setIfInBounds_toArray, List.set_cons_zero, List.set_cons_succ]
        refine wpAnyH_take (i := 12) (oi := _) (v := undef) rfl (by kernel_rfl) (by kernel_rfl) (by kernel_rfl) (fun _ _ _ h => h) ?hy12 (by assumption) ?rest12
        case hy12 =>
          refine Or.inr (And.intro ?_ rfl)
          kernel_rfl
        try simp only [Act.put, List.setIfInBounds_toArray, List.set_cons_zero, List.set_cons_succ]
        refine wpAnyH_take (i := 13) (oi := _) (v := ?v13) rfl (by kernel_rfl) (by kernel_rfl) (by kernel_rfl) (fun _ _ _ h => h) (Or.inl ⟨by rfl, ?hy13⟩) (by assumption) ?rest13
        case hy13 =>
          intro w hSw
          try dsimp only at hSw
          go_simp
          all_goals with_reducible rfl
        try simp only [Act.put, List.setIfInBounds_toArray, List.set_cons_zero, List.set_cons_succ]
        refine wpAnyH_take (i := 14) (oi := _) (v := ?v14) rfl (by kernel_rfl) (by kernel_rfl) (by kernel_rfl) (fun _ _ _ h => h) (Or.inl ⟨by rfl, ?hy14⟩) (by assumption) ?rest14
        case hy14 =>
          intro w hSw
          try dsimp only at hSw
          go_simp
          all_goals with_reducible rfl
        try simp only [Act.put, List.setIfInBounds_toArray, List.set_cons_zero, List.set_cons_succ]
        refine wpAnyH_take (i := 15) (oi := _) (v := ?v15) rfl (by kernel_rfl) (by kernel_rfl) (by kernel_rfl) (fun _ _ _ h => h) ?hy15 (by assumption) ?rest15
        case hy15 =>
          refine Or.inl (And.intro ?_ ?_)
          · kernel_rfl
          · intro w hSw
            try dsimp only at hSw
            go_simp
            all_goals with_reducible rfl
        try simp only [Act.put, List.setIfInBounds_toArray, List.set_cons_zero, List.set_cons_succ]
        refine wpAnyH_take (i := 16) (oi := _) (v := ?v16) rfl (by kernel_rfl) (by kernel_rfl) (by kernel_rfl) (fun _ _ _ h => h) ?hy16 (by assumption) ?rest16
        case hy16 =>
          refine Or.inl (And.intro ?_ ?_)
          · kernel_rfl
          · intro w hSw
            try dsimp only at hSw
            go_simp
            all_goals with_reducible rfl
        try simp only [Act.put, List.setIfInBounds_toArray, List.set_cons_zero, List.set_cons_succ]
        refine wpAnyH_take (i := 17) (oi := _) (v := ?v17) rfl (by kernel_rfl) (by kernel_rfl) (by kernel_rfl) (fun _ _ _ h => h) ?hy17 (by assumption) ?rest17
        case hy17 =>
          refine Or.inl (And.intro ?_ ?_)
          · kernel_rfl
          · intro w hSw
            try dsimp only at hSw
            go_simp
            all_goals with_reducible rfl
        try simp only [Act.put, List.setIfInBounds_toArray, List.set_cons_zero, List.set_cons_succ]
        refine wpAnyH_take (i := 18) (oi := _) (v := ?v18) rfl (by kernel_rfl) (by kernel_rfl) (by kernel_rfl) (fun _ _ _ h => h) ?hy18 (by assumption) ?rest18
        case hy18 =>
          refine Or.inl (And.intro ?_ ?_)
          · kernel_rfl
          · intro w hSw
            try dsimp only at hSw
            go_simp
            all_goals with_reducible rfl
        try simp only [Act.put, List.setIfInBounds_toArray, List.set_cons_zero, List.set_cons_succ]
        refine wpAnyH_ready (rs := [19]) (by kernel_rfl) (by simp) ?_
        refine AllReadyH.cons (o := _) rfl (fun K hK => ?_) AllReadyH.nil
        go_simp
        refine (HC.out _ S3.2.mx).mono ?_
        rintro e w4 ⟨gc, hgc, rfl, hcs, hb⟩
        have S4 := u_keep2 S3 hb
        clear hb hcs hgc
        go_wp2_with fail
        refine hK.out _ _ S4 (fun hHeld => ?_)
        clear hK K
        try simp only [Act.put, List.setIfInBounds_toArray, List.set_cons_zero, List.set_cons_succ]
        refine wpAnyH_take (i := 20) (oi := _) (v := ?v20) rfl (by kernel_rfl) (by kernel_rfl) (by kernel_rfl) (fun _ _ _ h => h) ?hy20 (by assumption) ?rest20
        case hy20 =>
          refine Or.inl (And.intro ?_ ?_)
          · kernel_rfl
          · intro w hSw
            try dsimp only at hSw
            go_simp
            all_goals with_reducible rfl
        try simp only [Act.put, List.setIfInBounds_toArray, List.set_cons_zero, List.set_cons_succ]
        refine wpAnyH_take (i := 21) (oi := _) (v := ?v21) rfl (by kernel_rfl) (by kernel_rfl) (by kernel_rfl) (fun _ _ _ h => h) ?hy21 (by assumption) ?rest21
        case hy21 =>
          refine Or.inl (And.intro ?_ ?_)
          · kernel_rfl
          · intro w hSw
            try dsimp only at hSw
            go_simp
            all_goals with_reducible rfl
        try simp only [Act.put, List.setIfInBounds_toArray, List.set_cons_zero, List.set_cons_succ]
        refine wpAnyH_take (i := 22) (oi := _) (v := ?v22) rfl (by kernel_rfl) (by kernel_rfl) (by kernel_rfl) (fun _ _ _ h => h) ?hy22 (by assumption) ?rest22
        case hy22 =>
          refine Or.inl (And.intro ?_ ?_)
          · kernel_rfl
          · intro w hSw
            try dsimp only at hSw
            go_simp
            all_goals with_reducible rfl
        try simp only [Act.put, List.setIfInBounds_toArray, List.set_cons_zero, List.set_cons_succ]
        refine wpAnyH_done (by kernel_rfl) ?_ _
        have I4 := Lib.hid S4.2
        have c4 := S4.1
        clear S3 S4 hHeld
        go_wp2_with fail
        go_roundg gg
        case measure => omega
        case rel => exact ⟨0 + 1, _, by omega, by go_num, rfl, Lib.hid (by rw [HA.out]; rfl), I4⟩
end Go.Proofs.YthafggbmomdkkaaDoor
