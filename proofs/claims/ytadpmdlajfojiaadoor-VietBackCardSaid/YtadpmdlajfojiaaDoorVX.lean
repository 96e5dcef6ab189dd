/- The walk of VietHolds. -/
import Derived.Test.YtadpmdlajfojiaaDoorVV
import Derived.Test.YtadpmdlajfojiaaDoorVG
import Derived.Deep.RegionHeldLaw
namespace Go.Proofs.YtadpmdlajfojiaaDoor
open Go.RowKit
/-- The loop's world: the state's block. -/
structure HInv (w X : World) (q : Nat) (h : Int) : Prop where
  bl : Below w.heap.size w X
  lo : w.heap.size ≤ q
  st : X.heap[q]? = some (.cells #[.int .i64 0, .int .i64 0, .int .u32 0, .int .i32 h] 25 (0, 0))
theorem HInv.below {w X Y : World} {q : Nat} {h : Int} (H : HInv w X q h) (hb : Below X.heap.size X Y) : HInv w Y q h :=
  ⟨below_then H.bl H.bl.size hb, H.lo, (hb.block _ (Array.getElem?_eq_some_iff.1 H.st).1).trans H.st⟩
theorem HInv.drew {w X : World} {q : Nat} {h : Int} (H : HInv w X q h) : HInv w X.drew q h := ⟨H.bl.drew, H.lo, H.st⟩
theorem HInv.alloc {w X : World} {q : Nat} {h : Int} (H : HInv w X q h) (o : Obj) : HInv w (X.alloc o) q h :=
  ⟨H.bl.alloc H.bl.size o, H.lo, (Below.heap_alloc X o _ (Array.getElem?_eq_some_iff.1 H.st).1).trans H.st⟩
theorem HInv.lt {w X : World} {q : Nat} {h : Int} (H : HInv w X q h) : q < X.heap.size := (Array.getElem?_eq_some_iff.1 H.st).1
theorem HInv.setRow {w X : World} {q p : Nat} {h : Int} (H : HInv w X q h) (hp : q < p) (cs : Array Value) : HInv w (X.setRow p cs) q h :=
  ⟨below_setRow H.bl (Nat.le_trans H.lo (Nat.le_of_lt hp)) cs, H.lo, (setRow_other X p q cs (by omega)).trans H.st⟩
theorem HInv.cells {w X : World} {q : Nat} {h : Int} (H : HInv w X q h) : X.cell? ⟨q, 0, none⟩ = some (.int .i64 0) ∧ X.cell? ⟨q, 1, none⟩ = some (.int .i64 0) ∧ X.cell? ⟨q, 2, none⟩ = some (.int .u32 0) ∧ X.cell? ⟨q, 3, none⟩ = some (.int .i32 h) := by
  simp only [cell_of_row X _ _ _ _ _ H.st]
  simp
theorem HInv.turn {w X : World} {q : Nat} {h : Int} (H : HInv w X q h) (h' : Int) : HInv w (X.setRow q #[.int .i64 0, .int .i64 0, .int .u32 0, .int .i32 h']) q h' :=
  ⟨below_setRow H.bl H.lo _, H.lo, setRow_heap X q _ _ _ _ H.st⟩
theorem gcells {X : World} {p : Nat} {a b c d e f g h i : Value} (H : X.heap[p]? = some (.cells #[a, b, c, d, e, f, g, h, i] 34 (0, 0))) :
    X.cell? ⟨p, 0, none⟩ = some a ∧ X.cell? ⟨p, 1, none⟩ = some b ∧ X.cell? ⟨p, 2, none⟩ = some c ∧ X.cell? ⟨p, 3, none⟩ = some d ∧ X.cell? ⟨p, 4, none⟩ = some e ∧ X.cell? ⟨p, 5, none⟩ = some f ∧ X.cell? ⟨p, 6, none⟩ = some g ∧ X.cell? ⟨p, 7, none⟩ = some h ∧ X.cell? ⟨p, 8, none⟩ = some i := by
  simp only [cell_of_row X _ _ _ _ _ H]
  simp
theorem drain_none (w : World) : Calls Tryd.prog 10 #[.agg #[.int .i64 0, .int .i64 0, .int .u32 0, .int .i32 0]] w fun e w' => e = .returned (.tuple #[.int .i32 0, .bool false]) ∧ Below w.heap.size w w' := drain_calls 0 0 0 0 w
theorem drain_some {z : Int} (hz : z ≠ 0) (hh : holdsB z = true) (w : World) : Calls Tryd.prog 10 #[.agg #[.int .i64 0, .int .i64 0, .int .u32 0, .int .i32 z]] w fun e w' => e = .returned (.tuple #[.int .i32 z, .bool true]) ∧ Below w.heap.size w w' := by
  have hd := drain_calls 0 0 0 z w
  rw [show drainL 0 0 0 z = z by simp [drainL, drainB, fitsB, hh, hz], show drainB 0 0 0 z = true by simp [drainB, fitsB, hh, hz]] at hd
  exact hd
theorem comp_moves : allT.all (fun t => decide (t.2.2 ≠ t.1)) = true := by kernel_rfl
theorem comp_ne {a b r : Int} (h : composeL a b = some r) : r ≠ a := by
  obtain ⟨k, hk⟩ := compose_some h
  exact of_decide_eq_true (List.all_eq_true.1 comp_moves _ (List.mem_iff_getElem?.2 ⟨k, hk⟩))
theorem step_cases {z y : Int} {g : Got} (hz : z = 0 ∨ holdsB z = true) (hg : getR 0 0 0 z (some y) = g) :
    g = ⟨10, 1, 0, 0, 0, 0, 0, 0, z⟩ ∨ (z = 0 ∧ ∃ u, u ≠ 0 ∧ holdsB u = true ∧ g = ⟨0, 1, 0, 0, 0, 0, 0, 0, u⟩) ∨ (z = 0 ∧ ∃ u, g = ⟨0, 1, 1, u, 0, 0, 0, 0, 0⟩) ∨
    (z ≠ 0 ∧ holdsB z = true ∧ ∃ r, r ≠ z ∧ g = ⟨0, 1, 1, r, 0, 0, 0, 0, 0⟩) ∨ (z ≠ 0 ∧ holdsB z = true ∧ ∃ u, u ≠ 0 ∧ holdsB u = true ∧ g = ⟨0, 1, 1, z, 0, 0, 0, 0, u⟩) ∨ (z ≠ 0 ∧ holdsB z = true ∧ ∃ u, g = ⟨0, 1, 2, z, u, 0, 0, 0, 0⟩) := by
  have hnz : ∀ u, holdsB u = true → u ≠ 0 := fun u hu h0 => by
    rw [h0, show holdsB 0 = false by kernel_rfl] at hu
    cases hu
  have hf : fitsB 0 0 0 z = true := by
    unfold fitsB
    simp [hz]
  unfold getR at hg
  rw [if_pos hf] at hg
  dsimp only at hg
  by_cases hs : scalarB y = 65533
  · rw [if_pos hs] at hg
    exact .inl hg.symm
  · rw [if_neg hs] at hg
    by_cases h0 : z = 0
    · rw [if_pos h0] at hg
      by_cases hh : holdsB (scalarB y) = true
      · rw [if_pos hh] at hg
        exact .inr (.inl ⟨h0, _, hnz _ hh, hh, hg.symm⟩)
      · rw [if_neg hh] at hg
        exact .inr (.inr (.inl ⟨h0, _, hg.symm⟩))
    · rw [if_neg h0] at hg
      have hz' := hz.resolve_left h0
      cases hc : composeL z (scalarB y) with
      | some r =>
        rw [hc] at hg
        exact .inr (.inr (.inr (.inl ⟨h0, hz', r, comp_ne hc, hg.symm⟩)))
      | none =>
        rw [hc] at hg
        dsimp only at hg
        by_cases hh : holdsB (scalarB y) = true
        · rw [if_pos hh] at hg
          exact .inr (.inr (.inr (.inr (.inl ⟨h0, hz', _, hnz _ hh, hh, hg.symm⟩))))
        · rw [if_neg hh] at hg
          exact .inr (.inr (.inr (.inr (.inr ⟨h0, hz', _, hg.symm⟩))))
set_option maxRecDepth 100000 in
set_option maxHeartbeats 3200000 in
theorem holds_walk (A : Option Addr) (n cap : Nat) (xs : List Int) (w : World) (hw : ListAt w) (hA : SlI .u8 w A n cap xs) (hcap : n ≤ cap) : Calls Tryd.prog 6 #[.slice A n cap] w fun e w' => e = .returned (.bool true) ∧ Below w.heap.size w w' := by
  have hW := works_calls
  have HW := Lib.hid hw
  have HK := Lib.hid hW
  have HA := Lib.hid hA
  clear hw hW hA
  go_enter Tryd.func6, Tryd.ntmps6
  go_wp2_with fail
  refine (HK.out _ HW.out).mono ?_
  rintro e w1 ⟨rfl, hb⟩
  have B1 := Lib.hid hb
  clear hb
  go_wp2_with fail
  obtain ⟨W, hW⟩ : ∃ W, w1.alloc (.cells #[.int .i64 0, .int .i64 0, .int .u32 0, .int .i32 0] 25) = W := ⟨_, rfl⟩
  obtain ⟨q, hq⟩ : ∃ q, w1.heap.size = q := ⟨_, rfl⟩
  have I0 := Lib.hid (show HInv w W q 0 from by
    subst hW
    subst hq
    exact ⟨B1.out.alloc B1.out.size _, B1.out.size, heap_alloc_new w1 _⟩)
  rw [hW, hq]
  clear hW B1
  go_loopw [4, 5, 6] (fun t n i wr => ∃ (k told : Nat) (m z : Int), k ≤ 300 ∧ told ≤ 2 * k ∧ (z = 0 ∨ holdsB z = true) ∧ t = .int .i64 (told : Int) ∧ n = .int .i64 m ∧ (m = if z = 0 then (told : Int) else (told : Int) + 1) ∧ i = .int .i64 (k : Int) ∧ HInv w wr q z) (fun _ _ i _ => 300 - (intOf i).toNat)
  case atStart => exact ⟨0, 0, 0, 0, by omega, by omega, .inl rfl, rfl, rfl, rfl, rfl, I0.out⟩
  case round =>
    obtain ⟨k, told, m, z, hk, ht, hh, rfl, rfl, hm, rfl, hI⟩ := hrel
    have HM := Lib.hid hm
    clear hm
    have HI := Lib.hid hI
    have hh' := Lib.hid hh
    clear hI hh
    by_cases hlt : k < n ∧ k < 300
    · obtain ⟨y, hy⟩ : ∃ y, xs.getD k 0 = y := ⟨_, rfl⟩
      obtain ⟨e1, e2, e3, e4⟩ := HA.out
      rcases e4 with ⟨_, h0, _⟩ | ⟨ad, rfl, e5⟩
      · omega
      have hyb : 0 ≤ y ∧ y ≤ 255 := by
        rw [← hy, List.getD_eq_getElem?_getD, List.getElem?_eq_getElem (show k < xs.length by omega)]
        exact wf_u8 (e3 _ (List.getElem_mem _))
      have HF := Lib.hid (show ∀ X, Below w.heap.size w X → First X (some (ad.add k)) 1 (some y) from fun X hb => .inr ⟨_, y, by omega, by omega, rfl, rfl, hyb.1, hyb.2, by rw [hb.cell (p := ad.add k) (block_lt_of_cell (e5 k hlt.1)), e5 k hlt.1, hy]⟩)
      have hg := fun A n cap w => get_any 0 0 0 z A n cap (some y) w
      obtain ⟨g, hgr⟩ : ∃ g, getR 0 0 0 z (some y) = g := ⟨_, rfl⟩
      rw [hgr] at hg
      unfold stV gotV gotC at hg
      have HG := Lib.hid hg
      have HR := Lib.hid hgr
      have hk1 : (0 : Int) ≤ k := by omega
      have hk2 : (k : Int) < n := by omega
      have hk3 : (k : Int) + 1 ≤ cap := by omega
      have hk6 : (0 : Int) ≤ (k : Int) + 1 := by omega
      have hk7 : ¬ cap = k := by omega
      have hk4 : (k : Int) < 300 := by omega
      have hk5 : IntKind.i64.wrap ((k : Int) + 1) = (k : Int) + 1 := by rw [IntKind.wrap_i64]; omega
      clear e1 e2 e3 e5 hg hgr hy hyb
      go_wp2_with fail
      have I1 := Lib.hid HI.out.drew
      have S1 := I1.out.cells
      refine wp_region_held_drew (S := (fun X => X.cell? ⟨q, 0, none⟩ = some (.int .i64 0) ∧ X.cell? ⟨q, 1, none⟩ = some (.int .i64 0) ∧ X.cell? ⟨q, 2, none⟩ = some (.int .u32 0) ∧ X.cell? ⟨q, 3, none⟩ = some (.int .i32 z))) (by kernel_rfl) S1 (fun hHeld => ?_)
      refine wpAnyH_take (i := 0) (oi := _) (v := ?v0) rfl (by kernel_rfl) (by kernel_rfl) (by kernel_rfl) (fun _ _ _ h => h) (Or.inl ⟨by rfl, ?hy0⟩) (by assumption) ?rest0
      case hy0 =>
        intro w hSw
        try dsimp only at hSw
        go_simp
        all_goals with_reducible rfl
      try simp only [Act.put, List.setIfInBounds_toArray, List.set_cons_zero, List.set_cons_succ]
      refine wpAnyH_take (i := 1) (oi := _) (v := ?v1) rfl (by kernel_rfl) (by kernel_rfl) (by kernel_rfl) (fun _ _ _ h => h) (Or.inl ⟨by rfl, ?hy1⟩) (by assumption) ?rest1
      case hy1 =>
        intro w hSw
        try dsimp only at hSw
        go_simp
        all_goals with_reducible rfl
      try simp only [Act.put, List.setIfInBounds_toArray, List.set_cons_zero, List.set_cons_succ]
      refine wpAnyH_take (i := 2) (oi := _) (v := ?v2) rfl (by kernel_rfl) (by kernel_rfl) (by kernel_rfl) (fun _ _ _ h => h) (Or.inl ⟨by rfl, ?hy2⟩) (by assumption) ?rest2
      case hy2 =>
        intro w hSw
        try dsimp only at hSw
        go_simp
        all_goals with_reducible rfl
      try simp only [Act.put, List.setIfInBounds_toArray, List.set_cons_zero, List.set_cons_succ]
      refine wpAnyH_take (i := 3) (oi := _) (v := ?v3) rfl (by kernel_rfl) (by kernel_rfl) (by kernel_rfl) (fun _ _ _ h => h) (Or.inl ⟨by rfl, ?hy3⟩) (by assumption) ?rest3
      case hy3 =>
        intro w hSw
        try dsimp only at hSw
        go_simp
        all_goals with_reducible rfl
      try simp only [Act.put, List.setIfInBounds_toArray, List.set_cons_zero, List.set_cons_succ]
      refine wpAnyH_take (i := 4) (oi := _) (v := ?v4) rfl (by kernel_rfl) (by kernel_rfl) (by kernel_rfl) (fun _ _ _ h => h) (Or.inl ⟨by rfl, ?hy4⟩) (by assumption) ?rest4
      case hy4 =>
        intro w hSw
        try dsimp only at hSw
        go_simp
        all_goals with_reducible rfl
      try simp only [Act.put, List.setIfInBounds_toArray, List.set_cons_zero, List.set_cons_succ]
      refine wpAnyH_take (i := 5) (oi := _) (v := ?v5) rfl (by kernel_rfl) (by kernel_rfl) (by kernel_rfl) (fun _ _ _ h => h) (Or.inl ⟨by rfl, ?hy5⟩) (by assumption) ?rest5
      case hy5 =>
        intro w hSw
        try dsimp only at hSw
        go_simp
        all_goals with_reducible rfl
      try simp only [Act.put, List.setIfInBounds_toArray, List.set_cons_zero, List.set_cons_succ]
      refine wpAnyH_ready (rs := [6, 7]) (by kernel_rfl) (by simp) ?_
      refine AllReadyH.cons (o := _) rfl (fun K hK => ?_) ?_
      · go_simp
        refine (HG.out _ _ _ _ (HW.out.below I1.out.bl) (HF.out _ I1.out.bl)).mono ?_
        rintro e w4 ⟨rfl, hb⟩
        have I2 := Lib.hid (I1.out.below hb)
        have S2 := I2.out.cells
        clear hb
        go_wp2_with fail
        refine hK.out _ _ S2 (fun hHeld => ?_)
        clear hK K
        try simp only [Act.put, List.setIfInBounds_toArray, List.set_cons_zero, List.set_cons_succ]
        refine wpAnyH_ready (rs := [7]) (by kernel_rfl) (by simp) ?_
        refine AllReadyH.cons (o := _) rfl (fun K hK => ?_) ?_
        · go_simp
          refine hK.out _ _ (I2.out.alloc _).cells (fun hHeld => ?_)
          clear hK K
          try simp only [Act.put, List.setIfInBounds_toArray, List.set_cons_zero, List.set_cons_succ]
          refine wpAnyH_ready (rs := [8]) (by kernel_rfl) (by simp) ?_
          refine AllReadyH.cons (o := _) rfl (fun K hK => ?_) ?_
          · go_simp
            refine hK.out _ _ (I2.out.alloc _).cells (fun hHeld => ?_)
            clear hK K
            try simp only [Act.put, List.setIfInBounds_toArray, List.set_cons_zero, List.set_cons_succ]
            refine wpAnyH_done (by kernel_rfl) ?_ _
            obtain ⟨p, hp⟩ : ∃ p, w4.heap.size = p := ⟨_, rfl⟩
            obtain ⟨X, hX⟩ : ∃ X, w4.alloc (.cells #[.int .i64 g.err, .int .i64 g.n, .int .i64 g.k, .int .i32 g.x, .int .i32 g.y, .int .i64 g.a, .int .i64 g.b, .int .u32 g.c, .int .i32 g.h] 34) = X := ⟨_, rfl⟩
            have J := Lib.hid (show HInv w X q z from hX ▸ I2.out.alloc _)
            have GP := Lib.hid (show X.heap[p]? = some (.cells #[.int .i64 g.err, .int .i64 g.n, .int .i64 g.k, .int .i32 g.x, .int .i32 g.y, .int .i64 g.a, .int .i64 g.b, .int .u32 g.c, .int .i32 g.h] 34 (0, 0)) from hX ▸ hp ▸ heap_alloc_new w4 _)
            rw [hX, hp]
            clear hX hp hHeld S2 I2 S1 I1 HI
            have J0 := J
            have G0 := GP
            clear J GP
            rcases step_cases hh'.out HR.out with rfl | ⟨rfl, u, hu0, hu1, rfl⟩ | ⟨rfl, u, rfl⟩ | ⟨hz, hzh, r, hrz, rfl⟩ | ⟨hz, hzh, u, hu0, hu1, rfl⟩ | ⟨hz, hzh, u, rfl⟩
            · obtain ⟨a0, b0, c0, d0⟩ := J0.out.cells
              obtain ⟨e0, f0, g0, h0, i0, j0, k0, l0, m0⟩ := gcells G0.out
              go_wp2_with fail
              go_roundw
              case rel => exact ⟨k + 1, told, m, z, by omega, by omega, hh'.out, by go_num, by go_num, HM.out, by go_num, J0.out⟩
              case measure => simp [intOf]; omega
            · have D1 := Lib.hid (drain_some hu0 hu1)
              have HH := Lib.hid hu1
              have H0 := Lib.hid hu0
              clear hu0 hu1
              have hwa : IntKind.i64.wrap ((told : Int) + 1) = (told : Int) + 1 := by rw [IntKind.wrap_i64]; omega
              have hwb : IntKind.i64.wrap ((told : Int) + 1 + 1) = (told : Int) + 1 + 1 := by rw [IntKind.wrap_i64]; omega
              have hwc : IntKind.i64.wrap ((told : Int) + 1 + 1 - 1) = (told : Int) + 1 := by rw [IntKind.wrap_i64]; omega
              have hwd : IntKind.i64.wrap ((told : Int) + 2) = (told : Int) + 1 + 1 := by rw [IntKind.wrap_i64]; omega
              have hwe : IntKind.i64.wrap (told : Int) = (told : Int) := by rw [IntKind.wrap_i64]; omega
              have hmm := HM.out
              rw [if_pos rfl] at hmm
              subst hmm
              obtain ⟨a0, b0, c0, d0⟩ := J0.out.cells
              obtain ⟨e0, f0, g0, h0, i0, j0, k0, l0, m0⟩ := gcells G0.out
              go_wp2_with fail
              refine (drain_none _).mono ?_
              rintro e w5 ⟨rfl, hb⟩
              have J1 := Lib.hid (J0.out.below hb)
              have G1 := Lib.hid ((hb.block _ (Array.getElem?_eq_some_iff.1 G0.out).1).trans G0.out)
              clear hb
              clear a0 b0 c0 d0 e0 f0 g0 h0 i0 j0 k0 l0 m0
              obtain ⟨a1, b1, c1, d1⟩ := J1.out.cells
              obtain ⟨e1, f1, g1, h1, i1, j1, k1, l1, m1⟩ := gcells G1.out
              go_wp2_with fail
              refine (D1.out _).mono ?_
              rintro e w6 ⟨rfl, hb⟩
              have J2 := Lib.hid (J1.out.below hb)
              have G2 := Lib.hid ((hb.block _ (Array.getElem?_eq_some_iff.1 G1.out).1).trans G1.out)
              clear hb
              clear a1 b1 c1 d1 e1 f1 g1 h1 i1 j1 k1 l1 m1
              obtain ⟨a2, b2, c2, d2⟩ := J2.out.cells
              obtain ⟨e2, f2, g2, h2, i2, j2, k2, l2, m2⟩ := gcells G2.out
              go_wp2_with (refine wpList_store_row rfl 25 (.tmp 3) _ rfl q #[.int .i64 0, .int .i64 0, .int .u32 0, .int .i32 u] rfl rfl 25 _ J2.out.st (by kernel_rfl) rfl (by simp [Value.oneCell']) ?_)
              go_roundw
              case rel => exact ⟨k + 1, told, (told : Int) + 1, u, by omega, by omega, .inr HH.out, by go_num, by go_num, by rw [if_neg H0.out], by go_num, J2.out.turn u⟩
              case measure => simp [intOf]; omega
            · have hwa : IntKind.i64.wrap ((told : Int) + 1) = (told : Int) + 1 := by rw [IntKind.wrap_i64]; omega
              have hwb : IntKind.i64.wrap ((told : Int) + 1 + 1) = (told : Int) + 1 + 1 := by rw [IntKind.wrap_i64]; omega
              have hwc : IntKind.i64.wrap ((told : Int) + 1 + 1 - 1) = (told : Int) + 1 := by rw [IntKind.wrap_i64]; omega
              have hwd : IntKind.i64.wrap ((told : Int) + 2) = (told : Int) + 1 + 1 := by rw [IntKind.wrap_i64]; omega
              have hwe : IntKind.i64.wrap (told : Int) = (told : Int) := by rw [IntKind.wrap_i64]; omega
              have hmm := HM.out
              rw [if_pos rfl] at hmm
              subst hmm
              obtain ⟨a0, b0, c0, d0⟩ := J0.out.cells
              obtain ⟨e0, f0, g0, h0, i0, j0, k0, l0, m0⟩ := gcells G0.out
              go_wp2_with fail
              refine (drain_none _).mono ?_
              rintro e w5 ⟨rfl, hb⟩
              have J1 := Lib.hid (J0.out.below hb)
              have G1 := Lib.hid ((hb.block _ (Array.getElem?_eq_some_iff.1 G0.out).1).trans G0.out)
              clear hb
              clear a0 b0 c0 d0 e0 f0 g0 h0 i0 j0 k0 l0 m0
              obtain ⟨a1, b1, c1, d1⟩ := J1.out.cells
              obtain ⟨e1, f1, g1, h1, i1, j1, k1, l1, m1⟩ := gcells G1.out
              go_wp2_with fail
              refine (drain_none _).mono ?_
              rintro e w6 ⟨rfl, hb⟩
              have J2 := Lib.hid (J1.out.below hb)
              have G2 := Lib.hid ((hb.block _ (Array.getElem?_eq_some_iff.1 G1.out).1).trans G1.out)
              clear hb
              clear a1 b1 c1 d1 e1 f1 g1 h1 i1 j1 k1 l1 m1
              obtain ⟨a2, b2, c2, d2⟩ := J2.out.cells
              obtain ⟨e2, f2, g2, h2, i2, j2, k2, l2, m2⟩ := gcells G2.out
              go_wp2_with (refine wpList_store_row rfl 25 (.tmp 3) _ rfl q #[.int .i64 0, .int .i64 0, .int .u32 0, .int .i32 0] rfl rfl 25 _ J2.out.st (by kernel_rfl) rfl (by simp [Value.oneCell']) ?_)
              go_roundw
              case rel => exact ⟨k + 1, told + 1, (told : Int) + 1, 0, by omega, by omega, .inl rfl, by go_num, by go_num, by simp, by go_num, J2.out.turn 0⟩
              case measure => simp [intOf]; omega
            · have hwa : IntKind.i64.wrap ((told : Int) + 1) = (told : Int) + 1 := by rw [IntKind.wrap_i64]; omega
              have hwb : IntKind.i64.wrap ((told : Int) + 1 + 1) = (told : Int) + 1 + 1 := by rw [IntKind.wrap_i64]; omega
              have hwc : IntKind.i64.wrap ((told : Int) + 1 + 1 - 1) = (told : Int) + 1 := by rw [IntKind.wrap_i64]; omega
              have hwd : IntKind.i64.wrap ((told : Int) + 2) = (told : Int) + 1 + 1 := by rw [IntKind.wrap_i64]; omega
              have hwe : IntKind.i64.wrap (told : Int) = (told : Int) := by rw [IntKind.wrap_i64]; omega
              have hmm := HM.out
              rw [if_neg hz] at hmm
              subst hmm
              have D1 := Lib.hid (drain_some hz hzh)
              have HZ := Lib.hid hz
              have HZH := Lib.hid hzh
              clear hz hzh
              obtain ⟨a0, b0, c0, d0⟩ := J0.out.cells
              obtain ⟨e0, f0, g0, h0, i0, j0, k0, l0, m0⟩ := gcells G0.out
              go_wp2_with fail
              refine (D1.out _).mono ?_
              rintro e w5 ⟨rfl, hb⟩
              have J1 := Lib.hid (J0.out.below hb)
              have G1 := Lib.hid ((hb.block _ (Array.getElem?_eq_some_iff.1 G0.out).1).trans G0.out)
              clear hb
              clear a0 b0 c0 d0 e0 f0 g0 h0 i0 j0 k0 l0 m0
              obtain ⟨a1, b1, c1, d1⟩ := J1.out.cells
              obtain ⟨e1, f1, g1, h1, i1, j1, k1, l1, m1⟩ := gcells G1.out
              go_wp2_with fail
              refine (drain_none _).mono ?_
              rintro e w6 ⟨rfl, hb⟩
              have J2 := Lib.hid (J1.out.below hb)
              have G2 := Lib.hid ((hb.block _ (Array.getElem?_eq_some_iff.1 G1.out).1).trans G1.out)
              clear hb
              clear a1 b1 c1 d1 e1 f1 g1 h1 i1 j1 k1 l1 m1
              obtain ⟨a2, b2, c2, d2⟩ := J2.out.cells
              obtain ⟨e2, f2, g2, h2, i2, j2, k2, l2, m2⟩ := gcells G2.out
              go_wp2_with (refine wpList_store_row rfl 25 (.tmp 3) _ rfl q #[.int .i64 0, .int .i64 0, .int .u32 0, .int .i32 0] rfl rfl 25 _ J2.out.st (by kernel_rfl) rfl (by simp [Value.oneCell']) ?_)
              go_roundw
              case rel => exact ⟨k + 1, told + 1, (told : Int) + 1, 0, by omega, by omega, .inl rfl, by go_num, by go_num, by simp, by go_num, J2.out.turn 0⟩
              case measure => simp [intOf]; omega
            · have hwa : IntKind.i64.wrap ((told : Int) + 1) = (told : Int) + 1 := by rw [IntKind.wrap_i64]; omega
              have hwb : IntKind.i64.wrap ((told : Int) + 1 + 1) = (told : Int) + 1 + 1 := by rw [IntKind.wrap_i64]; omega
              have hwc : IntKind.i64.wrap ((told : Int) + 1 + 1 - 1) = (told : Int) + 1 := by rw [IntKind.wrap_i64]; omega
              have hwd : IntKind.i64.wrap ((told : Int) + 2) = (told : Int) + 1 + 1 := by rw [IntKind.wrap_i64]; omega
              have hwe : IntKind.i64.wrap (told : Int) = (told : Int) := by rw [IntKind.wrap_i64]; omega
              have hmm := HM.out
              rw [if_neg hz] at hmm
              subst hmm
              have D1 := Lib.hid (drain_some hz hzh)
              have HZ := Lib.hid hz
              have HZH := Lib.hid hzh
              clear hz hzh
              have D2 := Lib.hid (drain_some hu0 hu1)
              have HH := Lib.hid hu1
              have H0 := Lib.hid hu0
              clear hu0 hu1
              obtain ⟨a0, b0, c0, d0⟩ := J0.out.cells
              obtain ⟨e0, f0, g0, h0, i0, j0, k0, l0, m0⟩ := gcells G0.out
              go_wp2_with fail
              refine (D1.out _).mono ?_
              rintro e w5 ⟨rfl, hb⟩
              have J1 := Lib.hid (J0.out.below hb)
              have G1 := Lib.hid ((hb.block _ (Array.getElem?_eq_some_iff.1 G0.out).1).trans G0.out)
              clear hb
              clear a0 b0 c0 d0 e0 f0 g0 h0 i0 j0 k0 l0 m0
              obtain ⟨a1, b1, c1, d1⟩ := J1.out.cells
              obtain ⟨e1, f1, g1, h1, i1, j1, k1, l1, m1⟩ := gcells G1.out
              go_wp2_with fail
              refine (D2.out _).mono ?_
              rintro e w6 ⟨rfl, hb⟩
              have J2 := Lib.hid (J1.out.below hb)
              have G2 := Lib.hid ((hb.block _ (Array.getElem?_eq_some_iff.1 G1.out).1).trans G1.out)
              clear hb
              clear a1 b1 c1 d1 e1 f1 g1 h1 i1 j1 k1 l1 m1
              obtain ⟨a2, b2, c2, d2⟩ := J2.out.cells
              obtain ⟨e2, f2, g2, h2, i2, j2, k2, l2, m2⟩ := gcells G2.out
              go_wp2_with (refine wpList_store_row rfl 25 (.tmp 3) _ rfl q #[.int .i64 0, .int .i64 0, .int .u32 0, .int .i32 u] rfl rfl 25 _ J2.out.st (by kernel_rfl) rfl (by simp [Value.oneCell']) ?_)
              go_roundw
              case rel => exact ⟨k + 1, told + 1, (told : Int) + 1 + 1, u, by omega, by omega, .inr HH.out, by go_num, by go_num, by rw [if_neg H0.out]; simp, by go_num, J2.out.turn u⟩
              case measure => simp [intOf]; omega
            · have hwa : IntKind.i64.wrap ((told : Int) + 1) = (told : Int) + 1 := by rw [IntKind.wrap_i64]; omega
              have hwb : IntKind.i64.wrap ((told : Int) + 1 + 1) = (told : Int) + 1 + 1 := by rw [IntKind.wrap_i64]; omega
              have hwc : IntKind.i64.wrap ((told : Int) + 1 + 1 - 1) = (told : Int) + 1 := by rw [IntKind.wrap_i64]; omega
              have hwd : IntKind.i64.wrap ((told : Int) + 2) = (told : Int) + 1 + 1 := by rw [IntKind.wrap_i64]; omega
              have hwe : IntKind.i64.wrap (told : Int) = (told : Int) := by rw [IntKind.wrap_i64]; omega
              have hmm := HM.out
              rw [if_neg hz] at hmm
              subst hmm
              have D1 := Lib.hid (drain_some hz hzh)
              have HZ := Lib.hid hz
              have HZH := Lib.hid hzh
              clear hz hzh
              obtain ⟨a0, b0, c0, d0⟩ := J0.out.cells
              obtain ⟨e0, f0, g0, h0, i0, j0, k0, l0, m0⟩ := gcells G0.out
              go_wp2_with fail
              refine (D1.out _).mono ?_
              rintro e w5 ⟨rfl, hb⟩
              have J1 := Lib.hid (J0.out.below hb)
              have G1 := Lib.hid ((hb.block _ (Array.getElem?_eq_some_iff.1 G0.out).1).trans G0.out)
              clear hb
              clear a0 b0 c0 d0 e0 f0 g0 h0 i0 j0 k0 l0 m0
              obtain ⟨a1, b1, c1, d1⟩ := J1.out.cells
              obtain ⟨e1, f1, g1, h1, i1, j1, k1, l1, m1⟩ := gcells G1.out
              go_wp2_with fail
              refine (drain_none _).mono ?_
              rintro e w6 ⟨rfl, hb⟩
              have J2 := Lib.hid (J1.out.below hb)
              have G2 := Lib.hid ((hb.block _ (Array.getElem?_eq_some_iff.1 G1.out).1).trans G1.out)
              clear hb
              clear a1 b1 c1 d1 e1 f1 g1 h1 i1 j1 k1 l1 m1
              obtain ⟨a2, b2, c2, d2⟩ := J2.out.cells
              obtain ⟨e2, f2, g2, h2, i2, j2, k2, l2, m2⟩ := gcells G2.out
              go_wp2_with (refine wpList_store_row rfl 25 (.tmp 3) _ rfl q #[.int .i64 0, .int .i64 0, .int .u32 0, .int .i32 0] rfl rfl 25 _ J2.out.st (by kernel_rfl) rfl (by simp [Value.oneCell']) ?_)
              go_roundw
              case rel => exact ⟨k + 1, told + 2, (told : Int) + 1 + 1, 0, by omega, by omega, .inl rfl, by go_num, by go_num, by simp; omega, by go_num, J2.out.turn 0⟩
              case measure => simp [intOf]; omega
          exact AllReadyH.nil
        exact AllReadyH.nil
      refine AllReadyH.cons (o := _) rfl (fun K hK => ?_) ?_
      · go_simp
        refine hK.out _ _ (I1.out.alloc _).cells (fun hHeld => ?_)
        clear hK K
        try simp only [Act.put, List.setIfInBounds_toArray, List.set_cons_zero, List.set_cons_succ]
        refine wpAnyH_ready (rs := [6]) (by kernel_rfl) (by simp) ?_
        refine AllReadyH.cons (o := _) rfl (fun K hK => ?_) ?_
        · go_simp
          refine (HG.out _ _ _ _ (HW.out.below (I1.out.alloc _).bl) (HF.out _ (I1.out.alloc _).bl)).mono ?_
          rintro e w4 ⟨rfl, hb⟩
          have I2 := Lib.hid ((I1.out.alloc _).below hb)
          have S2 := I2.out.cells
          have H8 := (hb.block _ (by simp)).trans (heap_alloc_new _ _)
          clear hb
          go_wp2_with fail
          refine hK.out _ _ S2 (fun hHeld => ?_)
          clear hK K
          try simp only [Act.put, List.setIfInBounds_toArray, List.set_cons_zero, List.set_cons_succ]
          refine wpAnyH_ready (rs := [8]) (by kernel_rfl) (by simp) ?_
          refine AllReadyH.cons (o := _) rfl (fun K hK => ?_) ?_
          · rw [if_pos (by rfl)]
            refine wp_store_row 34 _ _ rfl _ #[.int .i64 g.err, .int .i64 g.n, .int .i64 g.k, .int .i32 g.x, .int .i32 g.y, .int .i64 g.a, .int .i64 g.b, .int .u32 g.c, .int .i32 g.h] rfl rfl 34 _ H8 (by kernel_rfl) rfl (by simp [Value.oneCell']) ?_
            try simp only [List.getElem_toArray, List.getElem_cons_succ, List.getElem_cons_zero, Act.put]
            refine hK.out _ _ (I2.out.setRow (by have := I1.out.lt; exact this) _).cells (fun hHeld => ?_)
            clear hK K
            try simp only [Act.put, List.setIfInBounds_toArray, List.set_cons_zero, List.set_cons_succ]
            refine wpAnyH_done (by kernel_rfl) ?_ _
            have J0 : HInv w (w4.setRow wr.heap.size #[.int .i64 g.err, .int .i64 g.n, .int .i64 g.k, .int .i32 g.x, .int .i32 g.y, .int .i64 g.a, .int .i64 g.b, .int .u32 g.c, .int .i32 g.h]) q z := I2.out.setRow (p := wr.heap.size) (by have := I1.out.lt; exact this) #[.int .i64 g.err, .int .i64 g.n, .int .i64 g.k, .int .i32 g.x, .int .i32 g.y, .int .i64 g.a, .int .i64 g.b, .int .u32 g.c, .int .i32 g.h]
            have G0 : (w4.setRow wr.heap.size #[.int .i64 g.err, .int .i64 g.n, .int .i64 g.k, .int .i32 g.x, .int .i32 g.y, .int .i64 g.a, .int .i64 g.b, .int .u32 g.c, .int .i32 g.h]).heap[wr.heap.size]? = some (.cells #[.int .i64 g.err, .int .i64 g.n, .int .i64 g.k, .int .i32 g.x, .int .i32 g.y, .int .i64 g.a, .int .i64 g.b, .int .u32 g.c, .int .i32 g.h] 34 (0, 0)) := setRow_heap _ _ _ #[.int .i64 g.err, .int .i64 g.n, .int .i64 g.k, .int .i32 g.x, .int .i32 g.y, .int .i64 g.a, .int .i64 g.b, .int .u32 g.c, .int .i32 g.h] _ _ H8
            obtain ⟨X, hX⟩ : ∃ X, w4.setRow wr.heap.size #[.int .i64 g.err, .int .i64 g.n, .int .i64 g.k, .int .i32 g.x, .int .i32 g.y, .int .i64 g.a, .int .i64 g.b, .int .u32 g.c, .int .i32 g.h] = X := ⟨_, rfl⟩
            rw [hX] at J0 G0 ⊢
            obtain ⟨p, hp⟩ : ∃ p, wr.heap.size = p := ⟨_, rfl⟩
            rw [hp] at G0 ⊢
            have J := Lib.hid J0
            have GP := Lib.hid G0
            clear J0 G0 H8 hX hp hHeld S2 I2
            have J0 := J
            have G0 := GP
            clear J GP
            rcases step_cases hh'.out HR.out with rfl | ⟨rfl, u, hu0, hu1, rfl⟩ | ⟨rfl, u, rfl⟩ | ⟨hz, hzh, r, hrz, rfl⟩ | ⟨hz, hzh, u, hu0, hu1, rfl⟩ | ⟨hz, hzh, u, rfl⟩
            · obtain ⟨a0, b0, c0, d0⟩ := J0.out.cells
              obtain ⟨e0, f0, g0, h0, i0, j0, k0, l0, m0⟩ := gcells G0.out
              go_wp2_with fail
              go_roundw
              case rel => exact ⟨k + 1, told, m, z, by omega, by omega, hh'.out, by go_num, by go_num, HM.out, by go_num, J0.out⟩
              case measure => simp [intOf]; omega
            · have D1 := Lib.hid (drain_some hu0 hu1)
              have HH := Lib.hid hu1
              have H0 := Lib.hid hu0
              clear hu0 hu1
              have hwa : IntKind.i64.wrap ((told : Int) + 1) = (told : Int) + 1 := by rw [IntKind.wrap_i64]; omega
              have hwb : IntKind.i64.wrap ((told : Int) + 1 + 1) = (told : Int) + 1 + 1 := by rw [IntKind.wrap_i64]; omega
              have hwc : IntKind.i64.wrap ((told : Int) + 1 + 1 - 1) = (told : Int) + 1 := by rw [IntKind.wrap_i64]; omega
              have hwd : IntKind.i64.wrap ((told : Int) + 2) = (told : Int) + 1 + 1 := by rw [IntKind.wrap_i64]; omega
              have hwe : IntKind.i64.wrap (told : Int) = (told : Int) := by rw [IntKind.wrap_i64]; omega
              have hmm := HM.out
              rw [if_pos rfl] at hmm
              subst hmm
              obtain ⟨a0, b0, c0, d0⟩ := J0.out.cells
              obtain ⟨e0, f0, g0, h0, i0, j0, k0, l0, m0⟩ := gcells G0.out
              go_wp2_with fail
              refine (drain_none _).mono ?_
              rintro e w5 ⟨rfl, hb⟩
              have J1 := Lib.hid (J0.out.below hb)
              have G1 := Lib.hid ((hb.block _ (Array.getElem?_eq_some_iff.1 G0.out).1).trans G0.out)
              clear hb
              clear a0 b0 c0 d0 e0 f0 g0 h0 i0 j0 k0 l0 m0
              obtain ⟨a1, b1, c1, d1⟩ := J1.out.cells
              obtain ⟨e1, f1, g1, h1, i1, j1, k1, l1, m1⟩ := gcells G1.out
              go_wp2_with fail
              refine (D1.out _).mono ?_
              rintro e w6 ⟨rfl, hb⟩
              have J2 := Lib.hid (J1.out.below hb)
              have G2 := Lib.hid ((hb.block _ (Array.getElem?_eq_some_iff.1 G1.out).1).trans G1.out)
              clear hb
              clear a1 b1 c1 d1 e1 f1 g1 h1 i1 j1 k1 l1 m1
              obtain ⟨a2, b2, c2, d2⟩ := J2.out.cells
              obtain ⟨e2, f2, g2, h2, i2, j2, k2, l2, m2⟩ := gcells G2.out
              go_wp2_with (refine wpList_store_row rfl 25 (.tmp 3) _ rfl q #[.int .i64 0, .int .i64 0, .int .u32 0, .int .i32 u] rfl rfl 25 _ J2.out.st (by kernel_rfl) rfl (by simp [Value.oneCell']) ?_)
              go_roundw
              case rel => exact ⟨k + 1, told, (told : Int) + 1, u, by omega, by omega, .inr HH.out, by go_num, by go_num, by rw [if_neg H0.out], by go_num, J2.out.turn u⟩
              case measure => simp [intOf]; omega
            · have hwa : IntKind.i64.wrap ((told : Int) + 1) = (told : Int) + 1 := by rw [IntKind.wrap_i64]; omega
              have hwb : IntKind.i64.wrap ((told : Int) + 1 + 1) = (told : Int) + 1 + 1 := by rw [IntKind.wrap_i64]; omega
              have hwc : IntKind.i64.wrap ((told : Int) + 1 + 1 - 1) = (told : Int) + 1 := by rw [IntKind.wrap_i64]; omega
              have hwd : IntKind.i64.wrap ((told : Int) + 2) = (told : Int) + 1 + 1 := by rw [IntKind.wrap_i64]; omega
              have hwe : IntKind.i64.wrap (told : Int) = (told : Int) := by rw [IntKind.wrap_i64]; omega
              have hmm := HM.out
              rw [if_pos rfl] at hmm
              subst hmm
              obtain ⟨a0, b0, c0, d0⟩ := J0.out.cells
              obtain ⟨e0, f0, g0, h0, i0, j0, k0, l0, m0⟩ := gcells G0.out
              go_wp2_with fail
              refine (drain_none _).mono ?_
              rintro e w5 ⟨rfl, hb⟩
              have J1 := Lib.hid (J0.out.below hb)
              have G1 := Lib.hid ((hb.block _ (Array.getElem?_eq_some_iff.1 G0.out).1).trans G0.out)
              clear hb
              clear a0 b0 c0 d0 e0 f0 g0 h0 i0 j0 k0 l0 m0
              obtain ⟨a1, b1, c1, d1⟩ := J1.out.cells
              obtain ⟨e1, f1, g1, h1, i1, j1, k1, l1, m1⟩ := gcells G1.out
              go_wp2_with fail
              refine (drain_none _).mono ?_
              rintro e w6 ⟨rfl, hb⟩
              have J2 := Lib.hid (J1.out.below hb)
              have G2 := Lib.hid ((hb.block _ (Array.getElem?_eq_some_iff.1 G1.out).1).trans G1.out)
              clear hb
              clear a1 b1 c1 d1 e1 f1 g1 h1 i1 j1 k1 l1 m1
              obtain ⟨a2, b2, c2, d2⟩ := J2.out.cells
              obtain ⟨e2, f2, g2, h2, i2, j2, k2, l2, m2⟩ := gcells G2.out
              go_wp2_with (refine wpList_store_row rfl 25 (.tmp 3) _ rfl q #[.int .i64 0, .int .i64 0, .int .u32 0, .int .i32 0] rfl rfl 25 _ J2.out.st (by kernel_rfl) rfl (by simp [Value.oneCell']) ?_)
              go_roundw
              case rel => exact ⟨k + 1, told + 1, (told : Int) + 1, 0, by omega, by omega, .inl rfl, by go_num, by go_num, by simp, by go_num, J2.out.turn 0⟩
              case measure => simp [intOf]; omega
            · have hwa : IntKind.i64.wrap ((told : Int) + 1) = (told : Int) + 1 := by rw [IntKind.wrap_i64]; omega
              have hwb : IntKind.i64.wrap ((told : Int) + 1 + 1) = (told : Int) + 1 + 1 := by rw [IntKind.wrap_i64]; omega
              have hwc : IntKind.i64.wrap ((told : Int) + 1 + 1 - 1) = (told : Int) + 1 := by rw [IntKind.wrap_i64]; omega
              have hwd : IntKind.i64.wrap ((told : Int) + 2) = (told : Int) + 1 + 1 := by rw [IntKind.wrap_i64]; omega
              have hwe : IntKind.i64.wrap (told : Int) = (told : Int) := by rw [IntKind.wrap_i64]; omega
              have hmm := HM.out
              rw [if_neg hz] at hmm
              subst hmm
              have D1 := Lib.hid (drain_some hz hzh)
              have HZ := Lib.hid hz
              have HZH := Lib.hid hzh
              clear hz hzh
              obtain ⟨a0, b0, c0, d0⟩ := J0.out.cells
              obtain ⟨e0, f0, g0, h0, i0, j0, k0, l0, m0⟩ := gcells G0.out
              go_wp2_with fail
              refine (D1.out _).mono ?_
              rintro e w5 ⟨rfl, hb⟩
              have J1 := Lib.hid (J0.out.below hb)
              have G1 := Lib.hid ((hb.block _ (Array.getElem?_eq_some_iff.1 G0.out).1).trans G0.out)
              clear hb
              clear a0 b0 c0 d0 e0 f0 g0 h0 i0 j0 k0 l0 m0
              obtain ⟨a1, b1, c1, d1⟩ := J1.out.cells
              obtain ⟨e1, f1, g1, h1, i1, j1, k1, l1, m1⟩ := gcells G1.out
              go_wp2_with fail
              refine (drain_none _).mono ?_
              rintro e w6 ⟨rfl, hb⟩
              have J2 := Lib.hid (J1.out.below hb)
              have G2 := Lib.hid ((hb.block _ (Array.getElem?_eq_some_iff.1 G1.out).1).trans G1.out)
              clear hb
              clear a1 b1 c1 d1 e1 f1 g1 h1 i1 j1 k1 l1 m1
              obtain ⟨a2, b2, c2, d2⟩ := J2.out.cells
              obtain ⟨e2, f2, g2, h2, i2, j2, k2, l2, m2⟩ := gcells G2.out
              go_wp2_with (refine wpList_store_row rfl 25 (.tmp 3) _ rfl q #[.int .i64 0, .int .i64 0, .int .u32 0, .int .i32 0] rfl rfl 25 _ J2.out.st (by kernel_rfl) rfl (by simp [Value.oneCell']) ?_)
              go_roundw
              case rel => exact ⟨k + 1, told + 1, (told : Int) + 1, 0, by omega, by omega, .inl rfl, by go_num, by go_num, by simp, by go_num, J2.out.turn 0⟩
              case measure => simp [intOf]; omega
            · have hwa : IntKind.i64.wrap ((told : Int) + 1) = (told : Int) + 1 := by rw [IntKind.wrap_i64]; omega
              have hwb : IntKind.i64.wrap ((told : Int) + 1 + 1) = (told : Int) + 1 + 1 := by rw [IntKind.wrap_i64]; omega
              have hwc : IntKind.i64.wrap ((told : Int) + 1 + 1 - 1) = (told : Int) + 1 := by rw [IntKind.wrap_i64]; omega
              have hwd : IntKind.i64.wrap ((told : Int) + 2) = (told : Int) + 1 + 1 := by rw [IntKind.wrap_i64]; omega
              have hwe : IntKind.i64.wrap (told : Int) = (told : Int) := by rw [IntKind.wrap_i64]; omega
              have hmm := HM.out
              rw [if_neg hz] at hmm
              subst hmm
              have D1 := Lib.hid (drain_some hz hzh)
              have HZ := Lib.hid hz
              have HZH := Lib.hid hzh
              clear hz hzh
              have D2 := Lib.hid (drain_some hu0 hu1)
              have HH := Lib.hid hu1
              have H0 := Lib.hid hu0
              clear hu0 hu1
              obtain ⟨a0, b0, c0, d0⟩ := J0.out.cells
              obtain ⟨e0, f0, g0, h0, i0, j0, k0, l0, m0⟩ := gcells G0.out
              go_wp2_with fail
              refine (D1.out _).mono ?_
              rintro e w5 ⟨rfl, hb⟩
              have J1 := Lib.hid (J0.out.below hb)
              have G1 := Lib.hid ((hb.block _ (Array.getElem?_eq_some_iff.1 G0.out).1).trans G0.out)
              clear hb
              clear a0 b0 c0 d0 e0 f0 g0 h0 i0 j0 k0 l0 m0
              obtain ⟨a1, b1, c1, d1⟩ := J1.out.cells
              obtain ⟨e1, f1, g1, h1, i1, j1, k1, l1, m1⟩ := gcells G1.out
              go_wp2_with fail
              refine (D2.out _).mono ?_
              rintro e w6 ⟨rfl, hb⟩
              have J2 := Lib.hid (J1.out.below hb)
              have G2 := Lib.hid ((hb.block _ (Array.getElem?_eq_some_iff.1 G1.out).1).trans G1.out)
              clear hb
              clear a1 b1 c1 d1 e1 f1 g1 h1 i1 j1 k1 l1 m1
              obtain ⟨a2, b2, c2, d2⟩ := J2.out.cells
              obtain ⟨e2, f2, g2, h2, i2, j2, k2, l2, m2⟩ := gcells G2.out
              go_wp2_with (refine wpList_store_row rfl 25 (.tmp 3) _ rfl q #[.int .i64 0, .int .i64 0, .int .u32 0, .int .i32 u] rfl rfl 25 _ J2.out.st (by kernel_rfl) rfl (by simp [Value.oneCell']) ?_)
              go_roundw
              case rel => exact ⟨k + 1, told + 1, (told : Int) + 1 + 1, u, by omega, by omega, .inr HH.out, by go_num, by go_num, by rw [if_neg H0.out]; simp, by go_num, J2.out.turn u⟩
              case measure => simp [intOf]; omega
            · have hwa : IntKind.i64.wrap ((told : Int) + 1) = (told : Int) + 1 := by rw [IntKind.wrap_i64]; omega
              have hwb : IntKind.i64.wrap ((told : Int) + 1 + 1) = (told : Int) + 1 + 1 := by rw [IntKind.wrap_i64]; omega
              have hwc : IntKind.i64.wrap ((told : Int) + 1 + 1 - 1) = (told : Int) + 1 := by rw [IntKind.wrap_i64]; omega
              have hwd : IntKind.i64.wrap ((told : Int) + 2) = (told : Int) + 1 + 1 := by rw [IntKind.wrap_i64]; omega
              have hwe : IntKind.i64.wrap (told : Int) = (told : Int) := by rw [IntKind.wrap_i64]; omega
              have hmm := HM.out
              rw [if_neg hz] at hmm
              subst hmm
              have D1 := Lib.hid (drain_some hz hzh)
              have HZ := Lib.hid hz
              have HZH := Lib.hid hzh
              clear hz hzh
              obtain ⟨a0, b0, c0, d0⟩ := J0.out.cells
              obtain ⟨e0, f0, g0, h0, i0, j0, k0, l0, m0⟩ := gcells G0.out
              go_wp2_with fail
              refine (D1.out _).mono ?_
              rintro e w5 ⟨rfl, hb⟩
              have J1 := Lib.hid (J0.out.below hb)
              have G1 := Lib.hid ((hb.block _ (Array.getElem?_eq_some_iff.1 G0.out).1).trans G0.out)
              clear hb
              clear a0 b0 c0 d0 e0 f0 g0 h0 i0 j0 k0 l0 m0
              obtain ⟨a1, b1, c1, d1⟩ := J1.out.cells
              obtain ⟨e1, f1, g1, h1, i1, j1, k1, l1, m1⟩ := gcells G1.out
              go_wp2_with fail
              refine (drain_none _).mono ?_
              rintro e w6 ⟨rfl, hb⟩
              have J2 := Lib.hid (J1.out.below hb)
              have G2 := Lib.hid ((hb.block _ (Array.getElem?_eq_some_iff.1 G1.out).1).trans G1.out)
              clear hb
              clear a1 b1 c1 d1 e1 f1 g1 h1 i1 j1 k1 l1 m1
              obtain ⟨a2, b2, c2, d2⟩ := J2.out.cells
              obtain ⟨e2, f2, g2, h2, i2, j2, k2, l2, m2⟩ := gcells G2.out
              go_wp2_with (refine wpList_store_row rfl 25 (.tmp 3) _ rfl q #[.int .i64 0, .int .i64 0, .int .u32 0, .int .i32 0] rfl rfl 25 _ J2.out.st (by kernel_rfl) rfl (by simp [Value.oneCell']) ?_)
              go_roundw
              case rel => exact ⟨k + 1, told + 2, (told : Int) + 1 + 1, 0, by omega, by omega, .inl rfl, by go_num, by go_num, by simp; omega, by go_num, J2.out.turn 0⟩
              case measure => simp [intOf]; omega
          exact AllReadyH.nil
        exact AllReadyH.nil
      exact AllReadyH.nil
    · have hlt' : ¬ ((k : Int) < n ∧ (k : Int) < 300) := by omega
      by_cases hkn : (k : Int) < n
      · have hk3 : ¬ (k : Int) < 300 := by omega
        go_wp2_with fail
        go_ret
        exact ⟨rfl, HI.out.bl⟩
      · go_wp2_with fail
        go_ret
        exact ⟨rfl, HI.out.bl⟩
end Go.Proofs.YtadpmdlajfojiaaDoor
