/- The walk of VietGets. -/
import Derived.Test.YtadpmdlajfojiaaDoorVR
import Derived.Laws.AppendOwnNone
import Derived.Laws.AppendOwn
import Derived.Maps.AppendAt
import Derived.Deep.RegionHeld3
namespace Go.Proofs.YtadpmdlajfojiaaDoor
open Go.RowKit
/-- A slice of integers that came in. -/
def SlI (k : IntKind) (w : World) (A : Option Addr) (n cap : Nat) (xs : List Int) : Prop :=
  xs.length = n ∧ n ≤ 140737488351232 ∧ (∀ x ∈ xs, (Lit.int k x).wf = true) ∧ ((A = none ∧ n = 0 ∧ cap = 0) ∨ ∃ ad, A = some ad ∧ ∀ j, j < n → w.cell? (ad.add j) = some (.int k (xs.getD j 0)))
theorem SlI.below {k : IntKind} {w w' : World} {A : Option Addr} {n cap : Nat} {xs : List Int} (h : SlI k w A n cap xs) (hb : Below w.heap.size w w') : SlI k w' A n cap xs := by
  obtain ⟨h1, h2, h3, h4⟩ := h
  refine ⟨h1, h2, h3, ?_⟩
  rcases h4 with h4 | ⟨ad, h5, h6⟩
  · exact .inl h4
  · exact .inr ⟨ad, h5, fun j hj => (hb.cell (p := ad.add j) (block_lt_of_cell (h6 j hj))).trans (h6 j hj)⟩
theorem wf_u8 {x : Int} (h : (Lit.int .u8 x).wf = true) : 0 ≤ x ∧ x ≤ 255 := by
  have h' : (decide (IntKind.u8.min ≤ x) && decide (x ≤ IntKind.u8.max)) = true := h
  rw [show IntKind.u8.min = 0 by decide, show IntKind.u8.max = 255 by decide] at h'
  simp at h'
  exact h'
theorem add_zero (ad : Addr) : ad.add 0 = ad := rfl
theorem SlI.string {w : World} {A : Option Addr} {n cap : Nat} {xs : List Int} (h : SlI .u8 w A n cap xs) : (convert 30 9 (.slice A n cap)).run Tryd.prog w = .ok (.string (strOfNums xs)) w := by
  obtain ⟨h1, h2, h3, h4⟩ := h
  rcases h4 with ⟨rfl, rfl, rfl⟩ | ⟨ad, rfl, h6⟩
  · obtain rfl : xs = [] := List.eq_nil_of_length_eq_zero h1
    exact run_convert_bytes_nil w 30 5 Tryd.underlying30 Tryd.underlying5 0 0 9 Tryd.underlying9
  · have hl : (loadCells ad n).run Tryd.prog w = .ok (xs.map (Value.int .u8)).toArray w := by
      have := run_loadCells_list (P := Tryd.prog) w ad (xs.map (Value.int .u8)) (fun j v hj => by
        have hjl : j < xs.length := by
          have := (List.getElem?_eq_some_iff.1 hj).1
          simpa using this
        rw [h6 j (by omega)]
        rw [List.getElem?_map, List.getElem?_eq_getElem hjl] at hj
        rw [List.getD_eq_getElem?_getD, List.getElem?_eq_getElem hjl]
        exact hj)
      rw [List.length_map, h1] at this
      exact this
    rw [run_convert_bytes_string w 30 9 5 _ _ _ Tryd.underlying30 Tryd.underlying5 Tryd.underlying9, run_bytesToString w ad n cap xs hl, foldl_push_bytes]
    simp [strOfNums, ByteArray.empty, ByteArray.emptyWithCapacity]
    rfl
theorem SlI.first {w : World} {A : Option Addr} {n cap : Nat} {xs : List Int} (h : SlI .u8 w A n cap xs) : First w A n xs.head? := by
  obtain ⟨h1, h2, h3, h4⟩ := h
  cases xs with
  | nil => exact .inl ⟨h1.symm, rfl⟩
  | cons x xs =>
    rcases h4 with ⟨_, h5, _⟩ | ⟨ad, h5, h6⟩
    · simp at h1; omega
    · have hx := wf_u8 (h3 x (by simp))
      have hn : 0 < n := by simp at h1; omega
      have h7 := h6 0 hn
      rw [add_zero] at h7
      exact .inr ⟨ad, x, hn, by omega, h5, rfl, hx.1, hx.2, h7⟩
/-- What has been appended to an empty row of the call's own. -/
theorem own_SlI {w : World} {base n : Nat} {v : Value} {xs : List Int} (h : w.ownsRow base 5 1 v n (xs.map (Value.int .u8))) (hx : ∀ x ∈ xs, (Lit.int .u8 x).wf = true) (hn : n ≤ 140737488351232) : ∃ A cap, v = .slice A n cap ∧ SlI .u8 w A n cap xs := by
  have hl : xs.length = n := by have := h.1; simpa using this
  rcases h.2 with ⟨rfl, rfl⟩ | ⟨g, cap, cur, rfl, hb, hg, h1, h2, h3, h4⟩
  · exact ⟨none, 0, rfl, hl, by omega, hx, .inl ⟨rfl, rfl, rfl⟩⟩
  · refine ⟨_, cap, rfl, hl, hn, hx, .inr ⟨_, rfl, fun j hj => ?_⟩⟩
    have := h.cells (g := g) rfl j (.int .u8 (xs.getD j 0)) (by simp [List.getElem?_eq_getElem (show j < xs.length by omega), List.getD_eq_getElem?_getD])
    exact this
theorem info5 : (Tryd.prog.info? 5).map (fun i => (i.zero, i.size, i.bytes)) = some (some (.int .u8 0), 1, 1) := by kernel_rfl
/-- Between two calls: the state's box, the own copy of the bytes. -/
structure GetsInv (w W : World) (a b c h : Int) (A : Option Addr) (n cap : Nat) (xs : List Int) : Prop where
  bl : Below w.heap.size w W
  st : W.heap[w.heap.size]? = some (.cells #[.int .i64 a, .int .i64 b, .int .u32 c, .int .i32 h] 25 (0, 0))
  own : SlI .u8 W A n cap xs
theorem GetsInv.below {w W W' : World} {a b c h : Int} {A : Option Addr} {n cap : Nat} {xs : List Int} (g : GetsInv w W a b c h A n cap xs) (hb : Below W.heap.size W W') : GetsInv w W' a b c h A n cap xs :=
  ⟨below_then g.bl g.bl.size hb, (hb.block _ (Array.getElem?_eq_some_iff.1 g.st).1).trans g.st, g.own.below hb⟩
theorem GetsInv.drew {w W : World} {a b c h : Int} {A : Option Addr} {n cap : Nat} {xs : List Int} (g : GetsInv w W a b c h A n cap xs) : GetsInv w W.drew a b c h A n cap xs := ⟨g.bl.drew, g.st, g.own⟩
/-- What the last statement reads. -/
def GetsS (q : Nat) (a b c h : Int) (A B : Option Addr) (n capa capb : Nat) (xs : List Int) (X : World) : Prop :=
  X.cell? ⟨q, 0, none⟩ = some (.int .i64 a) ∧ X.cell? ⟨q, 1, none⟩ = some (.int .i64 b) ∧ X.cell? ⟨q, 2, none⟩ = some (.int .u32 c) ∧ X.cell? ⟨q, 3, none⟩ = some (.int .i32 h) ∧
  (convert 30 9 (.slice A n capa)).run Tryd.prog X = .ok (.string (strOfNums xs)) X ∧ (convert 30 9 (.slice B n capb)).run Tryd.prog X = .ok (.string (strOfNums xs)) X
theorem GetsInv.S {w W : World} {a b c h : Int} {A B : Option Addr} {n capa capb : Nat} {xs : List Int} (g : GetsInv w W a b c h A n capa xs) (hb : SlI .u8 w B n capb xs) : GetsS w.heap.size a b c h A B n capa capb xs W := by
  obtain ⟨s0, s1, s2, s3⟩ := st_cells g.st
  exact ⟨s0, s1, s2, s3, g.own.string, (hb.below g.bl).string⟩
set_option maxRecDepth 100000 in
set_option maxHeartbeats 3200000 in
theorem gets_calls (a b c h : Int) (A : Option Addr) (n cap : Nat) (xs : List Int) (w : World) (hw : ListAt w) (hA : SlI .u8 w A n cap xs) :
    Calls Tryd.prog 4 #[stV a b c h, .slice A n cap] w fun e w' => e = .returned (.bool true) ∧ Below w.heap.size w w' := by
  obtain ⟨i0, hi, hz0, hz1, hz2⟩ := info_parts info5
  have ga := fun A n cap w => get_any a b c h A n cap xs.head? w
  have gr := fun A n cap w => rget_any a b c h A n cap xs.head? w
  obtain ⟨⟨g1, g2, g3, g4, g5, g6, g7, g8, g9⟩, hR⟩ : ∃ g, getR a b c h xs.head? = g := ⟨_, rfl⟩
  rw [hR] at ga gr
  unfold gotV gotC at ga gr
  dsimp only at ga gr
  have GA := Lib.hid ga
  have GR := Lib.hid gr
  clear ga gr hR
  have hA' := hA
  obtain ⟨e1, e2, e3, e4⟩ := hA'
  have hX : ∀ o o' : Obj, Below w.heap.size w ((w.alloc o).alloc o') := fun o o' => ((Below.refl _ _).alloc (Nat.le_refl _) _).alloc (by simp) _
  have HX := Lib.hid hX
  clear hX
  rcases e4 with ⟨rfl, rfl, rfl⟩ | ⟨ad, rfl, e6⟩
  · have HA := Lib.hid hA
    have HW := Lib.hid hw
    have E3 := Lib.hid (show xs = [] from List.eq_nil_of_length_eq_zero e1)
    clear hA hw e1 e2 e3
    go_enter Tryd.func4, Tryd.ntmps4
    go_wp2_with (at_builtin; refine wpList_append_own_none rfl (.tmp 10) (.tmp 11) 30 rfl (w.heap.size + 1) 5 i0 1 Tryd.underlying30 hi _ 0 [] rfl ?own rfl ?_)
    case own => exact ⟨rfl, .inr ⟨_, 0, #[], rfl, Nat.le_refl _, by rw [heap_alloc2_new], by omega, by omega, rfl, rfl⟩⟩
    obtain ⟨w1, hw1⟩ : ∃ w1, (w.alloc (.cells #[.int .i64 a, .int .i64 b, .int .u32 c, .int .i32 h] 25)).alloc (.cells #[] 5) = w1 := ⟨_, rfl⟩
    have G1 := Lib.hid (show GetsInv w w1 a b c h (some ⟨w.heap.size + 1, 0, none⟩) 0 0 xs from by
      subst hw1
      refine ⟨HX.out _ _, heap_alloc2_old w _ _, by rw [E3.out]; rfl, by omega, (fun x hx => by rw [E3.out] at hx; cases hx), .inr ⟨_, rfl, fun j hj => by omega⟩⟩)
    rw [hw1]
    clear hw1 hi hz0 hz1 hz2 E3
    clear HX
    obtain ⟨s0, s1, s2, s3⟩ := st_cells G1.out.st
    go_wp2_with fail
    refine (drain_calls a b c h _).mono ?_
    rintro e w2 ⟨rfl, hb⟩
    have G2 := Lib.hid (G1.out.below hb)
    clear hb s0 s1 s2 s3 G1
    obtain ⟨s0, s1, s2, s3⟩ := st_cells G2.out.st
    go_wp2_with fail
    refine (rdrain_calls a b c h _).mono ?_
    rintro e w3 ⟨rfl, hb⟩
    have G3 := Lib.hid (G2.out.below hb)
    clear hb s0 s1 s2 s3 G2
    have S3 := G3.out.drew.S HA.out
    go_wp2_with fail
    go_region_held3 (fun X => X.cell? ⟨w.heap.size, 0, none⟩ = some (.int .i64 a) ∧ X.cell? ⟨w.heap.size, 1, none⟩ = some (.int .i64 b) ∧ X.cell? ⟨w.heap.size, 2, none⟩ = some (.int .u32 c) ∧ X.cell? ⟨w.heap.size, 3, none⟩ = some (.int .i32 h) ∧ (convert 30 9 (.slice (some ⟨w.heap.size + 1, 0, none⟩) 0 0)).run Tryd.prog X = .ok (.string (strOfNums xs)) X ∧ (convert 30 9 (.slice none 0 0)).run Tryd.prog X = .ok (.string (strOfNums xs)) X)
      ((first | exact S3 | exact S4 | exact S5 | exact S6 | exact S7))
      (first | (go_at_call 12; refine (GA.out (some ⟨w.heap.size + 1, 0, none⟩) 0 0 _ (HW.out.below G3.out.drew.bl) G3.out.drew.own.first).mono ?_; rintro e w4 ⟨rfl, hb⟩; have G4 := Lib.hid (G3.out.drew.below hb); have S4 := G4.out.S HA.out; clear hb) | (go_at_call 13; refine (GR.out _ 0 0 _ ((HA.out.below G4.out.bl).first)).mono ?_; rintro e w5 ⟨rfl, hb⟩; have G5 := Lib.hid (G4.out.below hb); have S5 := G5.out.S HA.out; clear hb) | (go_at_call 14; refine (fits_calls a b c h _).mono ?_; rintro e w6 ⟨rfl, hb⟩; have G6 := Lib.hid (G5.out.below hb); have S6 := G6.out.S HA.out; clear hb) | (go_at_call 15; refine (rfits_calls a b c h _).mono ?_; rintro e w7 ⟨rfl, hb⟩; have G7 := Lib.hid (G6.out.below hb); have S7 := G7.out.S HA.out; clear hb))
    go_wp2_with fail
    go_ret
    exact ⟨rfl, G7.out.bl⟩
  · have HA := Lib.hid hA
    have HW := Lib.hid hw
    have E1 := Lib.hid (show (xs.map (Value.int .u8)).length = n * 1 by rw [List.length_map, e1]; omega)
    have E2 := Lib.hid e2
    have E3 := Lib.hid e3
    have E5 := Lib.hid (show ∀ u ∈ xs.map (Value.int .u8), u.oneCell' = true by intro u hu; obtain ⟨x, _, rfl⟩ := List.mem_map.1 hu; rfl)
    have E6 := Lib.hid (show ∀ (W : World), Below w.heap.size w W → ∀ j u, (xs.map (Value.int .u8))[j]? = some u → W.cell? (ad.add j) = some u by
      intro W hb j u hj
      have hjl : j < xs.length := by
        have := (List.getElem?_eq_some_iff.1 hj).1
        simpa using this
      rw [hb.cell (p := ad.add j) (block_lt_of_cell (e6 j (by omega))), e6 j (by omega)]
      rw [List.getElem?_map, List.getElem?_eq_getElem hjl] at hj
      rw [List.getD_eq_getElem?_getD, List.getElem?_eq_getElem hjl]
      exact hj)
    have EB := Lib.hid (show n ≤ maxLen ∧ n ≤ 140737488351232 by unfold maxLen; omega)
    clear hA hw e1 e2 e3 e6
    go_enter Tryd.func4, Tryd.ntmps4
    go_wp2_with (at_builtin; go_loud (refine wpList_append_own _ rfl (.tmp 10) (.tmp 11) 30 rfl (w.heap.size + 1) 5 i0 (.int .u8 0) 1 1 Tryd.underlying30 hi hz0 hz1 hz2 rfl (by decide) _ 0 [] rfl ?own ad n cap (xs.map (Value.int .u8)) rfl E1.out (E6.out _ (HX.out _ _)) E5.out (by have := EB.out; omega) (by have := EB.out; omega) (by simp) ?_))
    case own => exact ⟨rfl, .inr ⟨_, 0, #[], rfl, by omega, by rw [heap_alloc2_new], by omega, by omega, rfl, rfl⟩⟩
    intro v' w1 hown hgrow _
    obtain ⟨A', cap', rfl, ho⟩ := own_SlI (by simpa using hown) E3.out E2.out
    have G1 := Lib.hid (show GetsInv w w1 a b c h A' n cap' xs from ⟨(HX.out _ _).grown hgrow (by simp; omega) (fun k e => by cases e; exact Nat.le_succ _), (hgrow.block w.heap.size (by simp; omega) (by simp [Value.ownBlock])).trans (heap_alloc2_old w _ _), ho⟩)
    clear hown hgrow ho E1 E2 E3 E5 E6 EB hi hz0 hz1 hz2
    clear HX
    obtain ⟨s0, s1, s2, s3⟩ := st_cells G1.out.st
    go_wp2_with fail
    refine (drain_calls a b c h _).mono ?_
    rintro e w2 ⟨rfl, hb⟩
    have G2 := Lib.hid (G1.out.below hb)
    clear hb s0 s1 s2 s3 G1
    obtain ⟨s0, s1, s2, s3⟩ := st_cells G2.out.st
    go_wp2_with fail
    refine (rdrain_calls a b c h _).mono ?_
    rintro e w3 ⟨rfl, hb⟩
    have G3 := Lib.hid (G2.out.below hb)
    clear hb s0 s1 s2 s3 G2
    have S3 := G3.out.drew.S HA.out
    go_wp2_with fail
    go_region_held3 (fun X => X.cell? ⟨w.heap.size, 0, none⟩ = some (.int .i64 a) ∧ X.cell? ⟨w.heap.size, 1, none⟩ = some (.int .i64 b) ∧ X.cell? ⟨w.heap.size, 2, none⟩ = some (.int .u32 c) ∧ X.cell? ⟨w.heap.size, 3, none⟩ = some (.int .i32 h) ∧ (convert 30 9 (.slice A' n cap')).run Tryd.prog X = .ok (.string (strOfNums xs)) X ∧ (convert 30 9 (.slice (some ad) n cap)).run Tryd.prog X = .ok (.string (strOfNums xs)) X)
      ((first | exact S3 | exact S4 | exact S5 | exact S6 | exact S7))
      (first | (go_at_call 12; refine (GA.out A' n cap' _ (HW.out.below G3.out.drew.bl) G3.out.drew.own.first).mono ?_; rintro e w4 ⟨rfl, hb⟩; have G4 := Lib.hid (G3.out.drew.below hb); have S4 := G4.out.S HA.out; clear hb) | (go_at_call 13; refine (GR.out _ n cap _ ((HA.out.below G4.out.bl).first)).mono ?_; rintro e w5 ⟨rfl, hb⟩; have G5 := Lib.hid (G4.out.below hb); have S5 := G5.out.S HA.out; clear hb) | (go_at_call 14; refine (fits_calls a b c h _).mono ?_; rintro e w6 ⟨rfl, hb⟩; have G6 := Lib.hid (G5.out.below hb); have S6 := G6.out.S HA.out; clear hb) | (go_at_call 15; refine (rfits_calls a b c h _).mono ?_; rintro e w7 ⟨rfl, hb⟩; have G7 := Lib.hid (G6.out.below hb); have S7 := G7.out.S HA.out; clear hb))
    go_wp2_with fail
    go_ret
    exact ⟨rfl, G7.out.bl⟩
end Go.Proofs.YtadpmdlajfojiaaDoor
