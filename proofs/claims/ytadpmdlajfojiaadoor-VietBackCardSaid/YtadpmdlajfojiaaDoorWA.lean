/- The walk of VietBack. -/
import Derived.Test.YtadpmdlajfojiaaDoorWL
import Derived.Deep.CutBlock
namespace Go.Proofs.YtadpmdlajfojiaaDoor
open Go.RowKit
set_option maxRecDepth 100000 in
set_option maxHeartbeats 6400000 in
theorem back_walk (A : Option Addr) (n cap : Nat) (xs : List Int) (w : World) (hw : ListAt w) (hA : SlI .i32 w A n cap xs) (hcap : n ≤ cap) : Calls Tryd.prog 5 #[.slice A n cap] w fun e w' => e = .returned (.bool true) ∧ Below w.heap.size w w' := by
  obtain ⟨i0, hi, hz0, hz1, hz2⟩ := info_parts info21
  have HW := Lib.hid hw
  have HK := Lib.hid works_calls
  have HA := Lib.hid hA
  clear hw hA
  go_enter Tryd.func5, Tryd.ntmps5
  go_wp2_with fail
  refine (HK.out _ HW.out).mono ?_
  rintro e w1 ⟨rfl, hb⟩
  have B1 := Lib.hid hb
  clear hb
  go_upto_block 0 with fail
  go_cut [3, 4] from 5 (fun v s4 wx => ∃ (k : Nat) (t : ByteArray), k ≤ 200 ∧ s4 = .string t ∧ WRel w wx v t k)
  case first =>
    go_wp2_with fail
    go_loopg [3, 4, 5] 200 (fun gg v t i wr => ∃ (k : Nat) (s : ByteArray), k + gg = 200 ∧ i = .int .i64 (k : Int) ∧ t = .string s ∧ WRel w wr v s k)
    case atStart => exact ⟨0, ⟨#[]⟩, by omega, rfl, rfl, [], ⟨B1.out, World.ownsRow_nil _ _ _ _⟩, runs_nil, by simp, Nat.zero_le _, fun _ => rfl⟩
    case round =>
      obtain ⟨k, t, hk, rfl, rfl, hR⟩ := hrel
      have HR := Lib.hid hR
      clear hR
      by_cases hlt : k < n ∧ k < 200
      · obtain ⟨y, hy⟩ : ∃ y, xs.getD k 0 = y := ⟨_, rfl⟩
        obtain ⟨e1, e2, e3, e4⟩ := HA.out
        rcases e4 with ⟨_, h0, _⟩ | ⟨ad, rfl, e5⟩
        · omega
        have HC := Lib.hid (show ∀ X, Below w.heap.size w X → X.cell? (ad.add k) = some (.int .i32 y) from fun X hb => by rw [hb.cell (p := ad.add k) (block_lt_of_cell (e5 k hlt.1)), e5 k hlt.1, hy])
        have hs := set_any y
        obtain ⟨⟨er, s⟩, hsr⟩ : ∃ p, setR y = p := ⟨_, rfl⟩
        have hse := set_err y
        have HRS := Lib.hid (fun want bs => runs_set (want := want) (bs := bs) (u := y))
        rw [hsr] at hs hse HRS
        unfold putV at hs
        dsimp only at hs hse HRS
        have HS := Lib.hid hs
        obtain ⟨want, hI, hrun, hwk, htk, hnil⟩ := HR.out
        have HI := Lib.hid hI
        have HN := Lib.hid (And.intro hrun hnil)
        have hk1 : (0 : Int) ≤ k := by omega
        have hk2 : (k : Int) < n := by omega
        have hk4 : (k : Int) < 200 := by omega
        have hk5 : IntKind.i64.wrap ((k : Int) + 1) = (k : Int) + 1 := by rw [IntKind.wrap_i64]; omega
        have hc := HC.out wr HI.out.bl
        clear e1 e2 e3 e5 hs hsr hy hI hrun hnil HR
        go_wp2_with fail
        refine (HS.out _ (HW.out.below HI.out.bl)).mono ?_
        rintro e w2 ⟨rfl, hb⟩
        have I2 := Lib.hid (HI.out.below hb)
        clear hb hc
        obtain ⟨gg, rfl⟩ : ∃ gg, gk = gg + 1 := ⟨gk - 1, by omega⟩
        rcases hse with rfl | rfl
        · have I3 := Lib.hid (I2.out.alloc (.cells #[.int .i64 0, .string s, .int .i64 0, .int .i64 0, .int .u32 0, .int .i32 0] 27))
          have P3 := Lib.hid (heap_alloc_new w2 (.cells #[.int .i64 0, .string s, .int .i64 0, .int .i64 0, .int .u32 0, .int .i32 0] 27))
          rcases List.eq_nil_or_concat want with h0 | ⟨want', z, h0⟩
          · -- nothing is wanted yet
            obtain ⟨hr1, hr2, hr3⟩ := HRS.out want _ HN.out.1 rfl (fun z hz => by rw [h0] at hz; cases hz)
            obtain rfl := HN.out.2 h0
            subst h0
            have HR1 := Lib.hid hr1
            clear hr1
            have hc3 := HC.out _ I3.out.bl
            have hs1 : 1 ≤ s.size := hr2
            have hs2 : s.size ≤ 2 := hr3
            have hd1 : decide (s.size < 1) = false := decide_eq_false (by omega)
            have hd2 : decide (2 < s.size) = false := decide_eq_false (by omega)
            have hd3 : decide ((s.size : Int) < 1) = false := decide_eq_false (by omega)
            have hd4 : decide (2 < (s.size : Int)) = false := decide_eq_false (by omega)
            clear hr2 hr3
            have hsum : ¬ (9223372036854775807 < t.size + s.size) := by omega
            have HO := Lib.hid (I3.out.alloc (.cells #[.int .i32 y] 21))
            go_wp2_with (at_builtin; go_loud (refine wpList_append_own _ rfl _ _ 38 rfl w.heap.size 21 i0 (.int .i32 0) 1 4 Tryd.underlying38 hi hz0 hz1 hz2 rfl (by decide) _ _ _ rfl HO.out.own ⟨w2.heap.size + 1, 0, none⟩ 1 1 [.int .i32 y] rfl rfl (fun j u hj => one_new2 _ _ _ _ hj) (by simp [Value.oneCell']) (by unfold maxLen; simp only [List.length_nil]; omega) (by simp only [List.length_nil]; omega) (by have := HO.out.bl.size; simp at this; simp; omega) ?_))
            intro v' w4 hown hgrow hnil4
            have I4 := Lib.hid (HO.out.grown hown hgrow)
            have P4 := HO.out.kept (p := w2.heap.size) ((Below.heap_alloc _ _ _ (by simp)).trans P3.out) (fun g hg => by have := (I2.out.own.lt g hg).2; omega) hgrow
            obtain ⟨p0, p1, p2, p3, p4, p5⟩ := pcells P4
            clear hown hgrow hnil4 hc3 P4
            go_wp2_with fail
            go_roundg gg
            case measure => omega
            case rel => exact ⟨k + 1, t ++ s, by omega, by go_num, rfl, _, I4.out, by rw [bytesL_append]; exact HR1.out, by simp, by rw [ByteArray.size_append]; omega, fun h => by simp at h⟩
          · -- what is wanted ends in z
            have hz : want.getLast? = some z := by rw [h0]; simp
            have hm : want.length = want'.length + 1 := by rw [h0]; simp
            have hj : want[want'.length]? = some z := by rw [h0]; simp
            obtain ⟨m, hmm⟩ : ∃ m, want'.length = m := ⟨_, rfl⟩
            rw [hmm] at hm hj
            clear hmm h0
            obtain ⟨g, cap', rfl⟩ := Joins.ownsRow_form I2.out.own (by omega)
            have c1 := row_at I3.out.own hj
            have hc3 := HC.out _ I3.out.bl
            have hmk : m + 1 ≤ k := by omega
            have HM := Lib.hid hm
            have HZ := Lib.hid hz
            obtain ⟨N, hN⟩ : ∃ N, want.length = N := ⟨_, rfl⟩
            have HNN := Lib.hid hN
            have hN0 : 0 < N := by omega
            have hN1 : N ≤ 200 := by omega
            have hwm : IntKind.i64.wrap ((N : Int) - 1) = (m : Int) := by rw [IntKind.wrap_i64]; omega
            have hm1 : (m : Int) < (N : Int) := by omega
            rw [hN]
            clear hj hm hz hN
            have hp0 := (pcells P3.out).1
            go_wp2_with fail
            obtain ⟨W3, hW3⟩ : ∃ W, w2.alloc (.cells #[.int .i64 0, .string s, .int .i64 0, .int .i64 0, .int .u32 0, .int .i32 0] 27) = W := ⟨_, rfl⟩
            obtain ⟨q, hq⟩ : ∃ q, w2.heap.size = q := ⟨_, rfl⟩
            rw [hW3] at I3 P3 c1 hc3 ⊢
            rw [hq] at P3 ⊢
            have HQ := Lib.hid (show ∀ g', (Value.slice (some ⟨g, 0, none⟩) want.length cap').ownBlock = some g' → g' ≠ q from fun g' hg => by have := (I2.out.own.lt g' hg).2; omega)
            clear hW3 hq hp0
            have hm0 : (0 : Int) ≤ (m : Int) := by omega
            have S3 : W3.drew.cell? ⟨g, m, none⟩ = some (.int .i32 z) ∧ W3.drew.cell? (ad.add k) = some (.int .i32 y) := ⟨c1, hc3⟩
            have hcc := compose_calls z y
            cases hcmp : composeL z y with
            | some r =>
              rw [hcmp] at hcc
              have HCC := Lib.hid hcc
              clear hcc hcmp
              go_region_held3 (fun X => X.cell? ⟨g, m, none⟩ = some (.int .i32 z) ∧ X.cell? (ad.add k) = some (.int .i32 y))
                ((first | exact S3 | exact S4))
                (first | (go_at_call 17; refine (HCC.out _).mono ?_; rintro e w4 ⟨rfl, hb⟩; have I4 := Lib.hid (I3.out.drew.below hb); have S4 : w4.cell? ⟨g, m, none⟩ = some (.int .i32 z) ∧ w4.cell? (ad.add k) = some (.int .i32 y) := ⟨(hb.cell (block_lt_of_cell S3.1)).trans S3.1, (hb.cell (block_lt_of_cell S3.2)).trans S3.2⟩; clear hb))
              go_wp2_with fail
              go_roundg gg
              case measure => omega
              case rel => exact ⟨k + 1, t, by omega, by go_num, rfl, want, by have := I4.out; rw [HNN.out] at this; exact this, HN.out.1, by omega, by omega, fun h => absurd (congrArg List.length h) (by rw [HNN.out]; simp; omega)⟩
            | none =>
              rw [hcmp] at hcc
              have HCC := Lib.hid hcc
              obtain ⟨hr1, hs1, hs2⟩ := HRS.out want _ HN.out.1 (by first | rfl | trivial) (fun z' hz' => by rw [HZ.out] at hz'; cases hz'; exact hcmp)
              have HR1 := Lib.hid hr1
              have hs1 : 1 ≤ s.size := hs1
              have hs2 : s.size ≤ 2 := hs2
              have hd1 : decide (s.size < 1) = false := decide_eq_false (by omega)
              have hd2 : decide (2 < s.size) = false := decide_eq_false (by omega)
              have hd3 : decide ((s.size : Int) < 1) = false := decide_eq_false (by omega)
              have hd4 : decide (2 < (s.size : Int)) = false := decide_eq_false (by omega)
              have hsum : ¬ (9223372036854775807 < t.size + s.size) := by omega
              clear hcc hcmp hr1
              go_region_held3 (fun X => X.cell? ⟨g, m, none⟩ = some (.int .i32 z) ∧ X.cell? (ad.add k) = some (.int .i32 y))
                ((first | exact S3 | exact S4))
                (first | (go_at_call 17; refine (HCC.out _).mono ?_; rintro e w4 ⟨rfl, hb⟩; have I4 := Lib.hid (I3.out.drew.below hb); have P4 := Lib.hid ((hb.block q (show q < W3.drew.heap.size from (Array.getElem?_eq_some_iff.1 P3.out).1)).trans (show W3.drew.heap[q]? = _ from P3.out)); have S4 : w4.cell? ⟨g, m, none⟩ = some (.int .i32 z) ∧ w4.cell? (ad.add k) = some (.int .i32 y) := ⟨(hb.cell (block_lt_of_cell S3.1)).trans S3.1, (hb.cell (block_lt_of_cell S3.2)).trans S3.2⟩; clear hb))
              obtain ⟨p0, p1, p2, p3, p4, p5⟩ := pcells P4.out
              have hc4 := S4.2
              have HO := Lib.hid (I4.out.alloc (.cells #[.int .i32 y] 21))
              have HO' := Lib.hid (show World.ownsRow (w4.alloc (.cells #[.int .i32 y] 21)) w.heap.size 21 1 (.slice (some ⟨g, 0, none⟩) N cap') N (want.map (Value.int .i32)) from by have := HO.out.own; rw [HNN.out] at this; exact this)
              clear S3 S4 c1 hc3
              go_wp2_with (at_builtin; go_loud (refine wpList_append_own _ rfl _ _ 38 rfl w.heap.size 21 i0 (.int .i32 0) 1 4 Tryd.underlying38 hi hz0 hz1 hz2 rfl (by decide) _ _ _ rfl HO'.out ⟨w4.heap.size, 0, none⟩ 1 1 [.int .i32 y] rfl rfl (fun j u hj => one_new _ _ _ hj) (by simp [Value.oneCell']) (by unfold maxLen; omega) (by omega) (by have := HO.out.bl.size; exact this) ?_))
              intro v' w5 hown hgrow hnil5
              have I5 := Lib.hid (HO.out.grown (by rw [HNN.out]; exact hown) (by rw [HNN.out]; exact hgrow))
              have P5 := HO.out.kept (p := q) ((Below.heap_alloc _ _ _ (Array.getElem?_eq_some_iff.1 P4.out).1).trans P4.out) HQ.out (by rw [HNN.out]; exact hgrow)
              clear p0 p1 p2 p3 p4 p5 hc4
              obtain ⟨p0, p1, p2, p3, p4, p5⟩ := pcells P5
              clear hown hgrow hnil5 P5
              go_wp2_with fail
              go_roundg gg
              case measure => omega
              case rel => exact ⟨k + 1, t ++ s, by omega, by go_num, rfl, _, I5.out, by rw [bytesL_append]; exact HR1.out, by rw [List.length_append]; simp; omega, by rw [ByteArray.size_append]; omega, fun h => by simp at h⟩
        · go_wp2_with fail
          go_roundg gg
          case measure => omega
          case rel => exact ⟨k + 1, t, by omega, by go_num, rfl, want, I2.out.alloc _, HN.out.1, by omega, by omega, HN.out.2⟩
      · have hlt' : ¬ ((k : Int) < n ∧ (k : Int) < 200) := by omega
        have hcs : ((k : Int) < n ∧ ¬ (k : Int) < 200) ∨ ¬ (k : Int) < n := by omega
        rcases hcs with ⟨hk1, hk2⟩ | hk1
        · go_wp2_with fail
          go_meet
          exact ⟨k, t, by omega, rfl, HR.out⟩
        · go_wp2_with fail
          go_meet
          exact ⟨k, t, by omega, rfl, HR.out⟩
  case rest =>
    obtain ⟨k, t, hk, rfl, hR⟩ := hcut
    have HR := Lib.hid hR
    clear hR
    obtain ⟨want, hI, hrun, hwk, htk, hnil⟩ := HR.out
    have HI := Lib.hid hI
    obtain ⟨got0, z0, hr1, hr2, hr3⟩ := hrun
    have HRN := Lib.hid (And.intro hr1 (And.intro hr2 hr3))
    clear hI hr1 hr2 hr3 hnil HR
    go_wp2_with fail
    have L0 := Lib.hid (LInv.start HI.out)
    obtain ⟨W2, hW2⟩ : ∃ W, wc.alloc (.cells #[.int .i64 0, .int .i64 0, .int .u32 0, .int .i32 0] 25) = W := ⟨_, rfl⟩
    obtain ⟨B, hB⟩ : ∃ B, wc.heap.size + 1 = B := ⟨_, rfl⟩
    obtain ⟨q, hq⟩ : ∃ q, wc.heap.size = q := ⟨_, rfl⟩
    rw [hW2, hB, hq] at L0
    rw [hW2, hq]
    clear hW2 hB hq HI
    go_loopg [9, 11] t.size (fun g2 v2 i2 wx => ∃ (j : Nat) (got : List Int) (z : Int), j + g2 = t.size ∧ i2 = .int .i64 (j : Int) ∧ Hid (runO ((bytesL t).take j) = some (got, z)) ∧ Hid (Fit z) ∧ got.length ≤ 2 * j ∧ Hid (LInv w wx B q u3 want v2 got z))
    case atStart => exact ⟨0, [], 0, by omega, rfl, Lib.hid rfl, Lib.hid (.inl rfl), by simp, L0⟩
    case round =>
      obtain ⟨j, got, z, hj, rfl, HRJ, HF, hgl, HL⟩ := hrel
      cases gk with
      | zero =>
        have hjt : j = t.size := by omega
        have hts : ¬ ((j : Int) < (t.size : Int)) := by omega
        have HE := Lib.hid (show got ++ heldL z = want from by
          have h1 := HRJ.out
          rw [List.take_of_length_le (by rw [bytesL_len]; omega), HRN.out.1] at h1
          cases h1
          exact HRN.out.2.1)
        have hcells := HL.out.cells
        have hb0 : want.length ≤ 200 := by omega
        obtain ⟨s0, s1, s2, s3⟩ := hcells
        by_cases hz : z = 0
        · subst hz
          have HE2 := Lib.hid (show got = want from by have := HE.out; simpa [heldL] using this)
          go_wp2_with fail
          refine (drain_none _).mono ?_
          rintro e w5 ⟨rfl, hb⟩
          have L5 := Lib.hid (HL.out.below hb)
          clear hb s0 s1 s2 s3
          have O9 := Lib.hid (show w5.ownsRow B 21 1 u9 want.length (want.map (Value.int .i32)) from by have := L5.out.own; rw [HE2.out] at this; exact this)
          have O3 := Lib.hid L5.out.wi.own
          have BL := Lib.hid L5.out.wi.bl
          obtain ⟨A9, cap9, rfl, hA9⟩ := own_form O9.out
          obtain ⟨A3, cap3, rfl, hA3⟩ := own_form O3.out
          have HA9 := Lib.hid hA9
          have HA3 := Lib.hid hA3
          obtain ⟨N, hN⟩ : ∃ N, want.length = N := ⟨_, rfl⟩
          rw [hN] at O9 O3 HA9 HA3 hb0 ⊢
          have HNN := Lib.hid hN
          clear hA9 hA3 hN L5 HE HE2 HRJ HRN HL L0
          go_wp2_with fail
          go_loopg [15] N (fun gg i wx => ∃ m nn : Nat, m + gg = N ∧ i = .int .i64 (m : Int) ∧ wx = w5.drewN nn)
          case atStart => exact ⟨0, 0, by omega, rfl, rfl⟩
          case round =>
            obtain ⟨m, nn, hm, rfl, rfl⟩ := hrel
            cases gk with
            | zero =>
              have hkz : ¬ ((m : Int) < (N : Int)) := by omega
              go_wp2_with fail
              go_ret
              exact ⟨rfl, below_drewN BL.out _⟩
            | succ gg =>
              have hkz : (m : Int) < (N : Int) := by omega
              have hk0 : (0 : Int) ≤ (m : Int) := by omega
              obtain ⟨g9, rfl⟩ := HA9.out (by omega)
              obtain ⟨g3, rfl⟩ := HA3.out (by omega)
              obtain ⟨x, hx⟩ : ∃ x, want[m]? = some x := ⟨_, List.getElem?_eq_getElem (by rw [HNN.out]; omega)⟩
              have c1 : (w5.drewN nn).cell? ⟨g9, m, none⟩ = some (.int .i32 x) := row_at (w := w5.drewN nn) (B := B) (cap := cap9) (n := N) O9.out hx
              have c2 : (w5.drewN nn).cell? ⟨g3, m, none⟩ = some (.int .i32 x) := row_at (w := w5.drewN nn) (B := w.heap.size) (cap := cap3) (n := N) O3.out hx
              clear hx
              obtain ⟨X, hX⟩ : ∃ X, w5.drewN nn = X := ⟨_, rfl⟩
              have HX := Lib.hid hX
              rw [hX] at c1 c2 ⊢
              clear hX
              go_wp2_with fail
              go_quiet (fail)
              go_wp2_with fail
              go_roundg gg
              case measure => omega
              case rel => exact ⟨m + 1, _, by omega, by go_num, by rw [← HX.out, World.drewN_drewN]⟩
        · have hzh := HF.out.resolve_left hz
          have D1 := Lib.hid (drain_some hz hzh)
          have HE2 := Lib.hid (show got ++ [z] = want from by have := HE.out; simpa [heldL, hz] using this)
          clear hz hzh
          go_wp2_with fail
          refine (D1.out _).mono ?_
          rintro e w4 ⟨rfl, hb⟩
          have L4 := Lib.hid (HL.out.below hb)
          have HO := Lib.hid (L4.out.alloc (.cells #[.int .i32 z] 21))
          clear hb s0 s1 s2 s3
          go_wp2_with (at_builtin; go_loud (refine wpList_append_own _ rfl _ _ 38 rfl B 21 i0 (.int .i32 0) 1 4 Tryd.underlying38 hi hz0 hz1 hz2 rfl (by decide) _ _ _ rfl HO.out.own ⟨w4.heap.size, 0, none⟩ 1 1 [.int .i32 z] rfl rfl (fun j u hj => one_new _ _ _ hj) (by simp [Value.oneCell']) (by unfold maxLen; omega) (by omega) (by have := HO.out.sz; exact this) ?_))
          intro v5 w5 hown hgrow _
          have L5 := Lib.hid (HO.out.grown (y := z) (by simpa using hown) hgrow)
          clear hown hgrow
          have O9 := Lib.hid (show w5.ownsRow B 21 1 v5 want.length (want.map (Value.int .i32)) from by have := L5.out.own; rw [HE2.out] at this; exact this)
          have O3 := Lib.hid L5.out.wi.own
          have BL := Lib.hid L5.out.wi.bl
          obtain ⟨A9, cap9, rfl, hA9⟩ := own_form O9.out
          obtain ⟨A3, cap3, rfl, hA3⟩ := own_form O3.out
          have HA9 := Lib.hid hA9
          have HA3 := Lib.hid hA3
          obtain ⟨N, hN⟩ : ∃ N, want.length = N := ⟨_, rfl⟩
          rw [hN] at O9 O3 HA9 HA3 hb0 ⊢
          have HNN := Lib.hid hN
          clear hA9 hA3 hN L5 HE HE2 HRJ HRN HL L0
          go_wp2_with fail
          go_loopg [15] N (fun gg i wx => ∃ m nn : Nat, m + gg = N ∧ i = .int .i64 (m : Int) ∧ wx = w5.drewN nn)
          case atStart => exact ⟨0, 0, by omega, rfl, rfl⟩
          case round =>
            obtain ⟨m, nn, hm, rfl, rfl⟩ := hrel
            cases gk with
            | zero =>
              have hkz : ¬ ((m : Int) < (N : Int)) := by omega
              go_wp2_with fail
              go_ret
              exact ⟨rfl, below_drewN BL.out _⟩
            | succ gg =>
              have hkz : (m : Int) < (N : Int) := by omega
              have hk0 : (0 : Int) ≤ (m : Int) := by omega
              obtain ⟨g9, rfl⟩ := HA9.out (by omega)
              obtain ⟨g3, rfl⟩ := HA3.out (by omega)
              obtain ⟨x, hx⟩ : ∃ x, want[m]? = some x := ⟨_, List.getElem?_eq_getElem (by rw [HNN.out]; omega)⟩
              have c1 : (w5.drewN nn).cell? ⟨g9, m, none⟩ = some (.int .i32 x) := row_at (w := w5.drewN nn) (B := B) (cap := cap9) (n := N) O9.out hx
              have c2 : (w5.drewN nn).cell? ⟨g3, m, none⟩ = some (.int .i32 x) := row_at (w := w5.drewN nn) (B := w.heap.size) (cap := cap3) (n := N) O3.out hx
              clear hx
              obtain ⟨X, hX⟩ : ∃ X, w5.drewN nn = X := ⟨_, rfl⟩
              have HX := Lib.hid hX
              rw [hX] at c1 c2 ⊢
              clear hX
              go_wp2_with fail
              go_quiet (fail)
              go_wp2_with fail
              go_roundg gg
              case measure => omega
              case rel => exact ⟨m + 1, _, by omega, by go_num, by rw [← HX.out, World.drewN_drewN]⟩
      | succ g2 =>
        have hjt : j < t.size := by omega
        obtain ⟨got', z', h1, h2, h3⟩ := run_prefix HRN.out.1 j (by rw [bytesL_len]; exact hjt)
        rw [HRJ.out] at h1
        cases h1
        obtain ⟨y, hy, hyb, hext⟩ := byte_text t j hjt
        rw [hyb] at h2 h3
        have hg := fun A n cap w => get_any 0 0 0 z A n cap (some (y : Int)) w
        obtain ⟨⟨ge, gn, gk1, gx, gy, ga, gb, gc, gh⟩, hgg⟩ : ∃ g, getR 0 0 0 z (some (y : Int)) = g := ⟨_, rfl⟩
        rw [hgg] at hg h2 h3
        unfold stV gotV gotC at hg
        obtain ⟨f1, f2, f3, f4, f5, f6, f7⟩ := h2
        dsimp only at f1 f2 f3 f4 f5 f6 f7 h3 hg
        subst f1 f2 f4 f5 f6
        have HG := Lib.hid hg
        have H3 := Lib.hid h3
        have HH := Lib.hid f7
        have hcb := fun (s : ByteArray) (w : World) => Lib.run_convert_string_bytes (P := Tryd.prog) w 9 30 5 s Tryd.underlying9 Tryd.underlying30 Tryd.underlying5
        have hj0 : (0 : Int) ≤ (j : Int) := by omega
        have hj1 : (j : Int) < (t.size : Int) := by omega
        have hj2 : (j : Int) + 1 ≤ (t.size : Int) := by omega
        have hj3 : IntKind.i64.wrap ((j : Int) + 1) = (j : Int) + 1 := by rw [IntKind.wrap_i64]; omega
        have hj4 : (0 : Int) ≤ (j : Int) + 1 := by omega
        have hj5 : (j : Int) ≤ (j : Int) + 1 := by omega
        clear hg h3 f7 hyb hgg
        go_wp2_with fail
        go_cut [12] from 82 to 137 (fun s12 wx => ∃ p, s12 = .pointer (some ⟨p, 0, none⟩) ∧ LInv w wx B q u3 want u9 got z ∧ wx.heap[p]? = some (.cells #[.int .i64 0, .int .i64 1, .int .i64 gk1, .int .i32 gx, .int .i32 gy, .int .i64 0, .int .i64 0, .int .u32 0, .int .i32 gh] 34 (0, 0)))
        case first =>
          have L1 := Lib.hid HL.out.drew
          have S1 := L1.out.cells
          refine wp_region_held_drew (S := (fun X => X.cell? ⟨q, 0, none⟩ = some (.int .i64 0) ∧ X.cell? ⟨q, 1, none⟩ = some (.int .i64 0) ∧ X.cell? ⟨q, 2, none⟩ = some (.int .u32 0) ∧ X.cell? ⟨q, 3, none⟩ = some (.int .i32 z))) (by kernel_rfl) S1 (fun hHeld => ?_)
          refine wpAnyH_take (i := 0) (oi := _) (v := ?v0) rfl (by kernel_rfl) (by kernel_rfl) (by kernel_rfl) (fun _ _ _ h => h) (Or.inl ⟨by rfl, ?hy0⟩) (by assumption) ?rest0
          case hy0 =>
            intro w hSw
            try dsimp only at hSw
            go_simp
            all_goals with_reducible rfl
          try simp only [Act.put, List.setIfInBounds_toArray, List.set_cons_zero, List.set_cons_succ]
          refine wpAnyH_take (i := 1) (oi := _) (v := ?v1) rfl (by kernel_rfl) (by kernel_rfl) (by kernel_rfl) (fun _ _ _ h => h) (Or.inl ⟨by rfl, ?hy1⟩) (by assumption) ?rest1
          case hy1 =>
            intro w hSw
            try dsimp only at hSw
            go_simp
            all_goals with_reducible rfl
          try simp only [Act.put, List.setIfInBounds_toArray, List.set_cons_zero, List.set_cons_succ]
          refine wpAnyH_take (i := 2) (oi := _) (v := ?v2) rfl (by kernel_rfl) (by kernel_rfl) (by kernel_rfl) (fun _ _ _ h => h) (Or.inl ⟨by rfl, ?hy2⟩) (by assumption) ?rest2
          case hy2 =>
            intro w hSw
            try dsimp only at hSw
            go_simp
            all_goals with_reducible rfl
          try simp only [Act.put, List.setIfInBounds_toArray, List.set_cons_zero, List.set_cons_succ]
          refine wpAnyH_take (i := 3) (oi := _) (v := ?v3) rfl (by kernel_rfl) (by kernel_rfl) (by kernel_rfl) (fun _ _ _ h => h) (Or.inl ⟨by rfl, ?hy3⟩) (by assumption) ?rest3
          case hy3 =>
            intro w hSw
            try dsimp only at hSw
            go_simp
            all_goals with_reducible rfl
          try simp only [Act.put, List.setIfInBounds_toArray, List.set_cons_zero, List.set_cons_succ]
          refine wpAnyH_take (i := 4) (oi := _) (v := ?v4) rfl (by kernel_rfl) (by kernel_rfl) (by kernel_rfl) (fun _ _ _ h => h) (Or.inl ⟨by rfl, ?hy4⟩) (by assumption) ?rest4
          case hy4 =>
            intro w hSw
            try dsimp only at hSw
            go_simp
            all_goals with_reducible rfl
          try simp only [Act.put, List.setIfInBounds_toArray, List.set_cons_zero, List.set_cons_succ]
          refine wpAnyH_take (i := 5) (oi := _) (v := ?v5) rfl (by kernel_rfl) (by kernel_rfl) (by kernel_rfl) (fun _ _ _ h => h) (Or.inl ⟨by rfl, ?hy5⟩) (by assumption) ?rest5
          case hy5 =>
            intro w hSw
            try dsimp only at hSw
            go_simp
            all_goals with_reducible rfl
          try simp only [Act.put, List.setIfInBounds_toArray, List.set_cons_zero, List.set_cons_succ]
          refine wpAnyH_ready (rs := [6, 8]) (by kernel_rfl) (by simp) ?_
          refine AllReadyH.cons (o := _) rfl (fun K hK => ?_) ?_
          · have L2 := Lib.hid (L1.out.below (below_bytes (Below.refl _ _) (Nat.le_refl _) 5 (strOfNums [(y : Int)])))
            go_simp
            refine hK.out _ _ L2.out.cells (fun hHeld => ?_)
            clear hK K
            try simp only [Act.put, List.setIfInBounds_toArray, List.set_cons_zero, List.set_cons_succ]
            refine wpAnyH_ready (rs := [7, 8]) (by kernel_rfl) (by simp) ?_
            refine AllReadyH.cons (o := _) rfl (fun K hK => ?_) ?_
            · go_simp
              refine (HG.out _ _ _ _ (HW.out.below L2.out.wi.bl) (first_bytes _ y hy)).mono ?_
              rintro e w4 ⟨rfl, hb⟩
              have L3 := Lib.hid (L2.out.below hb)
              clear hb
              go_wp2_with fail
              refine hK.out _ _ L3.out.cells (fun hHeld => ?_)
              clear hK K
              try simp only [Act.put, List.setIfInBounds_toArray, List.set_cons_zero, List.set_cons_succ]
              refine wpAnyH_ready (rs := [8]) (by kernel_rfl) (by simp) ?_
              refine AllReadyH.cons (o := _) rfl (fun K hK => ?_) ?_
              · go_simp
                refine hK.out _ _ (L3.out.alloc _).cells (fun hHeld => ?_)
                clear hK K
                try simp only [Act.put, List.setIfInBounds_toArray, List.set_cons_zero, List.set_cons_succ]
                refine wpAnyH_ready (rs := [9]) (by kernel_rfl) (by simp) ?_
                refine AllReadyH.cons (o := _) rfl (fun K hK => ?_) ?_
                · go_simp
                  refine hK.out _ _ (L3.out.alloc _).cells (fun hHeld => ?_)
                  clear hK K
                  try simp only [Act.put, List.setIfInBounds_toArray, List.set_cons_zero, List.set_cons_succ]
                  refine wpAnyH_done (by kernel_rfl) ?_ _
                  go_wp2_with fail
                  go_meet
                  exact ⟨_, rfl, L3.out.alloc _, heap_alloc_new w4 _⟩
                exact AllReadyH.nil
              exact AllReadyH.nil
            refine AllReadyH.cons (o := _) rfl (fun K hK => ?_) ?_
            · go_simp
              have L3 := Lib.hid (L2.out.alloc (.cells #[.int .i64 0, .int .i64 0, .int .i64 0, .int .i32 0, .int .i32 0, .int .i64 0, .int .i64 0, .int .u32 0, .int .i32 0] 34))
              refine hK.out _ _ L3.out.cells (fun hHeld => ?_)
              clear hK K
              try simp only [Act.put, List.setIfInBounds_toArray, List.set_cons_zero, List.set_cons_succ]
              refine wpAnyH_ready (rs := [7]) (by kernel_rfl) (by simp) ?_
              refine AllReadyH.cons (o := _) rfl (fun K hK => ?_) ?_
              · go_simp
                refine (HG.out _ _ _ _ (HW.out.below L3.out.wi.bl) ((first_bytes _ y hy).below ((Below.refl _ _).alloc (Nat.le_refl _) _))).mono ?_
                rintro e w4 ⟨rfl, hb⟩
                have L4 := Lib.hid (L3.out.below hb)
                have H8 := (hb.block _ (by simp)).trans (heap_alloc_new _ _)
                clear hb
                go_wp2_with fail
                refine hK.out _ _ L4.out.cells (fun hHeld => ?_)
                clear hK K
                try simp only [Act.put, List.setIfInBounds_toArray, List.set_cons_zero, List.set_cons_succ]
                refine wpAnyH_ready (rs := [9]) (by kernel_rfl) (by simp) ?_
                refine AllReadyH.cons (o := _) rfl (fun K hK => ?_) ?_
                · rw [if_pos (by rfl)]
                  refine wp_store_row 34 _ _ rfl _ #[.int .i64 0, .int .i64 1, .int .i64 gk1, .int .i32 gx, .int .i32 gy, .int .i64 0, .int .i64 0, .int .u32 0, .int .i32 gh] rfl rfl 34 _ H8 (by kernel_rfl) rfl (by simp [Value.oneCell']) ?_
                  try simp only [List.getElem_toArray, List.getElem_cons_succ, List.getElem_cons_zero, Act.put]
                  have L5 := Lib.hid (L4.out.setg H8 L2.out.sz #[.int .i64 0, .int .i64 1, .int .i64 gk1, .int .i32 gx, .int .i32 gy, .int .i64 0, .int .i64 0, .int .u32 0, .int .i32 gh])
                  refine hK.out _ _ L5.out.cells (fun hHeld => ?_)
                  clear hK K
                  try simp only [Act.put, List.setIfInBounds_toArray, List.set_cons_zero, List.set_cons_succ]
                  refine wpAnyH_done (by kernel_rfl) ?_ _
                  go_wp2_with fail
                  go_meet
                  exact ⟨_, rfl, L5.out, setRow_heap _ _ _ _ _ _ H8⟩
                exact AllReadyH.nil
              exact AllReadyH.nil
            exact AllReadyH.nil
          refine AllReadyH.cons (o := _) rfl (fun K hK => ?_) ?_
          · go_simp
            have L2 := Lib.hid (L1.out.alloc (.cells #[.int .i64 0, .int .i64 0, .int .i64 0, .int .i32 0, .int .i32 0, .int .i64 0, .int .i64 0, .int .u32 0, .int .i32 0] 34))
            refine hK.out _ _ L2.out.cells (fun hHeld => ?_)
            clear hK K
            try simp only [Act.put, List.setIfInBounds_toArray, List.set_cons_zero, List.set_cons_succ]
            refine wpAnyH_ready (rs := [6]) (by kernel_rfl) (by simp) ?_
            refine AllReadyH.cons (o := _) rfl (fun K hK => ?_) ?_
            · have L3 := Lib.hid (L2.out.below (below_bytes (Below.refl _ _) (Nat.le_refl _) 5 (strOfNums [(y : Int)])))
              have H8 : (Lib.bytesWorld (wr.drew.alloc (.cells #[.int .i64 0, .int .i64 0, .int .i64 0, .int .i32 0, .int .i32 0, .int .i64 0, .int .i64 0, .int .u32 0, .int .i32 0] 34)) 5 (strOfNums [(y : Int)])).heap[wr.heap.size]? = some (.cells #[.int .i64 0, .int .i64 0, .int .i64 0, .int .i32 0, .int .i32 0, .int .i64 0, .int .i64 0, .int .u32 0, .int .i32 0] 34) := (Lib.bytesWorld_at_old _ 5 _ wr.heap.size (by rw [World.size_alloc]; exact Nat.lt_succ_self _)).trans (heap_alloc_new wr.drew _)
              go_simp
              refine hK.out _ _ L3.out.cells (fun hHeld => ?_)
              clear hK K
              try simp only [Act.put, List.setIfInBounds_toArray, List.set_cons_zero, List.set_cons_succ]
              refine wpAnyH_ready (rs := [7]) (by kernel_rfl) (by simp) ?_
              refine AllReadyH.cons (o := _) rfl (fun K hK => ?_) ?_
              · go_simp
                have hF := first_bytes (wr.drew.alloc (.cells #[.int .i64 0, .int .i64 0, .int .i64 0, .int .i32 0, .int .i32 0, .int .i64 0, .int .i64 0, .int .u32 0, .int .i32 0] 34)) y hy
                rw [World.size_alloc] at hF
                refine (HG.out _ _ _ _ (HW.out.below L3.out.wi.bl) hF).mono ?_
                rintro e w4 ⟨rfl, hb⟩
                have L4 := Lib.hid (L3.out.below hb)
                have H9 := (hb.block _ (Array.getElem?_eq_some_iff.1 H8).1).trans H8
                clear hb
                go_wp2_with fail
                refine hK.out _ _ L4.out.cells (fun hHeld => ?_)
                clear hK K
                try simp only [Act.put, List.setIfInBounds_toArray, List.set_cons_zero, List.set_cons_succ]
                refine wpAnyH_ready (rs := [9]) (by kernel_rfl) (by simp) ?_
                refine AllReadyH.cons (o := _) rfl (fun K hK => ?_) ?_
                · rw [if_pos (by rfl)]
                  refine wp_store_row 34 _ _ rfl _ #[.int .i64 0, .int .i64 1, .int .i64 gk1, .int .i32 gx, .int .i32 gy, .int .i64 0, .int .i64 0, .int .u32 0, .int .i32 gh] rfl rfl 34 _ H9 (by kernel_rfl) rfl (by simp [Value.oneCell']) ?_
                  try simp only [List.getElem_toArray, List.getElem_cons_succ, List.getElem_cons_zero, Act.put]
                  have L5 := Lib.hid (L4.out.setg H9 L1.out.sz #[.int .i64 0, .int .i64 1, .int .i64 gk1, .int .i32 gx, .int .i32 gy, .int .i64 0, .int .i64 0, .int .u32 0, .int .i32 gh])
                  refine hK.out _ _ L5.out.cells (fun hHeld => ?_)
                  clear hK K
                  try simp only [Act.put, List.setIfInBounds_toArray, List.set_cons_zero, List.set_cons_succ]
                  refine wpAnyH_done (by kernel_rfl) ?_ _
                  go_wp2_with fail
                  go_meet
                  exact ⟨_, rfl, L5.out, setRow_heap _ _ _ _ _ _ H9⟩
                exact AllReadyH.nil
              exact AllReadyH.nil
            exact AllReadyH.nil
          exact AllReadyH.nil
        case rest =>
          obtain ⟨p, rfl, hL, hGp⟩ := hcut
          have LL := Lib.hid hL
          have GP := Lib.hid hGp
          have HFT := Lib.hid (fun W => fits_calls 0 0 0 gh W)
          rw [fit_of HH.out] at HFT
          clear hL hGp
          rcases f3 with rfl | rfl | rfl
          · obtain ⟨ca0, cb0, cc0, cd0, ce0, cf0, cg0, ch0, ci0⟩ := gcells GP.out
            go_wp2_with fail
            refine (HFT.out _).mono ?_
            rintro e w5 ⟨rfl, hb⟩
            have LL1 := Lib.hid (LL.out.below hb)
            have GP1 := Lib.hid ((hb.block _ (Array.getElem?_eq_some_iff.1 GP.out).1).trans GP.out)
            clear hb
            clear ca0 cb0 cc0 cd0 ce0 cf0 cg0 ch0 ci0
            obtain ⟨ca1, cb1, cc1, cd1, ce1, cf1, cg1, ch1, ci1⟩ := gcells GP1.out
            go_wp2_with (refine wpList_store_row rfl 25 (.tmp 10) _ rfl q #[.int .i64 0, .int .i64 0, .int .u32 0, .int .i32 gh] rfl rfl 25 _ LL1.out.st (by kernel_rfl) rfl (by simp [Value.oneCell']) ?_)
            go_roundg g2
            case measure => omega
            case rel => exact ⟨j + 1, got, gh, by omega, by go_num, Lib.hid (by rw [H3.out]; simp [outG]), HH, by (try simp only [List.length_append, List.length_cons, List.length_nil]); omega, Lib.hid (LL1.out.turn gh)⟩
          · obtain ⟨ca0, cb0, cc0, cd0, ce0, cf0, cg0, ch0, ci0⟩ := gcells GP.out
            go_wp2_with fail
            refine (HFT.out _).mono ?_
            rintro e w5 ⟨rfl, hb⟩
            have LL1 := Lib.hid (LL.out.below hb)
            have GP1 := Lib.hid ((hb.block _ (Array.getElem?_eq_some_iff.1 GP.out).1).trans GP.out)
            clear hb
            clear ca0 cb0 cc0 cd0 ce0 cf0 cg0 ch0 ci0
            obtain ⟨ca1, cb1, cc1, cd1, ce1, cf1, cg1, ch1, ci1⟩ := gcells GP1.out
            have HO1 := Lib.hid (LL1.out.alloc (.cells #[.int .i32 gx] 21))
            go_wp2_with (at_builtin; go_loud (refine wpList_append_own _ rfl _ _ 38 rfl B 21 i0 (.int .i32 0) 1 4 Tryd.underlying38 hi hz0 hz1 hz2 rfl (by decide) _ _ _ rfl HO1.out.own ⟨w5.heap.size, 0, none⟩ 1 1 [.int .i32 gx] rfl rfl (fun j u hj => one_new _ _ _ hj) (by simp [Value.oneCell']) (by unfold maxLen; (try simp only [List.length_append, List.length_cons, List.length_nil]); omega) (by (try simp only [List.length_append, List.length_cons, List.length_nil]); omega) (by have := HO1.out.sz; exact this) ?_))
            intro v6 w6 hown hgrow _
            have LL2 := Lib.hid (HO1.out.grown (y := gx) (by simpa using hown) hgrow)
            have GP2 := Lib.hid (HO1.out.keeps ((Below.heap_alloc _ _ _ (Array.getElem?_eq_some_iff.1 GP1.out).1).trans GP1.out) (by decide) hgrow)
            clear hown hgrow
            clear ca1 cb1 cc1 cd1 ce1 cf1 cg1 ch1 ci1
            obtain ⟨ca2, cb2, cc2, cd2, ce2, cf2, cg2, ch2, ci2⟩ := gcells GP2.out
            go_wp2_with (refine wpList_store_row rfl 25 (.tmp 10) _ rfl q #[.int .i64 0, .int .i64 0, .int .u32 0, .int .i32 gh] rfl rfl 25 _ LL2.out.st (by kernel_rfl) rfl (by simp [Value.oneCell']) ?_)
            go_roundg g2
            case measure => omega
            case rel => exact ⟨j + 1, (got ++ [gx]), gh, by omega, by go_num, Lib.hid (by rw [H3.out]; simp [outG]), HH, by (try simp only [List.length_append, List.length_cons, List.length_nil]); omega, Lib.hid (LL2.out.turn gh)⟩
          · obtain ⟨ca0, cb0, cc0, cd0, ce0, cf0, cg0, ch0, ci0⟩ := gcells GP.out
            go_wp2_with fail
            refine (HFT.out _).mono ?_
            rintro e w5 ⟨rfl, hb⟩
            have LL1 := Lib.hid (LL.out.below hb)
            have GP1 := Lib.hid ((hb.block _ (Array.getElem?_eq_some_iff.1 GP.out).1).trans GP.out)
            clear hb
            clear ca0 cb0 cc0 cd0 ce0 cf0 cg0 ch0 ci0
            obtain ⟨ca1, cb1, cc1, cd1, ce1, cf1, cg1, ch1, ci1⟩ := gcells GP1.out
            have HO1 := Lib.hid (LL1.out.alloc (.cells #[.int .i32 gx] 21))
            go_wp2_with (at_builtin; go_loud (refine wpList_append_own _ rfl _ _ 38 rfl B 21 i0 (.int .i32 0) 1 4 Tryd.underlying38 hi hz0 hz1 hz2 rfl (by decide) _ _ _ rfl HO1.out.own ⟨w5.heap.size, 0, none⟩ 1 1 [.int .i32 gx] rfl rfl (fun j u hj => one_new _ _ _ hj) (by simp [Value.oneCell']) (by unfold maxLen; (try simp only [List.length_append, List.length_cons, List.length_nil]); omega) (by (try simp only [List.length_append, List.length_cons, List.length_nil]); omega) (by have := HO1.out.sz; exact this) ?_))
            intro v6 w6 hown hgrow _
            have LL2 := Lib.hid (HO1.out.grown (y := gx) (by simpa using hown) hgrow)
            have GP2 := Lib.hid (HO1.out.keeps ((Below.heap_alloc _ _ _ (Array.getElem?_eq_some_iff.1 GP1.out).1).trans GP1.out) (by decide) hgrow)
            clear hown hgrow
            clear ca1 cb1 cc1 cd1 ce1 cf1 cg1 ch1 ci1
            obtain ⟨ca2, cb2, cc2, cd2, ce2, cf2, cg2, ch2, ci2⟩ := gcells GP2.out
            have HO2 := Lib.hid (LL2.out.alloc (.cells #[.int .i32 gy] 21))
            go_wp2_with (at_builtin; go_loud (refine wpList_append_own _ rfl _ _ 38 rfl B 21 i0 (.int .i32 0) 1 4 Tryd.underlying38 hi hz0 hz1 hz2 rfl (by decide) _ _ _ rfl HO2.out.own ⟨w6.heap.size, 0, none⟩ 1 1 [.int .i32 gy] rfl rfl (fun j u hj => one_new _ _ _ hj) (by simp [Value.oneCell']) (by unfold maxLen; (try simp only [List.length_append, List.length_cons, List.length_nil]); omega) (by (try simp only [List.length_append, List.length_cons, List.length_nil]); omega) (by have := HO2.out.sz; exact this) ?_))
            intro v7 w7 hown hgrow _
            have LL3 := Lib.hid (HO2.out.grown (y := gy) (by simpa using hown) hgrow)
            have GP3 := Lib.hid (HO2.out.keeps ((Below.heap_alloc _ _ _ (Array.getElem?_eq_some_iff.1 GP2.out).1).trans GP2.out) (by decide) hgrow)
            clear hown hgrow
            clear ca2 cb2 cc2 cd2 ce2 cf2 cg2 ch2 ci2
            obtain ⟨ca3, cb3, cc3, cd3, ce3, cf3, cg3, ch3, ci3⟩ := gcells GP3.out
            go_wp2_with (refine wpList_store_row rfl 25 (.tmp 10) _ rfl q #[.int .i64 0, .int .i64 0, .int .u32 0, .int .i32 gh] rfl rfl 25 _ LL3.out.st (by kernel_rfl) rfl (by simp [Value.oneCell']) ?_)
            go_roundg g2
            case measure => omega
            case rel => exact ⟨j + 1, ((got ++ [gx]) ++ [gy]), gh, by omega, by go_num, Lib.hid (by rw [H3.out]; simp [outG]), HH, by (try simp only [List.length_append, List.length_cons, List.length_nil]); omega, Lib.hid (LL3.out.turn gh)⟩
end Go.Proofs.YtadpmdlajfojiaaDoor
