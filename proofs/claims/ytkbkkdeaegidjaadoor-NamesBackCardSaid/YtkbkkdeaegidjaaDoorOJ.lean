/- The walk of NamesBack. -/
import Derived.Test.YtkbkkdeaegidjaaDoorOI
import Derived.Deep.RegionHeldLaw
namespace Go.Proofs.YtkbkkdeaegidjaaDoor
open Go.RowKit
theorem b_keep {w X Y : World} {g : Nat} {l : List ByteArray} {c : ByteArray} (h : X.cell? ⟨g, 0, none⟩ = some (.string c) ∧ AInv w X g l) (hb : Below X.heap.size X Y) : Y.cell? ⟨g, 0, none⟩ = some (.string c) ∧ AInv w Y g l :=
  ⟨(hb.cell (p := ⟨g, 0, none⟩) (block_lt_of_cell h.1)).trans h.1, h.2.below hb⟩
/-- What the turns ask for. -/
def turnF (n : Nat) (f : Nat → Bool) : Nat → Bool := fun j => decide (j < n) && f j
set_option maxRecDepth 100000 in
set_option maxHeartbeats 6400000 in
theorem back_calls (kind : Int) (t i : Bool) (A : Option Addr) (n cap : Nat) (f : Nat → Bool) (w : World) (hw : MaxAt w) (hx : SlB w A n f) :
    Calls Tryd.prog 3 #[.int .i64 kind, .bool t, .bool i, .slice A n cap] w fun e w' => e = .returned (.bool true) ∧ Below w.heap.size w w' := by
  have HWK := Lib.hid works_calls
  have HW := Lib.hid hw
  have HX := Lib.hid hx
  have hcb := fun (s : ByteArray) (w : World) => Lib.run_convert_string_bytes (P := Tryd.prog) w 9 35 5 s Tryd.underlying9 Tryd.underlying35 Tryd.underlying5
  clear hw hx
  go_enter Tryd.func3, Tryd.ntmps3
  go_wp2_with fail
  refine (HWK.out _ HW.out).mono ?_
  rintro e w1 ⟨rfl, hb⟩
  have B1 := Lib.hid hb
  clear hb
  go_wp2_with fail
  refine (kinds_calls _).mono ?_
  rintro e w2 ⟨gk, capk, hg, rfl, ho, hb⟩
  have B2 := Lib.hid (below_then B1.out B1.out.size hb)
  have K2 := Lib.hid (Joins.ownsRow_le ho (Nat.zero_le _))
  clear hb ho hg
  obtain ⟨j, hj, hjk⟩ := kind_at kind
  have hj0 : (0 : Int) ≤ (j : Int) := by omega
  have hj1 : (j : Int) < 56 := by omega
  obtain ⟨⟨kd, nm⟩, ht⟩ : ∃ t, nameT[j]? = some t := ⟨_, List.getElem?_eq_getElem (show j < nameT.length by rw [nameT_len]; omega)⟩
  have hkl : kindsL[j]? = some kd := by unfold kindsL; rw [List.getElem?_map, ht]; rfl
  have c1 := row_cells K2.out hkl
  have hkd : kd ≠ 0 := of_decide_eq_true (List.all_eq_true.1 kinds_fit _ (List.mem_of_getElem? ht))
  have hal : aliL kd ≠ [] := of_decide_eq_true (List.all_eq_true.1 ali_kinds _ (List.mem_of_getElem? ht))
  have HPR := Lib.hid (print_calls kd t i)
  have HPA := Lib.hid (fun w hw => by have := parse_any (printL kd t i) w hw; rwa [parse_print hal hkd t i] at this)
  have HAL := Lib.hid (ali_some kd _ rfl hal)
  have HLO := Lib.hid (fun c (hc : c ∈ aliL kd) g => found_low hc hkd g)
  have HPL := Lib.hid (fun c (hc : c ∈ aliL kd) g => parse_low hc hkd g)
  have HSZ := Lib.hid (fun c (hc : c ∈ aliL kd) => (ali_mem hc).2.2)
  have HNM := Lib.hid (name_calls kd)
  obtain ⟨pr, hpr⟩ : ∃ pr, printL kd t i = pr := ⟨_, rfl⟩
  rw [hpr] at HPR HPA
  unfold wishV wishC at HPA
  obtain ⟨c0, r, hl⟩ := len_pos hal
  have hnm : nameL kd = c0 := by unfold nameL; rw [hl]; rfl
  have hlen5 := ali_len kd
  rw [hnm] at HNM
  obtain ⟨l, hll⟩ : ∃ l, aliL kd = l := ⟨_, rfl⟩
  rw [hll] at HAL HLO HPL HSZ hl hlen5
  have hl0 : l[0]? = some c0 := by rw [hl]; rfl
  have hl1 : 0 < l.length := by rw [hl]; simp
  have HL0 := Lib.hid hl0
  clear ht hkl hkd hal hpr hll hl hl0 hnm
  have R3 := Lib.hid (heap_alloc_new w2 (.cells #[.int .i64 kd, .bool t, .bool i] 28))
  have B3 := Lib.hid (B2.out.alloc B2.out.size (.cells #[.int .i64 kd, .bool t, .bool i] 28))
  go_wp2_with fail
  refine (HPR.out _ (HW.out.below B3.out)).mono ?_
  rintro e w4 ⟨rfl, hb⟩
  have B4 := Lib.hid (below_then B3.out B3.out.size hb)
  have R4 := Lib.hid ((hb.block _ (by simp)).trans R3.out)
  have z4 := Lib.hid (Array.getElem?_eq_some_iff.1 R4.out).1
  clear hb c1
  go_wp2_with fail
  refine (HPA.out _ (HW.out.below B4.out)).mono ?_
  rintro e w5 ⟨rfl, hb⟩
  have B5 := Lib.hid (below_then B4.out B4.out.size hb)
  have R5 := Lib.hid ((hb.block _ z4.out).trans R4.out)
  have z5 : w2.heap.size < w5.heap.size := (Array.getElem?_eq_some_iff.1 R5.out).1
  clear hb
  obtain ⟨y0, y1, y2, g0, g1, g2⟩ := three_at ((heap_alloc_old w5 (.cells #[.int .i64 kd, .bool t, .bool i] 28) z5).trans R5.out)
  have B6 := Lib.hid (B5.out.alloc B5.out.size (.cells #[.int .i64 kd, .bool t, .bool i] 28))
  go_wp2_with fail
  refine (HAL.out _ (HW.out.below B6.out)).mono ?_
  rintro e w6 ⟨ga, hga, rfl, hrow, hb⟩
  have I6 := Lib.hid (show AInv w w6 ga l from ⟨below_then B6.out B6.out.size hb, by have := B6.out.size; omega, hrow⟩)
  clear hga hrow hb y0 y1 y2 g0 g1 g2
  obtain ⟨N, hN⟩ : ∃ N, l.length = N := ⟨_, rfl⟩
  rw [hN] at hlen5 hl1 ⊢
  have HN := Lib.hid hN
  clear hN z5 hj hjk hj0 hj1
  go_wp2_with fail
  go_loopg [14] N (fun gg vi wr => ∃ k : Nat, k + gg = N ∧ vi = .int .i64 (k : Int) ∧ Hid (AInv w wr ga l))
  case atStart => exact ⟨0, by omega, rfl, I6⟩
  case round =>
    obtain ⟨k, hk, rfl, HI⟩ := hrel
    obtain ⟨wo, hwo⟩ : ∃ wo, wo = wr := ⟨_, rfl⟩
    subst hwo
    cases gk with
    | zero =>
      have hkz : ¬ ((k : Int) < (N : Int)) := by omega
      have hd : decide (0 < N) = true := decide_eq_true hl1
      go_wp2_with fail
      go_ret
      exact ⟨rfl, HI.out.bl⟩
    | succ gg =>
      have hkz : (k : Int) < (N : Int) := by omega
      have hk0 : (0 : Int) ≤ (k : Int) := by omega
      obtain ⟨c, hc⟩ : ∃ c, l[k]? = some c := ⟨_, List.getElem?_eq_getElem (by rw [HN.out]; omega)⟩
      have c1 := ali_cell HI.out.row hc
      have hsz := HSZ.out c (List.mem_of_getElem? hc)
      have HCM := Lib.hid (List.mem_of_getElem? hc)
      clear hc
      go_wp2_with fail
      go_loopg [16] c.size (fun gg vi wx => ∃ m : Nat, m + gg = c.size ∧ vi = .int .i64 (m : Int) ∧ Hid (MInv wo wx c (turnF n f) m))
      case atStart => exact ⟨0, by omega, rfl, Lib.hid (MInv.start wo c _)⟩
      case round =>
        obtain ⟨m, hm, rfl, HM⟩ := hrel
        cases gk with
        | zero =>
          have hmz : ¬ ((m : Int) < (c.size : Int)) := by omega
          have hcv := fun cap => run_convert_bytes_arg (P := Tryd.prog) wr 35 5 Tryd.underlying35 Tryd.underlying5 wo.heap.size 0 c.size cap (lowL c (turnF n f)) (lowL_len _ _) (HM.out.all (by omega)) 9 Tryd.underlying9
          have HLK := Lib.hid (fun w => by have := lookup_str (lowB c (turnF n f)) (by rw [lowB_size]; omega) w; rwa [HLO.out c HCM.out (turnF n f)] at this)
          have HPB := Lib.hid (fun w hw => by have := parse_any (lowB c (turnF n f)) w hw; rwa [HPL.out c HCM.out (turnF n f)] at this)
          obtain ⟨S, hS⟩ : ∃ S, lowB c (turnF n f) = S := ⟨_, rfl⟩
          rw [hS] at HLK HPB
          rw [show strOfNums (lowL c (turnF n f)) = S from hS] at hcv
          unfold twoV at HLK
          unfold wishV wishC at HPB
          have IX := Lib.hid (HI.out.below HM.out.bl)
          have HS := Lib.hid hS
          clear c1 hS
          go_wp2_with fail
          refine (HLK.out _).mono ?_
          rintro e w7 ⟨rfl, hb⟩
          have I7 := Lib.hid (IX.out.below hb)
          have hcv2 := fun cap => run_convert_bytes_arg (P := Tryd.prog) w7 35 5 Tryd.underlying35 Tryd.underlying5 wo.heap.size 0 c.size cap (lowL c (turnF n f)) (lowL_len _ _) (fun i hi => (hb.cell (p := ⟨wo.heap.size, 0 + i, none⟩) (block_lt_of_cell (HM.out.all (by omega) i hi))).trans (HM.out.all (by omega) i hi)) 9 Tryd.underlying9
          rw [show strOfNums (lowL c (turnF n f)) = S from HS.out] at hcv2
          clear hb hcv
          go_wp2_with fail
          refine (HPB.out _ (HW.out.below I7.out.bl)).mono ?_
          rintro e w8 ⟨rfl, hb⟩
          have I8 := Lib.hid ((I7.out.below hb).below ((Below.refl _ w8).alloc (Nat.le_refl _) (.cells #[.int .i64 kd, .bool false, .bool false] 28)))
          have hN0 : (0 : Int) < (N : Int) := by omega
          clear hb hcv2
          go_wp2_with fail
          obtain ⟨X, hX⟩ : ∃ X, w8.alloc (.cells #[.int .i64 kd, .bool false, .bool false] 28) = X := ⟨_, rfl⟩
          rw [hX] at I8 ⊢
          clear hX
          have S3 : X.drew.cell? ⟨ga, 0, none⟩ = some (.string c0) ∧ AInv w X.drew ga l := ⟨ali_cell I8.out.drew.row HL0.out, I8.out.drew⟩
          first
            | (go_region_held_law (fun X => X.cell? ⟨ga, 0, none⟩ = some (.string c0) ∧ AInv w X ga l)
                ((first | exact S3 | exact S4))
                (first | (go_at_call 14; refine (HNM.out _ (HW.out.below S3.2.bl)).mono ?_; rintro e w9 ⟨rfl, hb⟩; have S4 := (b_keep S3 hb : w9.cell? ⟨ga, 0, none⟩ = some (.string c0) ∧ AInv w w9 ga l); clear hb) | fail))
            | fail
          all_goals
            have I9 := Lib.hid S4.2
            clear S3 S4
            go_wp2_with fail
            go_roundg gg
            case measure => omega
            case rel => exact ⟨k + 1, by omega, by go_num, I9⟩
        | succ g2 =>
          have hmz : (m : Int) < (c.size : Int) := by omega
          have hm0 : (0 : Int) ≤ (m : Int) := by omega
          have hmb : (m : Int) ≤ 140737488351232 := by omega
          obtain ⟨cx, fx⟩ := HM.out.cell (by omega)
          obtain ⟨hx0, hx1⟩ := byte_range c m
          obtain ⟨x, hx⟩ : ∃ x, (bytesL c).getD m 0 = x := ⟨_, rfl⟩
          have HXX := Lib.hid hx
          rw [hx] at cx hx0 hx1
          clear hx c1
          by_cases q1 : 65 ≤ x
          · have q1d : decide (65 ≤ x) = true := decide_eq_true q1
            by_cases q2 : x ≤ 90
            · have q2d : decide (x ≤ 90) = true := decide_eq_true q2
              by_cases q3 : m < n
              · have q3i : (m : Int) < (n : Int) := by omega
                have q3d : decide (m < n) = true := decide_eq_true q3
                obtain ⟨hnm, hT⟩ := HX.out.below (HI.out.bl.trans (HM.out.bl.mono HI.out.bl.size))
                rcases hT with ⟨rfl, rfl⟩ | ⟨ad, rfl, hT⟩
                · omega
                have ct := hT m q3
                clear hT hnm
                obtain ⟨b, hb⟩ : ∃ b, f m = b := ⟨_, rfl⟩
                rw [hb] at ct
                have HTF := Lib.hid (show turnF n f m = b by unfold turnF; rw [q3d, hb]; rfl)
                clear hb
                cases b with
                | true =>
                  have q5 : IntKind.u8.wrap (x + 32) = x + 32 := by rw [IntKind.wrap_u8]; omega
                  go_wp2_with fail
                  go_roundg g2
                  case measure => omega
                  case rel => exact ⟨m + 1, by omega, by go_num, Lib.hid (HM.out.set (by omega) (by rw [HXX.out, HTF.out]; exact low_on q1 q2))⟩
                | false =>
                  go_wp2_with fail
                  go_roundg g2
                  case measure => omega
                  case rel => exact ⟨m + 1, by omega, by go_num, Lib.hid (HM.out.keep (by rw [HXX.out, HTF.out]; exact low_off (by simp)))⟩
              · have q3i : ¬ ((m : Int) < (n : Int)) := by omega
                have q3d : decide (m < n) = false := decide_eq_false q3
                have HTF := Lib.hid (show turnF n f m = false by unfold turnF; rw [q3d]; rfl)
                go_wp2_with fail
                go_roundg g2
                case measure => omega
                case rel => exact ⟨m + 1, by omega, by go_num, Lib.hid (HM.out.keep (by rw [HXX.out, HTF.out]; exact low_off (by simp)))⟩
            · have q2d : decide (x ≤ 90) = false := decide_eq_false q2
              go_wp2_with fail
              go_roundg g2
              case measure => omega
              case rel => exact ⟨m + 1, by omega, by go_num, Lib.hid (HM.out.keep (by rw [HXX.out]; exact low_off (fun h => absurd h.2.1 (by omega))))⟩
          · have q1d : decide (65 ≤ x) = false := decide_eq_false q1
            go_wp2_with fail
            go_roundg g2
            case measure => omega
            case rel => exact ⟨m + 1, by omega, by go_num, Lib.hid (HM.out.keep (by rw [HXX.out]; exact low_off (fun h => absurd h.1 (by omega))))⟩
end Go.Proofs.YtkbkkdeaegidjaaDoor
