/- The reference's Find. -/
import Derived.Test.YtkbkkdeaegidjaaDoorNR
import Derived.Test.YtkbkkdeaegidjaaDoorNH
import Derived.Deep.RegionHeld3
namespace Go.Proofs.YtkbkkdeaegidjaaDoor
open Go.RowKit
theorem ali_ents : nameT.all (fun t => decide (aliL t.1 = splitBlank t.2) && decide ((splitBlank t.2).length ≠ 0) && decide (t.1 ≠ 0) && decide ((nameL t.1).size ≠ 0)) = true := by decide +kernel
def findI (s : ByteArray) : Int := match findE s with
  | some t => t.1
  | none => 0
structure FdInv (w W : World) (gk cap : Nat) : Prop where
  bl : Below w.heap.size w W
  ks : W.ownsRow 0 3 1 (.slice (some ⟨gk, 0, none⟩) 56 cap) 56 (kindsL.map (Value.int .i64))
theorem FdInv.below {w W X : World} {gk cap : Nat} (h : FdInv w W gk cap) (hb : Below W.heap.size W X) : FdInv w X gk cap := ⟨below_then h.bl h.bl.size hb, own_lt h.ks hb⟩
theorem FdInv.drew {w W : World} {gk cap : Nat} (h : FdInv w W gk cap) : FdInv w W.drew gk cap := ⟨h.bl.drew, h.ks⟩
theorem FdInv.drewN {w W : World} {gk cap : Nat} (h : FdInv w W gk cap) (n : Nat) : FdInv w (W.drewN n) gk cap := ⟨below_drewN h.bl n, h.ks⟩
theorem hasN_step {l : List ByteArray} {j : Nat} {c y : ByteArray} (hc : l[j]? = some c) : hasN (l.drop j) y = (decide (c = y) || hasN (l.drop (j + 1)) y) := by
  unfold hasN
  rw [Lib.drop_at hc]
  rfl
set_option maxRecDepth 100000 in
set_option maxHeartbeats 3200000 in
theorem find_calls (s : ByteArray) (hs : s.size ≤ 140737488351232) (w : World) : Calls Tryd.prog 19 #[.string s] w fun e w' => e = .returned (.int .i64 (findI s)) ∧ Below w.heap.size w w' := by
  have HL := Lib.hid (rlarge_calls s hs)
  go_enter Tryd.func19, Tryd.ntmps19
  go_wp2_with fail
  refine (rkinds_calls _).mono ?_
  rintro e w1 ⟨gz, cap, hg, rfl, ho, hb⟩
  have I1 := Lib.hid (show FdInv w w1 gz cap from ⟨hb, Joins.ownsRow_le ho (Nat.zero_le _)⟩)
  clear hg ho hb
  go_wp2_with fail
  go_loopg [4] 56 (fun gg i wr => ∃ k : Nat, k + gg = 56 ∧ i = .int .i64 (k : Int) ∧ Hid (FdInv w wr gz cap) ∧ Hid (∀ j t, j < k → nameT[j]? = some t → hasN (splitBlank t.2) (largeB s) = false))
  case atStart => exact ⟨0, rfl, rfl, I1, Lib.hid (fun j t h => by omega)⟩
  case round =>
    obtain ⟨k, hk, rfl, HI, HNO⟩ := hrel
    cases gk with
    | zero =>
      obtain rfl : k = 56 := by omega
      have HF := Lib.hid (show findI s = 0 by unfold findI; rw [find_none HNO.out])
      go_wp2_with fail
      go_ret
      exact ⟨by rw [HF.out]; rfl, HI.out.bl⟩
    | succ gg =>
      have hkz : (k : Int) < 56 := by omega
      have hk0 : (0 : Int) ≤ (k : Int) := by omega
      obtain ⟨⟨kd, nm⟩, ht⟩ : ∃ t, nameT[k]? = some t := ⟨_, List.getElem?_eq_getElem (show k < nameT.length by rw [nameT_len]; omega)⟩
      have hx : kindsL[k]? = some kd := by unfold kindsL; rw [List.getElem?_map, ht]; rfl
      have c1 := row_cells HI.out.ks hx
      have hall := List.all_eq_true.1 ali_ents _ (List.mem_of_getElem? ht)
      simp only [Bool.and_eq_true, decide_eq_true_eq] at hall
      obtain ⟨⟨⟨ha1, ha2⟩, ha3⟩, ha4⟩ := hall
      obtain ⟨l, hl⟩ : ∃ l, splitBlank nm = l := ⟨_, rfl⟩
      rw [hl] at ha1 ha2
      have HA := Lib.hid (rali_some kd l ha1 (fun h => ha2 (by rw [h]; rfl)))
      have HT := Lib.hid ht
      have HX := Lib.hid hx
      have HLL := Lib.hid hl
      have hlb : l.length ≤ 1000 := by
        have h8 : nameT.all (fun t => decide ((splitBlank t.2).length ≤ 1000)) = true := by decide +kernel
        have := of_decide_eq_true (List.all_eq_true.1 h8 _ (List.mem_of_getElem? ht))
        rw [hl] at this
        exact this
      clear ht hx hl ha1 ha2 ha3 ha4
      go_wp2_with fail
      refine (HA.out _).mono ?_
      rintro e w2 ⟨g, hg, rfl, hc, hb⟩
      have I2 := Lib.hid (HI.out.below hb)
      have hgl : g < w2.heap.size := (Array.getElem?_eq_some_iff.1 hc).1
      have HC := Lib.hid hc
      clear hg hc hb c1
      go_wp2_with fail
      go_loopg [6] l.length (fun g2 i2 wx => ∃ j : Nat, j + g2 = l.length ∧ i2 = .int .i64 (j : Int) ∧ Hid (FdInv w wx gz cap) ∧ Hid (wx.heap[g]? = some (.cells (l.map Value.string).toArray 9 (0, 0))) ∧ Hid (hasN l (largeB s) = hasN (l.drop j) (largeB s)))
      case atStart => exact ⟨0, by omega, rfl, I2, HC, Lib.hid rfl⟩
      case round =>
        obtain ⟨j, hj, rfl, HJ, HG, HS⟩ := hrel
        cases gk with
        | zero =>
          have hjz : ¬ ((j : Int) < (l.length : Int)) := by omega
          go_wp2_with fail
          go_roundg gg
          case measure => omega
          case rel =>
            refine ⟨k + 1, by omega, by go_num, HJ, Lib.hid fun j' t hj' hjt => ?_⟩
            rcases Nat.lt_or_ge j' k with h | h
            · exact HNO.out j' t h hjt
            · obtain rfl : j' = k := by omega
              rw [HT.out] at hjt
              cases hjt
              show hasN (splitBlank nm) _ = false
              rw [HLL.out, HS.out, List.drop_eq_nil_of_le (by omega)]
              rfl
        | succ g2 =>
          have hjz : (j : Int) < (l.length : Int) := by omega
          have hj0 : (0 : Int) ≤ (j : Int) := by omega
          obtain ⟨c, hc⟩ : ∃ c, l[j]? = some c := ⟨_, List.getElem?_eq_getElem (by omega)⟩
          have S3 : wr.drew.cell? ⟨g, j, none⟩ = some (.string c) := ali_cell (w := wr.drew) HG.out hc
          have HST := Lib.hid (show hasN l (largeB s) = (decide (c = largeB s) || hasN (l.drop (j + 1)) (largeB s)) by rw [HS.out, hasN_step hc])
          clear hc
          by_cases hx : c = largeB s
          · have hq : (c.toList == (largeB s).toList) = true := by rw [hx]; simp
            have HF := Lib.hid (show findI s = kd by
              have h1 : hasN (splitBlank nm) (largeB s) = true := by rw [HLL.out, HST.out, hx]; simp
              unfold findI
              rw [find_at HNO.out HT.out h1])
            clear hx
            go_wp2_with fail
            go_region_held3 (fun X => X.cell? ⟨g, j, none⟩ = some (.string c))
              ((first | exact S3 | exact S4))
              (first | (go_at_call 27; refine (HL.out _).mono ?_; rintro e w4 ⟨rfl, hb⟩; have I4 := Lib.hid (HJ.out.drew.below hb); have G4 := Lib.hid ((hb.block g (show g < wr.drew.heap.size from (Array.getElem?_eq_some_iff.1 HG.out).1)).trans (show wr.drew.heap[g]? = _ from HG.out)); have S4 : w4.cell? ⟨g, j, none⟩ = some (.string c) := (hb.cell (block_lt_of_cell S3)).trans S3; clear hb))
            have c1 := row_cells I4.out.ks HX.out
            go_wp2_with fail
            go_ret
            exact ⟨by rw [HF.out]; rfl, I4.out.bl⟩
          · have hq : (c.toList == (largeB s).toList) = false := by
              rw [beq_eq_false_iff_ne]
              intro e
              rw [Lib.toList_data, Lib.toList_data] at e
              exact hx (ByteArray.ext (Array.toList_inj.1 e))
            have HN := Lib.hid hx
            clear hx
            go_wp2_with fail
            go_region_held3 (fun X => X.cell? ⟨g, j, none⟩ = some (.string c))
              ((first | exact S3 | exact S4))
              (first | (go_at_call 27; refine (HL.out _).mono ?_; rintro e w4 ⟨rfl, hb⟩; have I4 := Lib.hid (HJ.out.drew.below hb); have G4 := Lib.hid ((hb.block g (show g < wr.drew.heap.size from (Array.getElem?_eq_some_iff.1 HG.out).1)).trans (show wr.drew.heap[g]? = _ from HG.out)); have S4 : w4.cell? ⟨g, j, none⟩ = some (.string c) := (hb.cell (block_lt_of_cell S3)).trans S3; clear hb))
            go_wp2_with fail
            go_roundg g2
            case measure => omega
            case rel => exact ⟨j + 1, by omega, by go_num, I4, G4, Lib.hid (by rw [HST.out]; simp [HN.out])⟩
end Go.Proofs.YtkbkkdeaegidjaaDoor
