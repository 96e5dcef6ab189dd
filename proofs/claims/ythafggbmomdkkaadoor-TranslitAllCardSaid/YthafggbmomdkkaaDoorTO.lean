/- The walk of TranslitShort. -/
import Derived.Test.YthafggbmomdkkaaDoorTN
import Derived.Lib.ConvBytes
namespace Go.Proofs.YthafggbmomdkkaaDoor
open Go.RowKit
/-- The list of a text's bytes. -/
def bytesL (s : ByteArray) : List Int := s.data.toList.map fun c => (c.toNat : Int)
theorem bytesL_len (s : ByteArray) : (bytesL s).length = s.size := by simp [bytesL]
theorem below_bytes {B : Nat} {w W : World} (h : Below B w W) (hB : B ≤ W.heap.size) (e : TypeId) (s : ByteArray) : Below B w (Lib.bytesWorld W e s) := by
  refine h.trans ⟨?_, ?_, ?_, by rw [Lib.bytesWorld_size]; omega, fun i hi => Lib.bytesWorld_at_old W e s i (by omega)⟩ <;> (simp [Lib.bytesWorld, World.freeze]; try rfl)
theorem sl_bytes (W : World) (s : ByteArray) (cap : Nat) (hs : s.size ≤ 1000) (hcap : s.size ≤ cap) : SlI .u8 (Lib.bytesWorld W 5 s) (some ⟨W.heap.size, 0, none⟩) s.size cap (bytesL s) := by
  refine ⟨bytesL_len s, by omega, hcap, fun x hx => ?_, .inr ⟨_, rfl, fun j hj => ?_⟩⟩
  · obtain ⟨c, _, rfl⟩ := List.mem_map.1 hx
    have := c.toNat_lt
    exact u8_wf (by omega) (by omega)
  · have e : ((⟨W.heap.size, 0, none⟩ : Addr).add j) = ⟨W.heap.size, j, none⟩ := by cases j <;> simp [Addr.add]
    rw [e, Lib.bytesWorld_cell W 5 s j hj]
    have hl : j < s.data.toList.length := by simpa using hj
    unfold bytesL
    simp [List.getD_eq_getElem?_getD, List.getElem?_map, List.getElem?_eq_getElem hl]
/-- What is asked of one candidate. -/
def shortB (u : Int) (c : ByteArray) : Bool := match decU ((bytesL c).length + 1) (bytesL c) with
  | some l => decide (1 ≤ l.length) && decide (l.length ≤ 4) && !l.contains u
  | none => false
theorem ent_short : entT.all (fun t => (splitBar t.2).all (shortB t.1) && decide ((splitBar t.2).Nodup)) = true := by decide +kernel
theorem wide_short : (List.range 94).all (fun k => shortB (65281 + (k : Int)) (byteS (65281 + (k : Int) - 65248))) = true := by decide +kernel
theorem cand_short (u : Int) : (∀ c ∈ candL u, shortB u c = true) ∧ (candL u).Nodup := by
  rcases cand_cases u with ⟨h, h0, h1⟩ | ⟨t, ht, rfl, h⟩ | h
  · rw [h]
    refine ⟨fun c hc => ?_, by simp⟩
    simp at hc
    subst hc
    have := List.all_eq_true.1 wide_short (u - 65281).toNat (List.mem_range.2 (by omega))
    rw [show 65281 + (((u - 65281).toNat : Nat) : Int) = u by omega] at this
    exact this
  · rw [h]
    have := List.all_eq_true.1 ent_short t ht
    simp only [Bool.and_eq_true, decide_eq_true_eq] at this
    exact ⟨fun c hc => List.all_eq_true.1 this.1 c hc, this.2⟩
  · rw [h]
    exact ⟨(fun c hc => by cases hc), List.nodup_nil⟩
theorem short_parts {u : Int} {c : ByteArray} (h : shortB u c = true) : ∃ l, decU ((bytesL c).length + 1) (bytesL c) = some l ∧ 1 ≤ l.length ∧ l.length ≤ 4 ∧ ∀ x ∈ l, x ≠ u := by
  unfold shortB at h
  split at h
  · rename_i l hl
    simp only [Bool.and_eq_true, decide_eq_true_eq, Bool.not_eq_true'] at h
    refine ⟨l, hl, h.1.1, h.1.2, fun x hx e => ?_⟩
    subst e
    rw [List.contains_iff_mem.2 hx] at h
    cases h.2
  · cases h
set_option maxRecDepth 100000 in
set_option maxHeartbeats 1600000 in
theorem short_nil (u : Int) (h : candL u = []) (w : World) (hw : MaxAt w) : Calls Tryd.prog 6 #[.int .i32 u] w fun e w' => e = .returned (.bool true) ∧ Below w.heap.size w w' := by
  have HA := Lib.hid (cand_none u h)
  have HK := Lib.hid works_calls
  have HW := Lib.hid hw
  clear h hw
  go_enter Tryd.func6, Tryd.ntmps6
  go_wp2_with fail
  refine (HK.out _ HW.out).mono ?_
  rintro e w1 ⟨rfl, hb⟩
  have B1 := Lib.hid hb
  clear hb
  go_wp2_with fail
  refine (HA.out _ (HW.out.below B1.out)).mono ?_
  rintro e w2 ⟨rfl, hb⟩
  have B2 := Lib.hid (below_then B1.out B1.out.size hb)
  clear hb
  go_wp2_with fail
  refine wp_loop_rounds 1 ?_
  rw [rounds_succ]
  go_wp2_with fail
  go_ret
  exact ⟨rfl, B2.out⟩
set_option maxRecDepth 100000 in
set_option maxHeartbeats 3200000 in
theorem short_some (u : Int) (l : List ByteArray) (h : candL u = l) (hl : l ≠ []) (w : World) (hw : MaxAt w) : Calls Tryd.prog 6 #[.int .i32 u] w fun e w' => e = .returned (.bool true) ∧ Below w.heap.size w w' := by
  have HA := Lib.hid (cand_some u l h hl)
  have HK := Lib.hid works_calls
  have HW := Lib.hid hw
  have HS := Lib.hid (show (∀ c ∈ l, shortB u c = true ∧ c.size ≤ 10) ∧ l.Nodup from ⟨fun c hc => ⟨(cand_short u).1 c (by rw [h]; exact hc), (cand_len u).2 c (by rw [h]; exact hc)⟩, by rw [← h]; exact (cand_short u).2⟩)
  have hlen : l.length ≤ 1000 := by have := (cand_len u).1; rw [h] at this; omega
  have hcb := fun (s : ByteArray) (w : World) => Lib.run_convert_string_bytes (P := Tryd.prog) w 9 35 5 s Tryd.underlying9 Tryd.underlying35 Tryd.underlying5
  clear h hw hl
  go_enter Tryd.func6, Tryd.ntmps6
  go_wp2_with fail
  refine (HK.out _ HW.out).mono ?_
  rintro e w0 ⟨rfl, hb⟩
  have B0 := Lib.hid hb
  clear hb
  go_wp2_with fail
  refine (HA.out _ (HW.out.below B0.out)).mono ?_
  rintro e w1 ⟨ga, hg, rfl, hc, hb⟩
  have I1 := Lib.hid (show FInv w w1 ga l from ⟨below_then B0.out B0.out.size hb, Nat.le_trans B0.out.size hg, hc⟩)
  clear hg hc hb
  go_wp2_with fail
  go_loopg [4] l.length (fun gg i wr => ∃ k : Nat, k + gg = l.length ∧ i = .int .i64 (k : Int) ∧ Hid (FInv w wr ga l))
  case atStart => exact ⟨0, by omega, rfl, I1⟩
  case round =>
    obtain ⟨k, hk, rfl, HI⟩ := hrel
    cases gk with
    | zero =>
      have hkz : ¬ ((k : Int) < (l.length : Int)) := by omega
      go_wp2_with fail
      go_ret
      exact ⟨rfl, HI.out.bl⟩
    | succ gg =>
      have hkz : (k : Int) < (l.length : Int) := by omega
      have hk0 : (0 : Int) ≤ (k : Int) := by omega
      obtain ⟨c, hc⟩ : ∃ c, l[k]? = some c := ⟨_, List.getElem?_eq_getElem (by omega)⟩
      have c1 := HI.out.cell hc
      have hcs := HS.out.1 c (List.mem_of_getElem? hc)
      obtain ⟨rl, hr1, hr2, hr3, hr4⟩ := short_parts hcs.1
      have hsz := hcs.2
      have HC := Lib.hid hc
      have HN := Lib.hid hr4
      have HSC := Lib.hid (fun cap (hcap : c.size ≤ cap) W => scal_calls (some ⟨W.heap.size, 0, none⟩) c.size cap (bytesL c) rl hr1 (by omega) (Lib.bytesWorld W 5 c) (sl_bytes W c cap (by omega) hcap))
      have I2 := Lib.hid (HI.out.below (below_bytes (Below.refl _ _) (Nat.le_refl _) 5 c))
      clear hc hcs hr1 hr4
      go_wp2_with fail
      refine (HSC.out _ (grownCap_ge _ _ _ _) _).mono ?_
      rintro e w2 ⟨v, rfl, ho, hb⟩
      obtain ⟨gr, capr, rfl⟩ := Joins.ownsRow_form ho (by omega)
      have I3 := Lib.hid (I2.out.below hb)
      have O3 := Lib.hid (Joins.ownsRow_le ho (Nat.zero_le _))
      clear ho hb
      have q1 : ¬ (rl.length < 1) := by omega
      have q2 : ¬ (4 < rl.length) := by omega
      have q3 : decide ((rl.length : Int) < 1) = false := decide_eq_false (by omega)
      have q4 : decide ((4 : Int) < (rl.length : Int)) = false := decide_eq_false (by omega)
      have q5 : decide (rl.length < 1) = false := decide_eq_false (by omega)
      have q6 : decide (4 < rl.length) = false := decide_eq_false (by omega)
      go_wp2_with fail
      go_loopg [8] rl.length (fun g2 i2 wx => ∃ m : Nat, m + g2 = rl.length ∧ i2 = .int .i64 (m : Int) ∧ w2 = wx)
      case atStart => exact ⟨0, by omega, rfl, rfl⟩
      case round =>
        obtain ⟨m, hm, rfl, rfl⟩ := hrel
        cases gk with
        | zero =>
          have hmz : ¬ ((m : Int) < (rl.length : Int)) := by omega
          go_wp2_with fail
          go_loopg [9] k (fun g3 i3 wx => ∃ j n : Nat, j + g3 = k ∧ i3 = .int .i64 (j : Int) ∧ wx = w2.drewN n)
          case atStart => exact ⟨0, 0, by omega, rfl, rfl⟩
          case round =>
            obtain ⟨j, n, hj, rfl, rfl⟩ := hrel
            cases gk with
            | zero =>
              have hjz : ¬ ((j : Int) < (k : Int)) := by omega
              go_wp2_with fail
              go_roundg gg
              case measure => omega
              case rel => exact ⟨k + 1, by omega, by go_num, Lib.hid (I3.out.drewN n)⟩
            | succ g3 =>
              have hjz : (j : Int) < (k : Int) := by omega
              have hj0 : (0 : Int) ≤ (j : Int) := by omega
              have hjl : (j : Int) < (l.length : Int) := by omega
              obtain ⟨c', hc'⟩ : ∃ c', l[j]? = some c' := ⟨_, List.getElem?_eq_getElem (by omega)⟩
              have x1 : (w2.drewN n).cell? ⟨ga, j, none⟩ = some (.string c') := (I3.out.drewN n).cell hc'
              have x2 : (w2.drewN n).cell? ⟨ga, k, none⟩ = some (.string c) := (I3.out.drewN n).cell HC.out
              have hne : (c'.toList == c.toList) = false := by
                rw [beq_eq_false_iff_ne]
                intro e
                have e2 : c' = c := by
                  rw [Lib.toList_data, Lib.toList_data] at e
                  exact ByteArray.ext (Array.toList_inj.1 e)
                have hlk : k < l.length := by omega
                have hlj : j < l.length := by omega
                have h3 := (List.pairwise_iff_getElem.1 HS.out.2) j k hlj hlk (by omega)
                have h4 := hc'
                have h5 := HC.out
                rw [List.getElem?_eq_getElem hlj] at h4
                rw [List.getElem?_eq_getElem hlk] at h5
                injection h4 with h4
                injection h5 with h5
                exact h3 (by rw [h4, h5, e2])
              clear hc'
              obtain ⟨X, hX⟩ : ∃ X, w2.drewN n = X := ⟨_, rfl⟩
              have HX := Lib.hid hX
              rw [hX] at x1 x2 ⊢
              clear hX
              go_wp2_with fail
              go_quiet (fail)
              go_wp2_with fail
              go_roundg g3
              case measure => omega
              case rel => exact ⟨j + 1, _, by omega, by go_num, by rw [← HX.out, World.drewN_drewN]⟩
        | succ g2 =>
          have hmz : (m : Int) < (rl.length : Int) := by omega
          have hm0 : (0 : Int) ≤ (m : Int) := by omega
          obtain ⟨x, hx⟩ : ∃ x, rl[m]? = some x := ⟨_, List.getElem?_eq_getElem (by omega)⟩
          have x1 := row_at O3.out hx
          have hxu : (x == u) = false := by
            have := HN.out x (List.mem_of_getElem? hx)
            simpa using this
          clear hx
          go_wp2_with fail
          go_roundg g2
          case measure => omega
          case rel => exact ⟨m + 1, by omega, by go_num, rfl⟩
theorem short_calls (u : Int) (w : World) (hw : MaxAt w) : Calls Tryd.prog 6 #[.int .i32 u] w fun e w' => e = .returned (.bool true) ∧ Below w.heap.size w w' := by
  by_cases h : candL u = []
  · exact short_nil u h w hw
  · exact short_some u _ rfl h w hw
end Go.Proofs.YthafggbmomdkkaaDoor
