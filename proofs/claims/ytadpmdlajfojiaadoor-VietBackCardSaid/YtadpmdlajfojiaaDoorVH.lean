/- Bytes and scalars: holds, scalar, one, and the reference's. -/
import Derived.Test.YtadpmdlajfojiaaDoorVG
namespace Go.Proofs.YtadpmdlajfojiaaDoor
open Go.RowKit
/-- What the bytes from 128 on stand for. -/
def listL : List Int := [
  8364, 65533, 8218, 402, 8222, 8230, 8224, 8225, 710, 8240, 65533, 8249, 338, 65533, 65533, 65533,
  65533, 8216, 8217, 8220, 8221, 8226, 8211, 8212, 732, 8482, 65533, 8250, 339, 65533, 65533, 376,
  160, 161, 162, 163, 164, 165, 166, 167, 168, 169, 170, 171, 172, 173, 174, 175,
  176, 177, 178, 179, 180, 181, 182, 183, 184, 185, 186, 187, 188, 189, 190, 191,
  192, 193, 194, 258, 196, 197, 198, 199, 200, 201, 202, 203, 768, 205, 206, 207,
  272, 209, 777, 211, 212, 416, 214, 215, 216, 217, 218, 219, 220, 431, 771, 223,
  224, 225, 226, 259, 228, 229, 230, 231, 232, 233, 234, 235, 769, 237, 238, 239,
  273, 241, 803, 243, 244, 417, 246, 247, 248, 249, 250, 251, 252, 432, 8363, 255]
def scalarB (b : Int) : Int := if b < 128 then b else listL.getD (b - 128).toNat 0
theorem listL_range : ∀ x ∈ listL, 0 ≤ x ∧ x ≤ 65535 := by decide +kernel
theorem listL_len : listL.length = 128 := by decide +kernel
theorem listL_at (j : Nat) (h : j < 128) : 0 ≤ listL.getD j 0 ∧ listL.getD j 0 ≤ 65535 := by
  have hj : j < listL.length := by rw [listL_len]; exact h
  rw [List.getD_eq_getElem?_getD, List.getElem?_eq_getElem hj]
  exact listL_range _ (List.getElem_mem hj)
/-- The world in which the program's list stands. -/
def ListAt (w : World) : Prop := 0 < w.heap.size ∧ ∀ j, j < 128 → w.cell? ⟨0, j, none⟩ = some (.int .u16 (listL.getD j 0))
theorem ListAt.below {w w' : World} (h : ListAt w) (hb : Below w.heap.size w w') : ListAt w' := ⟨Nat.lt_of_lt_of_le h.1 hb.size, fun j hj => (hb.cell (p := ⟨0, j, none⟩) h.1).trans (h.2 j hj)⟩

set_option maxRecDepth 100000 in
set_option maxHeartbeats 400000 in
theorem holds_calls (u : Int) (w : World) : Calls Tryd.prog 23 #[.int .i32 u] w fun e w' => e = .returned (.bool (holdsB u)) ∧ Below w.heap.size w w' := by
  go_enter Tryd.func23, Tryd.ntmps23
  go_wp2_with (first | (go_at_call 29; (with_reducible refine (all_calls _).mono ?_); rintro e w' ⟨rfl, hb⟩))
  have H0 := Lib.hid hb
  clear hb
  go_loopw [6] (fun i wr => ∃ k : Nat, k ≤ 120 ∧ i = .int .i64 (k : Int) ∧ Below w.heap.size w wr ∧ NoneTo (fun t => decide (t.1 = u)) k) (fun i _ => 120 - (intOf i).toNat)
  case atStart => exact ⟨0, by omega, rfl, H0.out, noneTo_zero _⟩
  case round =>
    obtain ⟨k, hk, rfl, hb, hN⟩ := hrel
    have hsz : w.heap.size ≤ wr.heap.size := hb.size
    have Hb := Lib.hid hb
    by_cases hlt : k < 120
    · obtain ⟨⟨a, b, r⟩, ht⟩ : ∃ t, allT[k]? = some t := ⟨_, List.getElem?_eq_getElem (show k < allT.length by rw [allT_len]; exact hlt)⟩
      have hix := all_at k (a, b, r) ht
      have HN := Lib.hid hN
      have HT := Lib.hid ht
      clear hN ht hb
      by_cases hl : a = u
      · have HF := Lib.hid (show holdsB u = true by unfold holdsB; rw [List.any_eq_true]; exact ⟨_, List.mem_iff_getElem?.2 ⟨k, HT.out⟩, by simp [hl]⟩)
        subst hl
        go_wp2
        go_ret
        exact ⟨by rw [HF.out]; rfl, Hb.out.alloc hsz _⟩
      · have HP := Lib.hid (noneTo_succ HN.out HT.out (by simp [hl]))
        have hl' : (a == u) = false := by simp [hl]
        clear hl
        go_wp2
        go_roundw
        case rel => exact ⟨k + 1, by omega, by go_num, Hb.out.alloc hsz _, HP.out⟩
        case measure => simp [intOf]; omega
    · have HF := Lib.hid (show holdsB u = false by
        unfold holdsB
        have := noneTo_all hN (by omega)
        rw [List.find?_eq_none] at this
        rw [List.any_eq_false]
        exact this)
      clear hN hb
      go_wp2
      go_ret
      exact ⟨by rw [HF.out]; rfl, Hb.out⟩
set_option maxHeartbeats 400000 in
theorem scalar_calls (b : Int) (h0 : 0 ≤ b) (h1 : b ≤ 255) (w : World) (hw : ListAt w) : Calls Tryd.prog 22 #[.int .u8 b] w fun e w' => e = .returned (.int .i32 (scalarB b)) ∧ w = w' := by
  by_cases h : b < 128
  · have E := Lib.hid (show scalarB b = b from if_pos h)
    clear hw
    go_enter Tryd.func22, Tryd.ntmps22
    go_wp2
    go_ret
    exact ⟨by rw [E.out]; rfl, rfl⟩
  · have hc := hw.2 (b - 128).toNat (by omega)
    have hr := listL_at (b - 128).toNat (by omega)
    have E := Lib.hid (show scalarB b = listL.getD (b - 128).toNat 0 from if_neg h)
    have hz := hw.1
    obtain ⟨j, hj⟩ : ∃ j, (b - 128).toNat = j := ⟨_, rfl⟩
    rw [hj] at hc hr E
    obtain ⟨x, hx⟩ : ∃ x, listL.getD j 0 = x := ⟨_, rfl⟩
    rw [hx] at hc hr E
    clear hx hw
    go_enter Tryd.func22, Tryd.ntmps22
    go_wp2
    go_ret
    exact ⟨by rw [E.out]; rfl, rfl⟩
end Go.Proofs.YtadpmdlajfojiaaDoor
