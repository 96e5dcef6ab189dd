/- large: small letters as large ones. -/
import Derived.Test.YtkbkkdeaegidjaaDoorNM
import Derived.Lib.ConvBytes
import Derived.Laws.BytesArg
namespace Go.Proofs.YtkbkkdeaegidjaaDoor
open Go.RowKit
def bytesL (s : ByteArray) : List Int := s.data.toList.map fun c => (c.toNat : Int)
theorem bytesL_len (s : ByteArray) : (bytesL s).length = s.size := by simp [bytesL]
def upI (x : Int) : Int := if 97 ≤ x ∧ x ≤ 122 then x - 32 else x
def largeL (s : ByteArray) : List Int := (bytesL s).map upI
def largeB (s : ByteArray) : ByteArray := strOfNums (largeL s)
theorem byte_range (s : ByteArray) (j : Nat) : 0 ≤ (bytesL s).getD j 0 ∧ (bytesL s).getD j 0 < 256 := by
  rw [List.getD_eq_getElem?_getD]
  cases h : (bytesL s)[j]? with
  | none => simp
  | some x =>
    have hm := List.mem_of_getElem? h
    obtain ⟨c, _, rfl⟩ := List.mem_map.1 hm
    have := c.toNat_lt
    simp
    omega
/-- Between two rounds: k bytes have been turned. -/
structure LInv (w W : World) (s : ByteArray) (k : Nat) : Prop where
  bl : Below w.heap.size w W
  row : ∃ cs : Array Value, W.heap[w.heap.size]? = some (.cells cs 5 (cs.size, cs.size + 1)) ∧ s.size ≤ cs.size ∧ ∀ j, j < s.size → cs[j]? = some (.int .u8 (if j < k then upI ((bytesL s).getD j 0) else (bytesL s).getD j 0))
theorem below_bytes {B : Nat} {w W : World} (h : Below B w W) (hB : B ≤ W.heap.size) (e : TypeId) (s : ByteArray) : Below B w (Lib.bytesWorld W e s) := by
  refine h.trans ⟨?_, ?_, ?_, by rw [Lib.bytesWorld_size]; omega, fun i hi => Lib.bytesWorld_at_old W e s i (by omega)⟩ <;> (simp [Lib.bytesWorld, World.freeze]; try rfl)
theorem LInv.start (w : World) (s : ByteArray) : LInv w (Lib.bytesWorld w 5 s) s 0 := by
  refine ⟨below_bytes (Below.refl _ _) (Nat.le_refl _) 5 s, _, Lib.bytesWorld_at_new w 5 s, ?_, fun j hj => ?_⟩
  · simp [Lib.bytesCells]
  · have := Lib.bytesWorld_cell w 5 s j hj
    rw [cell_of_row _ _ _ _ _ _ (Lib.bytesWorld_at_new w 5 s)] at this
    rw [this, if_neg (by omega)]
    have hl : j < s.data.toList.length := by simpa using hj
    simp [bytesL, List.getD_eq_getElem?_getD, List.getElem?_map, List.getElem?_eq_getElem hl]
theorem LInv.cell {w W : World} {s : ByteArray} {k : Nat} (h : LInv w W s k) (hk : k < s.size) : W.cell? ⟨w.heap.size, k, none⟩ = some (.int .u8 ((bytesL s).getD k 0)) ∧ W.frozen? ⟨w.heap.size, k, none⟩ = false := by
  obtain ⟨cs, h1, h2, h3⟩ := h.row
  refine ⟨?_, ?_⟩
  · rw [cell_of_row _ _ _ _ _ _ h1, h3 k hk, if_neg (by omega)]
  · simp [World.frozen?, h1]
    omega
theorem LInv.keep {w W : World} {s : ByteArray} {k : Nat} (h : LInv w W s k) (hx : upI ((bytesL s).getD k 0) = (bytesL s).getD k 0) : LInv w W s (k + 1) := by
  obtain ⟨cs, h1, h2, h3⟩ := h.row
  refine ⟨h.bl, cs, h1, h2, fun j hj => ?_⟩
  rw [h3 j hj]
  by_cases h4 : j < k
  · rw [if_pos h4, if_pos (by omega)]
  · rw [if_neg h4]
    by_cases h5 : j = k
    · subst h5
      rw [if_pos (by omega), hx]
    · rw [if_neg (by omega)]
theorem LInv.set {w W : World} {s : ByteArray} {k : Nat} (h : LInv w W s k) (hk : k < s.size) {x : Int} (hx : upI ((bytesL s).getD k 0) = x) : LInv w (W.setCell ⟨w.heap.size, k, none⟩ (.int .u8 x)) s (k + 1) := by
  obtain ⟨cs, h1, h2, h3⟩ := h.row
  refine ⟨h.bl.setCell (Nat.le_refl _) _, cs.setIfInBounds k (.int .u8 x), ?_, by simpa using h2, fun j hj => ?_⟩
  · rw [setCell_eq_setRow W _ k cs 5 _ _ h1, setRow_heap W _ cs _ 5 _ h1]
    simp
  · rw [Array.getElem?_setIfInBounds]
    by_cases h5 : k = j
    · subst h5
      rw [if_pos rfl, if_pos (by omega), if_pos (by omega), hx]
    · rw [if_neg h5, h3 j hj]
      by_cases h4 : j < k
      · rw [if_pos h4, if_pos (by omega)]
      · rw [if_neg h4, if_neg (by omega)]
theorem LInv.all {w W : World} {s : ByteArray} {k : Nat} (h : LInv w W s k) (hk : s.size ≤ k) : ∀ i, i < s.size → W.cell? ⟨w.heap.size, 0 + i, none⟩ = some (.int .u8 ((largeL s).getD i 0)) := by
  intro i hi
  obtain ⟨cs, h1, h2, h3⟩ := h.row
  rw [Nat.zero_add, cell_of_row _ _ _ _ _ _ h1, h3 i hi, if_pos (by omega)]
  have hl : i < (bytesL s).length := by rw [bytesL_len]; exact hi
  simp [largeL, List.getD_eq_getElem?_getD, List.getElem?_map, List.getElem?_eq_getElem hl]
theorem up_keep {x : Int} (h : ¬ (97 ≤ x ∧ x ≤ 122)) : upI x = x := if_neg h
theorem up_turn {x : Int} (h1 : 97 ≤ x) (h2 : x ≤ 122) : upI x = x - 97 + 65 := by
  unfold upI
  rw [if_pos ⟨h1, h2⟩]
  omega
set_option maxRecDepth 100000 in
set_option maxHeartbeats 1600000 in
theorem large_calls (s : ByteArray) (hs : s.size ≤ 140737488351232) (w : World) : Calls Tryd.prog 24 #[.string s] w fun e w' => e = .returned (.string (largeB s)) ∧ Below w.heap.size w w' := by
  have hcb := fun (s : ByteArray) (w : World) => Lib.run_convert_string_bytes (P := Tryd.prog) w 9 35 5 s Tryd.underlying9 Tryd.underlying35 Tryd.underlying5
  go_enter Tryd.func24, Tryd.ntmps24
  go_wp2_with fail
  go_loopg [10] s.size (fun gg i wr => ∃ k : Nat, k + gg = s.size ∧ i = .int .i64 (k : Int) ∧ Hid (LInv w wr s k))
  case atStart => exact ⟨0, by omega, rfl, Lib.hid (LInv.start w s)⟩
  case round =>
    obtain ⟨k, hk, rfl, HI⟩ := hrel
    cases gk with
    | zero =>
      have hkz : ¬ ((k : Int) < (s.size : Int)) := by omega
      have hcv := fun cap => run_convert_bytes_arg (P := Tryd.prog) wr 35 5 Tryd.underlying35 Tryd.underlying5 w.heap.size 0 s.size cap (largeL s) (by unfold largeL; rw [List.length_map, bytesL_len]) (HI.out.all (by omega)) 9 Tryd.underlying9
      go_wp2_with fail
      go_ret
      exact ⟨rfl, HI.out.bl⟩
    | succ gg =>
      have hkz : (k : Int) < (s.size : Int) := by omega
      have hk0 : (0 : Int) ≤ (k : Int) := by omega
      have hkb : (k : Int) ≤ 140737488351232 := by omega
      have hkw : wrap64 ((k : Int) + 1) = (k : Int) + 1 := by unfold wrap64; omega
      obtain ⟨c1, f1⟩ := HI.out.cell (by omega)
      obtain ⟨hx0, hx1⟩ := byte_range s k
      obtain ⟨x, hx⟩ : ∃ x, (bytesL s).getD k 0 = x := ⟨_, rfl⟩
      have HX := Lib.hid hx
      rw [hx] at c1 hx0 hx1
      clear hx
      by_cases q1 : 97 ≤ x
      · by_cases q2 : x ≤ 122
        · have q3 : decide (97 ≤ x) = true := decide_eq_true q1
          have q4 : decide (x ≤ 122) = true := decide_eq_true q2
          have q5 : IntKind.u8.wrap (x - 97) = x - 97 := by rw [IntKind.wrap_u8]; omega
          have q6 : IntKind.u8.wrap (x - 97 + 65) = x - 97 + 65 := by rw [IntKind.wrap_u8]; omega
          go_wp2_with fail
          go_roundg gg
          case measure => omega
          case rel => exact ⟨k + 1, by omega, by go_num, Lib.hid (HI.out.set (by omega) (by rw [HX.out]; exact up_turn q1 q2))⟩
        · have q3 : decide (97 ≤ x) = true := decide_eq_true q1
          have q4 : decide (x ≤ 122) = false := decide_eq_false q2
          go_wp2_with fail
          go_roundg gg
          case measure => omega
          case rel => exact ⟨k + 1, by omega, by go_num, Lib.hid (HI.out.keep (by rw [HX.out]; exact up_keep (by omega)))⟩
      · have q3 : decide (97 ≤ x) = false := decide_eq_false q1
        go_wp2_with fail
        go_roundg gg
        case measure => omega
        case rel => exact ⟨k + 1, by omega, by go_num, Lib.hid (HI.out.keep (by rw [HX.out]; exact up_keep (by omega)))⟩
end Go.Proofs.YtkbkkdeaegidjaaDoor
