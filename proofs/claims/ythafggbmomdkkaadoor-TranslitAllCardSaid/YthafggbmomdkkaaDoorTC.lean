/- A text's scalars, as Go's range gives them; has. -/
import Derived.Test.YthafggbmomdkkaaDoorTB
import Derived.Lib.OthersKept
namespace Go.Proofs.YthafggbmomdkkaaDoor
open Go.RowKit
def runesF (s : ByteArray) : Nat → Nat → List Int
  | 0, _ => []
  | f + 1, pos => if pos < s.size then ((Utf8.decode s pos).1 : Int) :: runesF s f (pos + (Utf8.decode s pos).2) else []
/-- The scalars of a text. -/
def runesL (s : ByteArray) : List Int := runesF s s.size 0
/-- Is a scalar among a text's? -/
def hasB (s : ByteArray) (u : Int) : Bool := (runesL s).any fun x => decide (x = u)
theorem width_pos (s : ByteArray) (pos : Nat) (h : pos < s.size) : 1 ≤ (Utf8.decode s pos).2 := by
  by_cases ha : (s[pos]'h).toNat < 128
  · rw [decode_ascii s pos h ha]
    exact Nat.le_refl _
  · exact (decode_high s pos h (by omega)).2
theorem runesF_at {s : ByteArray} {b pos : Nat} (h : pos < s.size) (hb : s.size ≤ pos + b) : ∃ b', runesF s b pos = ((Utf8.decode s pos).1 : Int) :: runesF s b' (pos + (Utf8.decode s pos).2) ∧ s.size ≤ pos + (Utf8.decode s pos).2 + b' := by
  have hw := width_pos s pos h
  cases b with
  | zero => omega
  | succ b => exact ⟨b, by rw [runesF, if_pos h], by omega⟩
theorem runesF_end {s : ByteArray} {b pos : Nat} (h : ¬ pos < s.size) : runesF s b pos = [] := by
  cases b with
  | zero => rfl
  | succ b => rw [runesF, if_neg h]
theorem below_iter {B : Nat} {w W : World} (h : Below B w W) (hB : B ≤ W.heap.size) (s : ByteArray) (pos : Nat) : Below B w (W.iter s pos) := h.alloc hB _
set_option maxRecDepth 100000 in
set_option maxHeartbeats 400000 in
theorem has_calls (s : ByteArray) (u : Int) (w : World) : Calls Tryd.prog 24 #[.string s, .int .i32 u] w fun e w' => e = .returned (.bool (hasB s u)) ∧ Below w.heap.size w w' := by
  obtain ⟨r, hr⟩ : ∃ r, hasB s u = r := ⟨_, rfl⟩
  rw [hr]
  have HR := Lib.hid hr
  clear hr
  go_enter Tryd.func24, Tryd.ntmps24
  go_wp2
  go_loopw [6] (fun _ wr => ∃ (pos b : Nat), wr = w.iter s pos ∧ ((runesF s b pos).any fun x => decide (x = u)) = r ∧ s.size ≤ pos + b) (fun _ wr => s.size - wr.iterPos w.heap.size)
  case atStart => exact ⟨0, s.size, rfl, HR.out, by omega⟩
  case round =>
    obtain ⟨pos, b, rfl, hc, hb⟩ := hrel
    have HC := Lib.hid hc
    clear hc
    by_cases hp : pos < s.size
    · obtain ⟨b', e1, e2⟩ := runesF_at hp hb
      have E1 := Lib.hid e1
      have hwd := width_pos s pos hp
      clear e1 hb
      have hnx : ∀ ty, (Instr.next (.pointer (some ⟨w.heap.size, 0, none⟩)) true ty).run Tryd.prog (w.iter s pos) = _ := fun ty => run_next_any w s pos ty hp
      by_cases hu : ((Utf8.decode s pos).1 : Int) = u
      · have HT := Lib.hid (show r = true by rw [← HC.out, E1.out]; simp [hu])
        have hu' : (((Utf8.decode s pos).1 : Int) == u) = true := by simp [hu]
        clear hu
        go_wp2
        go_ret
        exact ⟨by rw [HT.out]; rfl, below_iter (Below.refl _ _) (Nat.le_refl _) _ _⟩
      · have HF := Lib.hid (show ((runesF s b' (pos + (Utf8.decode s pos).2)).any fun x => decide (x = u)) = r by rw [← HC.out, E1.out]; simp [hu])
        have hu' : (((Utf8.decode s pos).1 : Int) == u) = false := by simp [hu]
        clear hu
        go_wp2
        go_roundw
        case rel => exact ⟨_, b', rfl, HF.out, e2⟩
        case measure =>
          simp
          omega
    · have HF := Lib.hid (show r = false by rw [← HC.out, runesF_end hp]; rfl)
      have hnx : ∀ ty, (Instr.next (.pointer (some ⟨w.heap.size, 0, none⟩)) true ty).run Tryd.prog (w.iter s pos) = _ := fun ty => run_next_end w s pos ty hp
      go_wp2
      go_ret
      exact ⟨by rw [HF.out]; rfl, below_iter (Below.refl _ _) (Nat.le_refl _) _ _⟩
end Go.Proofs.YthafggbmomdkkaaDoor
