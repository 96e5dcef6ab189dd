/- The program's Aliases. -/
import Derived.Test.YtkbkkdeaegidjaaDoorNA
import Derived.Test.YtkbkkdeaegidjaaDoorShelf
import Derived.Lib.Hide
namespace Go.Proofs.YtkbkkdeaegidjaaDoor
open Go.RowKit
/-- The blank. -/
def blankS : ByteArray := ⟨#[32]⟩
def splitBlank (s : ByteArray) : List ByteArray := Lib.splitB blankS 0 (Lib.countB s blankS) s
/-- The names of a kind. -/
def aliL (u : Int) : List ByteArray := match nameT.find? (fun t => decide (t.1 = u)) with
  | some t => splitBlank t.2
  | none => []
theorem below_then {B : Nat} {w w1 w2 : World} (h : Below B w w1) (hB : B ≤ w1.heap.size) (k : Below w1.heap.size w1 w2) : Below B w w2 := h.trans (k.mono hB)
/-- The one variable of the library that the code reads. -/
def MaxAt (w : World) : Prop := ∃ m, w.cell? ⟨0, 0, none⟩ = some (.int .i64 m)
theorem MaxAt.below {w w' : World} (h : MaxAt w) (hb : Below w.heap.size w w') : MaxAt w' := by
  obtain ⟨m, hm⟩ := h
  exact ⟨m, (hb.cell (p := ⟨0, 0, none⟩) (block_lt_of_cell hm)).trans hm⟩
/-- The search up to the k-th. -/
def NoneTo (p : Int × ByteArray → Bool) (k : Nat) : Prop := ∀ j t, j < k → nameT[j]? = some t → p t = false
theorem noneTo_zero (p : Int × ByteArray → Bool) : NoneTo p 0 := fun _ _ h => by omega
theorem noneTo_succ {p : Int × ByteArray → Bool} {k : Nat} {t : Int × ByteArray} (h : NoneTo p k) (ht : nameT[k]? = some t) (hp : p t = false) : NoneTo p (k + 1) := fun j x hj hx => by
  rcases Nat.lt_succ_iff_lt_or_eq.1 hj with h1 | rfl
  · exact h j x h1 hx
  · rw [ht] at hx; cases hx; exact hp
theorem noneTo_all {p : Int × ByteArray → Bool} {k : Nat} (h : NoneTo p k) (hk : 56 ≤ k) : nameT.find? p = none := by
  rw [List.find?_eq_none]
  intro t ht
  obtain ⟨j, hj⟩ := List.mem_iff_getElem?.1 ht
  have h1 := (List.getElem?_eq_some_iff.1 hj).1
  rw [nameT_len] at h1
  simp [h j t (by omega) hj]
theorem noneTo_found {p : Int × ByteArray → Bool} {k : Nat} {t : Int × ByteArray} (h : NoneTo p k) (ht : nameT[k]? = some t) (hp : p t = true) : nameT.find? p = some t := by
  rw [List.find?_eq_some_iff_getElem]
  obtain ⟨h1, h2⟩ := List.getElem?_eq_some_iff.1 ht
  refine ⟨hp, k, h1, h2, fun j hj => ?_⟩
  simp [h j _ hj (List.getElem?_eq_getElem (by omega))]
theorem split_nonempty : nameT.all (fun t => decide (splitBlank t.2 ≠ []) && decide ((splitBlank t.2).length = Lib.countB t.2 blankS + 1) && decide (t.2.size < 100)) = true := by decide +kernel
theorem below_drewN {B : Nat} {w W : World} (h : Below B w W) (n : Nat) : Below B w (W.drewN n) := ⟨h.os, h.tape, h.output, h.size, h.block⟩
/-- What Aliases hands back. -/
def AliPost (u : Int) (w : World) (e : Ending) (w' : World) : Prop :=
  ((aliL u = [] ∧ e = .returned (.slice none 0 0)) ∨ ∃ g, w.heap.size ≤ g ∧ aliL u ≠ [] ∧ e = .returned (.slice (some ⟨g, 0, none⟩) (aliL u).length (aliL u).length) ∧ w'.heap[g]? = some (.cells ((aliL u).map Value.string).toArray 9 (0, 0))) ∧ Below w.heap.size w w'
set_option maxRecDepth 100000 in
set_option maxHeartbeats 1600000 in
theorem ali_any (u : Int) (w : World) (hw : MaxAt w) : Calls Tryd.prog 12 #[.int .i64 u] w (AliPost u w) := by
  have HC := Lib.hid (show aliL u = match nameT.find? (fun t => decide (t.1 = u)) with | some t => splitBlank t.2 | none => [] from rfl)
  have HW := Lib.hid hw
  clear hw
  go_enter Tryd.func12, Tryd.ntmps12
  go_wp2_with (first | (go_at_call 22; (with_reducible refine (ent_calls _).mono ?_); rintro e w' ⟨rfl, hb⟩))
  have H0 := Lib.hid hb
  clear hb
  go_loopw [6] (fun i wr => ∃ k : Nat, k ≤ 56 ∧ i = .int .i64 (k : Int) ∧ Below w.heap.size w wr ∧ NoneTo (fun t => decide (t.1 = u)) k) (fun i _ => 56 - (intOf i).toNat)
  case atStart => exact ⟨0, by omega, rfl, H0.out, noneTo_zero _⟩
  case round =>
    obtain ⟨k, hk, rfl, hb, hN⟩ := hrel
    have hsz : w.heap.size ≤ wr.heap.size := hb.size
    have Hb := Lib.hid hb
    have HW1 := Lib.hid (HW.out.below hb)
    by_cases hlt : k < 56
    · obtain ⟨⟨a, b⟩, ht⟩ : ∃ t, nameT[k]? = some t := ⟨_, List.getElem?_eq_getElem (show k < nameT.length by rw [nameT_len]; exact hlt)⟩
      have hix := ent_at k (a, b) ht
      have HN := Lib.hid hN
      have HT := Lib.hid ht
      clear hN ht hb
      by_cases hl : a = u
      · have hsp := List.all_eq_true.1 split_nonempty (a, b) (List.mem_of_getElem? HT.out)
        simp only [Bool.and_eq_true, decide_eq_true_eq] at hsp
        have HF := Lib.hid (show aliL u = splitBlank b by rw [HC.out, noneTo_found HN.out HT.out (by simp [hl])])
        have HS := Lib.hid hsp
        clear hsp
        subst hl
        obtain ⟨m, hm⟩ := HW1.out
        have hm' : (wr.alloc (.cells #[.int .i64 a, .string b] 52)).cell? ⟨0, 0, none⟩ = some (.int .i64 m) := (Below.cell ((Below.refl _ wr).alloc (Nat.le_refl _) _) (p := ⟨0, 0, none⟩) (block_lt_of_cell hm)).trans hm
        have Hm := Lib.hid hm'
        clear hm hm'
        go_wp2_with fail
        refine (Tryd.strings_Split b blankS m _ (by have := HS.out.2; omega) Hm.out (by decide)).mono ?_
        rintro e w2 ⟨rfl, rfl⟩
        go_wp2_with fail
        go_ret
        refine ⟨.inr ⟨wr.heap.size + 1, by omega, by rw [HF.out]; exact HS.out.1.1, ?_, ?_⟩, (Hb.out.alloc hsz _).alloc (by simp; omega) _⟩
        · rw [HF.out, HS.out.1.2]; rfl
        · rw [HF.out, heap_alloc2_new]; rfl
      · have HP := Lib.hid (noneTo_succ HN.out HT.out (by simp [hl]))
        have hl' : (a == u) = false := by simp [hl]
        clear hl
        go_wp2
        go_roundw
        case rel => exact ⟨k + 1, by omega, by go_num, Hb.out.alloc hsz _, HP.out⟩
        case measure => simp [intOf]; omega
    · have HF := Lib.hid (show aliL u = [] by rw [HC.out, noneTo_all hN (by omega)])
      clear hN hb
      go_wp2
      go_ret
      exact ⟨.inl ⟨HF.out, rfl⟩, Hb.out⟩
end Go.Proofs.YtkbkkdeaegidjaaDoor
