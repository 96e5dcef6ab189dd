/- Fits and Drain, the program's and the reference's. -/
import Derived.Test.YtadpmdlajfojiaaDoorVL
import Derived.Laws.StructEq
namespace Go.Proofs.YtadpmdlajfojiaaDoor
open Go.RowKit
/-- A state. -/
abbrev stV (a b c h : Int) : Value := .agg #[.int .i64 a, .int .i64 b, .int .u32 c, .int .i32 h]
def fitsB (a b c h : Int) : Bool := decide (a = 0 ∧ b = 0 ∧ c = 0 ∧ (h = 0 ∨ holdsB h = true))
set_option maxRecDepth 100000 in
set_option maxHeartbeats 1600000 in
theorem fits_calls (a b c h : Int) (w : World) : Calls Tryd.prog 14 #[stV a b c h] w fun e w' => e = .returned (.bool (fitsB a b c h)) ∧ Below w.heap.size w w' := by
  by_cases ha : a = 0
  · by_cases hb : b = 0
    · by_cases hc : c = 0
      · by_cases hh : h = 0
        · subst ha hb hc hh
          have HF := Lib.hid (show fitsB 0 0 0 0 = true by simp [fitsB])
          go_enter Tryd.func14, Tryd.ntmps14
          go_wp2_with fail
          go_ret
          exact ⟨by rw [HF.out]; rfl, (Below.refl _ _).alloc (Nat.le_refl _) _⟩
        · have HF := Lib.hid (show fitsB 0 0 0 h = holdsB h by simp [fitsB, hh])
          have hh' : (h == 0) = false := by simp [hh]
          subst ha hb hc
          clear hh
          have H1 := Lib.hid (holds_calls h)
          go_enter Tryd.func14, Tryd.ntmps14
          go_wp2_with fail
          refine (H1.out _).mono ?_
          rintro e w' ⟨rfl, hb⟩
          have HB := Lib.hid (put_below hb)
          clear hb
          go_wp2_with fail
          go_ret
          exact ⟨by rw [HF.out]; rfl, HB.out⟩
      · have HF := Lib.hid (show fitsB 0 0 c h = false by simp [fitsB, hc])
        have hc' : (c == 0) = false := by simp [hc]
        subst ha hb
        clear hc
        go_enter Tryd.func14, Tryd.ntmps14
        go_wp2_with fail
        go_ret
        exact ⟨by rw [HF.out]; rfl, (Below.refl _ _).alloc (Nat.le_refl _) _⟩
    · have HF := Lib.hid (show fitsB 0 b c h = false by simp [fitsB, hb])
      have hb' : (b == 0) = false := by simp [hb]
      subst ha
      clear hb
      go_enter Tryd.func14, Tryd.ntmps14
      go_wp2_with fail
      go_ret
      exact ⟨by rw [HF.out]; rfl, (Below.refl _ _).alloc (Nat.le_refl _) _⟩
  · have HF := Lib.hid (show fitsB a b c h = false by simp [fitsB, ha])
    have ha' : (a == 0) = false := by simp [ha]
    clear ha
    go_enter Tryd.func14, Tryd.ntmps14
    go_wp2_with fail
    go_ret
    exact ⟨by rw [HF.out]; rfl, (Below.refl _ _).alloc (Nat.le_refl _) _⟩
theorem rholds_b (u : Int) (w : World) : Calls Tryd.prog 26 #[.int .i32 u] w fun e w' => e = .returned (.bool (holdsB u)) ∧ Below w.heap.size w w' := (rholds_calls u w).mono fun _ _ ⟨h1, h2⟩ => ⟨h1, below_drawn h2⟩
set_option maxRecDepth 100000 in
set_option maxHeartbeats 1600000 in
theorem rfits_calls (a b c h : Int) (w : World) : Calls Tryd.prog 15 #[stV a b c h] w fun e w' => e = .returned (.bool (fitsB a b c h)) ∧ Below w.heap.size w w' := by
  by_cases ha : a = 0
  · by_cases hb : b = 0
    · by_cases hc : c = 0
      · by_cases hh : h = 0
        · subst ha hb hc hh
          have HF := Lib.hid (show fitsB 0 0 0 0 = true by simp [fitsB])
          go_enter Tryd.func15, Tryd.ntmps15
          go_wp2_with fail
          go_ret
          exact ⟨by rw [HF.out]; rfl, (Below.refl _ _).alloc (Nat.le_refl _) _⟩
        · have HF := Lib.hid (show fitsB 0 0 0 h = holdsB h by simp [fitsB, hh])
          have hh' : (h == 0) = false := by simp [hh]
          subst ha hb hc
          clear hh
          have H1 := Lib.hid (rholds_b h)
          go_enter Tryd.func15, Tryd.ntmps15
          go_wp2_with fail
          refine (H1.out _).mono ?_
          rintro e w' ⟨rfl, hb⟩
          have HB := Lib.hid (put_below hb)
          clear hb
          go_wp2_with fail
          go_ret
          exact ⟨by rw [HF.out]; rfl, HB.out⟩
      · have HF := Lib.hid (show fitsB 0 0 c h = false by simp [fitsB, hc])
        have hc' : (c == 0) = false := by simp [hc]
        subst ha hb
        clear hc
        go_enter Tryd.func15, Tryd.ntmps15
        go_wp2_with fail
        go_ret
        exact ⟨by rw [HF.out]; rfl, (Below.refl _ _).alloc (Nat.le_refl _) _⟩
    · have HF := Lib.hid (show fitsB 0 b c h = false by simp [fitsB, hb])
      have hb' : (b == 0) = false := by simp [hb]
      subst ha
      clear hb
      go_enter Tryd.func15, Tryd.ntmps15
      go_wp2_with fail
      go_ret
      exact ⟨by rw [HF.out]; rfl, (Below.refl _ _).alloc (Nat.le_refl _) _⟩
  · have HF := Lib.hid (show fitsB a b c h = false by simp [fitsB, ha])
    have ha' : (a == 0) = false := by simp [ha]
    clear ha
    go_enter Tryd.func15, Tryd.ntmps15
    go_wp2_with fail
    go_ret
    exact ⟨by rw [HF.out]; rfl, (Below.refl _ _).alloc (Nat.le_refl _) _⟩
/-- What Drain hands back. -/
def drainB (a b c h : Int) : Bool := fitsB a b c h && decide (h ≠ 0)
def drainL (a b c h : Int) : Int := if drainB a b c h = true then h else 0
set_option maxRecDepth 100000 in
set_option maxHeartbeats 1600000 in
theorem drain_calls (a b c h : Int) (w : World) : Calls Tryd.prog 10 #[stV a b c h] w fun e w' => e = .returned (.tuple #[.int .i32 (drainL a b c h), .bool (drainB a b c h)]) ∧ Below w.heap.size w w' := by
  have h1 := fits_calls a b c h
  by_cases hf : fitsB a b c h = true
  · rw [hf] at h1
    have H1 := Lib.hid h1
    clear h1
    by_cases hh : h = 0
    · have HF := Lib.hid (show drainL a b c h = 0 ∧ drainB a b c h = false by simp [drainL, drainB, hh])
      subst hh
      clear hf
      go_enter Tryd.func10, Tryd.ntmps10
      go_wp2_with fail
      refine (H1.out _).mono ?_
      rintro e w' ⟨rfl, hb⟩
      have hc := (cell_of_row w' w.heap.size 3 _ _ _ (put_block hb)).trans (show _ = some (Value.int .i32 0) from rfl)
      have HB := Lib.hid (put_below hb)
      clear hb
      go_wp2_with fail
      go_ret2
      exact ⟨by rw [HF.out.1, HF.out.2]; rfl, HB.out⟩
    · have HF := Lib.hid (show drainL a b c h = h ∧ drainB a b c h = true by simp [drainL, drainB, hh, hf])
      have hh' : (h == 0) = false := by simp [hh]
      clear hf hh
      go_enter Tryd.func10, Tryd.ntmps10
      go_wp2_with fail
      refine (H1.out _).mono ?_
      rintro e w' ⟨rfl, hb⟩
      have hc := (cell_of_row w' w.heap.size 3 _ _ _ (put_block hb)).trans (show _ = some (Value.int .i32 h) from rfl)
      have HB := Lib.hid (put_below hb)
      clear hb
      go_wp2_with fail
      go_ret2
      exact ⟨by rw [HF.out.1, HF.out.2]; rfl, HB.out⟩
  · have hff : fitsB a b c h = false := by simpa using hf
    rw [hff] at h1
    have H1 := Lib.hid h1
    have HF := Lib.hid (show drainL a b c h = 0 ∧ drainB a b c h = false by simp [drainL, drainB, hff])
    clear h1 hf hff
    go_enter Tryd.func10, Tryd.ntmps10
    go_wp2_with fail
    refine (H1.out _).mono ?_
    rintro e w' ⟨rfl, hb⟩
    have HB := Lib.hid (put_below hb)
    clear hb
    go_wp2_with fail
    go_ret2
    exact ⟨by rw [HF.out.1, HF.out.2]; rfl, HB.out⟩
set_option maxRecDepth 100000 in
set_option maxHeartbeats 1600000 in
theorem rdrain_calls (a b c h : Int) (w : World) : Calls Tryd.prog 11 #[stV a b c h] w fun e w' => e = .returned (.tuple #[.int .i32 (drainL a b c h), .bool (drainB a b c h)]) ∧ Below w.heap.size w w' := by
  have h1 := rfits_calls a b c h
  by_cases hf : fitsB a b c h = true
  · rw [hf] at h1
    have H1 := Lib.hid h1
    clear h1
    by_cases hh : h = 0
    · have HF := Lib.hid (show drainL a b c h = 0 ∧ drainB a b c h = false by simp [drainL, drainB, hh])
      subst hh
      clear hf
      go_enter Tryd.func11, Tryd.ntmps11
      go_wp2_with fail
      refine (H1.out _).mono ?_
      rintro e w' ⟨rfl, hb⟩
      have hc := (cell_of_row w' w.heap.size 3 _ _ _ (put_block hb)).trans (show _ = some (Value.int .i32 0) from rfl)
      have HB := Lib.hid (put_below hb)
      clear hb
      go_wp2_with fail
      go_ret2
      exact ⟨by rw [HF.out.1, HF.out.2]; rfl, HB.out⟩
    · have HF := Lib.hid (show drainL a b c h = h ∧ drainB a b c h = true by simp [drainL, drainB, hh, hf])
      have hh' : (h == 0) = false := by simp [hh]
      clear hf hh
      go_enter Tryd.func11, Tryd.ntmps11
      go_wp2_with fail
      refine (H1.out _).mono ?_
      rintro e w' ⟨rfl, hb⟩
      have hc := (cell_of_row w' w.heap.size 3 _ _ _ (put_block hb)).trans (show _ = some (Value.int .i32 h) from rfl)
      have HB := Lib.hid (put_below hb)
      clear hb
      go_wp2_with fail
      go_ret2
      exact ⟨by rw [HF.out.1, HF.out.2]; rfl, HB.out⟩
  · have hff : fitsB a b c h = false := by simpa using hf
    rw [hff] at h1
    have H1 := Lib.hid h1
    have HF := Lib.hid (show drainL a b c h = 0 ∧ drainB a b c h = false by simp [drainL, drainB, hff])
    clear h1 hf hff
    go_enter Tryd.func11, Tryd.ntmps11
    go_wp2_with fail
    refine (H1.out _).mono ?_
    rintro e w' ⟨rfl, hb⟩
    have HB := Lib.hid (put_below hb)
    clear hb
    go_wp2_with fail
    go_ret2
    exact ⟨by rw [HF.out.1, HF.out.2]; rfl, HB.out⟩
end Go.Proofs.YtadpmdlajfojiaaDoor
