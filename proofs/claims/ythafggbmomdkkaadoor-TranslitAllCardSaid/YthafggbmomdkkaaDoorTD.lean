/- The program's First. -/
import Derived.Test.YthafggbmomdkkaaDoorTC
import Derived.Deep.LoopGhost
namespace Go.Proofs.YthafggbmomdkkaaDoor
open Go.RowKit
/-- The first candidate of which all scalars are among some. -/
def okB (among c : ByteArray) : Bool := (runesL c).all fun x => hasB among x
def firstL (u : Int) (among : ByteArray) : Option ByteArray := (candL u).find? (okB among)
theorem cand_any (u : Int) (w : World) (hw : MaxAt w) : Calls Tryd.prog 10 #[.int .i32 u] w (CandPost u w) := by
  by_cases h : 65281 ≤ u ∧ u ≤ 65374
  · exact cand_wide u h.1 h.2 w
  · exact cand_list u h w hw
theorem cand_none (u : Int) (h : candL u = []) (w : World) (hw : MaxAt w) : Calls Tryd.prog 10 #[.int .i32 u] w fun e w' => e = .returned (.slice none 0 0) ∧ Below w.heap.size w w' :=
  (cand_any u w hw).mono fun e w' ⟨h1, h2⟩ => by
    rcases h1 with ⟨_, h1⟩ | ⟨g, h3, h6, h4, h5⟩
    · exact ⟨h1, h2⟩
    · exact absurd h h6
theorem cand_some (u : Int) (l : List ByteArray) (h : candL u = l) (hl : l ≠ []) (w : World) (hw : MaxAt w) : Calls Tryd.prog 10 #[.int .i32 u] w fun e w' => ∃ g, w.heap.size ≤ g ∧ e = .returned (.slice (some ⟨g, 0, none⟩) l.length l.length) ∧ w'.heap[g]? = some (.cells (l.map Value.string).toArray 9 (0, 0)) ∧ Below w.heap.size w w' :=
  (cand_any u w hw).mono fun e w' ⟨h1, h2⟩ => by
    subst h
    rcases h1 with ⟨h1, _⟩ | ⟨g, h3, h6, h4, h5⟩
    · exact absurd h1 hl
    · exact ⟨g, h3, h4, h5, h2⟩
/-- Between two rounds: the candidates' block. -/
structure FInv (w W : World) (g : Nat) (l : List ByteArray) : Prop where
  bl : Below w.heap.size w W
  lo : w.heap.size ≤ g
  row : W.heap[g]? = some (.cells (l.map Value.string).toArray 9 (0, 0))
theorem FInv.below {w W X : World} {g : Nat} {l : List ByteArray} (h : FInv w W g l) (hb : Below W.heap.size W X) : FInv w X g l :=
  ⟨below_then h.bl h.bl.size hb, h.lo, (hb.block _ (Array.getElem?_eq_some_iff.1 h.row).1).trans h.row⟩
theorem FInv.alloc {w W : World} {g : Nat} {l : List ByteArray} (h : FInv w W g l) (o : Obj) : FInv w (W.alloc o) g l := h.below ((Below.refl _ _).alloc (Nat.le_refl _) o)
theorem FInv.drew {w W : World} {g : Nat} {l : List ByteArray} (h : FInv w W g l) : FInv w W.drew g l := ⟨h.bl.drew, h.lo, h.row⟩
theorem FInv.drewN {w W : World} {g : Nat} {l : List ByteArray} (h : FInv w W g l) (n : Nat) : FInv w (W.drewN n) g l := ⟨below_drewN h.bl n, h.lo, h.row⟩
theorem FInv.iterAt {w W : World} {g : Nat} {l : List ByteArray} (h : FInv w W g l) {q : Nat} (hq : g < q) (s : ByteArray) (p : Nat) : FInv w (W.iterAt q s p) g l :=
  ⟨Lib.below_iterAt h.bl (by have := h.lo; omega) s p, h.lo, (Lib.iterAt_other W q g s p (by omega)).trans h.row⟩
theorem FInv.lt {w W : World} {g : Nat} {l : List ByteArray} (h : FInv w W g l) : g < W.heap.size := (Array.getElem?_eq_some_iff.1 h.row).1
theorem FInv.cell {w W : World} {g : Nat} {l : List ByteArray} (h : FInv w W g l) {k : Nat} {c : ByteArray} (hk : l[k]? = some c) : W.cell? ⟨g, k, none⟩ = some (.string c) := by
  rw [cell_of_row W _ _ _ _ _ h.row]
  have hlt := (List.getElem?_eq_some_iff.1 hk).1
  simp [List.getElem?_map, hk]
theorem iterAt_pos {W : World} {q : Nat} {s : ByteArray} {p p' : Nat} (h : W.heap[q]? = some (.stringIter s p)) : (W.iterAt q s p').heap[q]? = some (.stringIter s p') := Lib.iterAt_heap W q s p p' h
set_option maxRecDepth 100000 in
set_option maxHeartbeats 1600000 in
theorem first_none (u : Int) (among : ByteArray) (h : candL u = []) (w : World) (hw : MaxAt w) : Calls Tryd.prog 14 #[.int .i32 u, .string among] w fun e w' => e = .returned (.tuple #[.string ⟨#[]⟩, .bool false]) ∧ Below w.heap.size w w' := by
  have HC := Lib.hid (cand_none u h)
  have HW := Lib.hid hw
  clear h hw
  go_enter Tryd.func14, Tryd.ntmps14
  go_wp2_with fail
  go_step3
  go_wp2_with fail
  go_step3
  go_wp2_with fail
  refine (HC.out _ HW.out).mono ?_
  rintro e w' ⟨rfl, hb⟩
  have HB := Lib.hid hb
  clear hb
  go_wp2_with fail
  refine wp_loop_rounds 1 ?_
  rw [rounds_succ]
  go_wp2_with fail
  first | rw [Exit.noGoto_ret] | skip
  go_ret2
  exact ⟨rfl, HB.out⟩
set_option maxRecDepth 100000 in
set_option maxHeartbeats 1600000 in
theorem first_some (u : Int) (among : ByteArray) (l : List ByteArray) (h : candL u = l) (hl : l ≠ []) (hlen : l.length ≤ 1000) (w : World) (hw : MaxAt w) : Calls Tryd.prog 14 #[.int .i32 u, .string among] w fun e w' => e = .returned (.tuple #[.string ((l.find? (okB among)).getD ⟨#[]⟩), .bool (l.find? (okB among)).isSome]) ∧ Below w.heap.size w w' := by
  have HC := Lib.hid (cand_some u l h hl)
  have HW := Lib.hid hw
  have HL := Lib.hid hl
  clear h hw hl
  go_enter Tryd.func14, Tryd.ntmps14
  go_wp2_with fail
  go_step3
  go_wp2_with fail
  go_step3
  go_wp2_with fail
  refine (HC.out _ HW.out).mono ?_
  rintro e w' ⟨g, hg, rfl, hcs, hb⟩
  have HI := Lib.hid (show FInv w w' g l from ⟨hb, hg, hcs⟩)
  clear hb hcs hg
  go_wp2_with fail
  go_loopg [13] l.length (fun gg i wx => ∃ k : Nat, k + gg = l.length ∧ i = .int .i64 (k : Int) ∧ Hid (l.find? (okB among) = (l.drop k).find? (okB among)) ∧ FInv w wx g l)
  case atStart => exact ⟨0, by omega, rfl, Lib.hid rfl, HI.out⟩
  case round =>
    obtain ⟨k, hk, rfl, hF, hI⟩ := hrel
    have HI := Lib.hid hI
    clear hI
    cases gk with
    | zero =>
      have hkz : ¬ ((k : Int) < (l.length : Int)) := by omega
      have HN := Lib.hid (show l.find? (okB among) = none by rw [hF.out, List.drop_eq_nil_of_le (by omega)]; rfl)
      go_wp2_with fail
      first | rw [Exit.noGoto_ret] | skip
      go_ret2
      exact ⟨by rw [HN.out]; rfl, HI.out.bl⟩
    | succ gg =>
      have hkz : (k : Int) < (l.length : Int) := by omega
      obtain ⟨c, hc⟩ : ∃ c, l[k]? = some c := ⟨_, List.getElem?_eq_getElem (by omega)⟩
      have hcell := HI.out.cell hc
      have HD := Lib.hid (show l.drop k = c :: l.drop (k + 1) from Lib.drop_at hc)
      have hgs := HI.out.lt
      clear hc
      go_wp2_with fail
      obtain ⟨q, hq⟩ : ∃ q, wr.heap.size = q := ⟨_, rfl⟩
      obtain ⟨X, hX⟩ : ∃ X, wr.iter c 0 = X := ⟨_, rfl⟩
      have HX := Lib.hid (show FInv w X g l ∧ X.heap[q]? = some (.stringIter c 0) by subst hX; subst hq; exact ⟨HI.out.alloc _, heap_alloc_new _ _⟩)
      rw [hX, hq]
      clear hX
      have hqg : g < q := by rw [← hq]; exact hgs
      clear hq hgs hcell HI
      obtain ⟨r, hr⟩ : ∃ r, okB among c = r := ⟨_, rfl⟩
      have HR := Lib.hid hr
      clear hr
      go_loopg [9] c.size (fun g2 _ wy => ∃ pos : Nat, Hid (((runesF c g2 pos).all fun x => hasB among x) = r) ∧ c.size ≤ pos + g2 ∧ FInv w wy g l ∧ wy.heap[q]? = some (.stringIter c pos))
      case atStart => exact ⟨0, Lib.hid HR.out, by omega, HX.out.1, HX.out.2⟩
      case round =>
        obtain ⟨pos, hall, hpb, hI, hit⟩ := hrel
        have HI := Lib.hid hI
        have HIT := Lib.hid hit
        clear hI
        by_cases hp : pos < c.size
        · have hnx : ∀ ty, (Instr.next (.pointer (some ⟨q, 0, none⟩)) true ty).run Tryd.prog wr = _ := fun ty => Lib.run_next_any_at wr q c pos ty hit hp
          clear hit
          cases gk with
          | zero => omega
          | succ b =>
            have hwd := width_pos c pos hp
            have HA := Lib.hid (show r = (hasB among ((Utf8.decode c pos).1 : Int) && (runesF c b (pos + (Utf8.decode c pos).2)).all fun x => hasB among x) by rw [← hall.out, runesF, if_pos hp]; rfl)
            clear hall
            have HH := Lib.hid (fun W => has_calls among ((Utf8.decode c pos).1 : Int) W)
            by_cases hh : hasB among ((Utf8.decode c pos).1 : Int) = true
            · have HA2 := Lib.hid (show r = (runesF c b (pos + (Utf8.decode c pos).2)).all fun x => hasB among x by rw [HA.out, hh]; rfl)
              have HH2 := Lib.hid (fun W => by have := HH.out W; rw [hh] at this; exact this)
              clear hh HA HH
              go_wp2_with fail
              refine (HH2.out _).mono ?_
              rintro e w2 ⟨rfl, hb⟩
              have HI2 := Lib.hid ((HI.out.iterAt hqg c _).below hb)
              have HIT2 := Lib.hid ((hb.block q (by rw [Lib.iterAt_size]; exact (Array.getElem?_eq_some_iff.1 HIT.out).1)).trans (iterAt_pos HIT.out))
              clear hb
              go_wp2_with fail
              go_roundg b
              case measure => omega
              case rel => exact ⟨pos + (Utf8.decode c pos).2, Lib.hid HA2.out.symm, by omega, HI2.out, HIT2.out⟩
            · have hh' : hasB among ((Utf8.decode c pos).1 : Int) = false := by simpa using hh
              have HA2 := Lib.hid (show okB among c = false by rw [HR.out, HA.out, hh']; rfl)
              have HH2 := Lib.hid (fun W => by have := HH.out W; rw [hh'] at this; exact this)
              clear hh hh' HA HH
              go_wp2_with fail
              refine (HH2.out _).mono ?_
              rintro e w2 ⟨rfl, hb⟩
              have HI2 := Lib.hid ((HI.out.iterAt hqg c _).below hb)
              clear hb
              go_wp2_with fail
              go_roundg gg
              case measure => omega
              case rel => exact ⟨k + 1, by omega, by go_num, Lib.hid (by rw [hF.out, HD.out, List.find?_cons, HA2.out]), HI2.out⟩
        · have hnx : ∀ ty, (Instr.next (.pointer (some ⟨q, 0, none⟩)) true ty).run Tryd.prog wr = _ := fun ty => Lib.run_next_end_at wr q c pos ty hit hp
          have HT := Lib.hid (show okB among c = true by rw [HR.out, ← hall.out, runesF_end hp]; rfl)
          have HN := Lib.hid (show l.find? (okB among) = some c by rw [hF.out, HD.out, List.find?_cons, HT.out])
          clear hall hit
          go_wp2_with fail
          first | rw [Exit.noGoto_ret] | skip
          go_ret2
          exact ⟨by rw [HN.out]; rfl, HI.out.bl⟩
end Go.Proofs.YthafggbmomdkkaaDoor
