/- Lookup at what is no text. -/
import Derived.Test.YtkbkkdeaegidjaaDoorNP
namespace Go.Proofs.YtkbkkdeaegidjaaDoor
open Go.RowKit
def twoV (k e : Int) : Value := .tuple #[.int .i64 k, .int .i64 e]
theorem as9_9 (v : Value) (w : World) : (Instr.typeAssert (.iface 9 v) 20 9 true).run Tryd.prog w = .ok (.tuple #[v, .bool true]) w := by kernel_rfl
theorem as3_9 (v : Value) (w : World) : (Instr.typeAssert (.iface 3 v) 20 9 true).run Tryd.prog w = .ok (.tuple #[.string ⟨#[]⟩, .bool false]) w := by kernel_rfl
theorem as2_9 (v : Value) (w : World) : (Instr.typeAssert (.iface 2 v) 20 9 true).run Tryd.prog w = .ok (.tuple #[.string ⟨#[]⟩, .bool false]) w := by kernel_rfl
theorem as4_9 (v : Value) (w : World) : (Instr.typeAssert (.iface 4 v) 20 9 true).run Tryd.prog w = .ok (.tuple #[.string ⟨#[]⟩, .bool false]) w := by kernel_rfl
theorem as42_9 (v : Value) (w : World) : (Instr.typeAssert (.iface 42 v) 20 9 true).run Tryd.prog w = .ok (.tuple #[.string ⟨#[]⟩, .bool false]) w := by kernel_rfl
theorem asn_9 (w : World) : (Instr.typeAssert .nilIface 20 9 true).run Tryd.prog w = .ok (.tuple #[.string ⟨#[]⟩, .bool false]) w := by kernel_rfl
theorem as3_3 (v : Value) (w : World) : (Instr.typeAssert (.iface 3 v) 20 3 true).run Tryd.prog w = .ok (.tuple #[v, .bool true]) w := by kernel_rfl
theorem as2_3 (v : Value) (w : World) : (Instr.typeAssert (.iface 2 v) 20 3 true).run Tryd.prog w = .ok (.tuple #[.int .i64 0, .bool false]) w := by kernel_rfl
theorem as4_3 (v : Value) (w : World) : (Instr.typeAssert (.iface 4 v) 20 3 true).run Tryd.prog w = .ok (.tuple #[.int .i64 0, .bool false]) w := by kernel_rfl
theorem as42_3 (v : Value) (w : World) : (Instr.typeAssert (.iface 42 v) 20 3 true).run Tryd.prog w = .ok (.tuple #[.int .i64 0, .bool false]) w := by kernel_rfl
theorem asn_3 (w : World) : (Instr.typeAssert .nilIface 20 3 true).run Tryd.prog w = .ok (.tuple #[.int .i64 0, .bool false]) w := by kernel_rfl
theorem lookup_end {W : World} {tmps : Array Value} {p q : Nat} {k e : Int} (h2 : tmps.getD 2 undef = .pointer (some ⟨p, 0, none⟩)) (h3 : tmps.getD 3 undef = .pointer (some ⟨q, 0, none⟩))
    (c2 : W.cell? ⟨p, 0, none⟩ = some (.int .i64 k)) (c3 : W.cell? ⟨q, 0, none⟩ = some (.int .i64 e)) : (results Tryd.f13 tmps).run Tryd.prog W = .ok (twoV k e) W := by
  have h2' : tmps[2]?.getD undef = .pointer (some ⟨p, 0, none⟩) := by simpa using h2
  have h3' : tmps[3]?.getD undef = .pointer (some ⟨q, 0, none⟩) := by simpa using h3
  simp [results, Tryd.f13, go_sem, h2', h3', c2, c3, twoV, asAddr]
theorem three_cells (w : World) (a b c : Value) (t1 t2 t3 : TypeId) : (((w.alloc (.cells #[a] t1)).alloc (.cells #[b] t2)).alloc (.cells #[c] t3)).heap[w.heap.size]? = some (.cells #[a] t1 (0, 0)) ∧ (((w.alloc (.cells #[a] t1)).alloc (.cells #[b] t2)).alloc (.cells #[c] t3)).heap[w.heap.size + 1]? = some (.cells #[b] t2 (0, 0)) ∧ (((w.alloc (.cells #[a] t1)).alloc (.cells #[b] t2)).alloc (.cells #[c] t3)).heap[w.heap.size + 1 + 1]? = some (.cells #[c] t3 (0, 0)) := by
  refine ⟨?_, ?_, ?_⟩
  · rw [heap_alloc_old _ _ (by simp; omega)]
    exact heap_alloc2_old _ _ _
  · rw [heap_alloc_old _ _ (by simp)]
    exact heap_alloc2_new _ _ _
  · have := heap_alloc_new ((w.alloc (.cells #[a] t1)).alloc (.cells #[b] t2)) (.cells #[c] t3)
    simpa using this
theorem three_below (w : World) (a b c : Obj) : Below w.heap.size w (((w.alloc a).alloc b).alloc c) :=
  (((Below.refl _ w).alloc (Nat.le_refl _) _).alloc (by simp) _).alloc (by simp; omega) _
set_option maxRecDepth 100000 in
set_option maxHeartbeats 1600000 in
theorem lookup_no (key : Value) (h9 : ∀ w, (Instr.typeAssert key 20 9 true).run Tryd.prog w = .ok (.tuple #[.string ⟨#[]⟩, .bool false]) w) (h3 : ∀ w, (Instr.typeAssert key 20 3 true).run Tryd.prog w = .ok (.tuple #[.int .i64 0, .bool false]) w) (w : World) : Calls Tryd.prog 13 #[key] w fun e w' => e = .returned (twoV 0 3) ∧ Below w.heap.size w w' := by
  go_enter Tryd.func13, Tryd.ntmps13
  go_wp2_with fail
  obtain ⟨t1, t2, t3⟩ := three_cells w (.int .i64 0) (.int .i64 3) (.string ⟨#[]⟩) 3 29 9
  exact bodyPost_ret (lookup_end rfl rfl (one_at t1).1 (one_at t2).1) rfl ⟨rfl, three_below _ _ _ _⟩
theorem lookup_set {B q : Nat} {w W : World} {a b : Value} {k e : Int} (hq : B ≤ q) (hb : Below B w W) (h1 : W.heap[q]? = some (.cells #[a] 3 (0, 0))) (h2 : W.heap[q + 1]? = some (.cells #[b] 29 (0, 0))) :
    ∀ X, X = (W.setCell ⟨q, 0, none⟩ (.int .i64 k)).setCell ⟨q + 1, 0, none⟩ (.int .i64 e) → X.cell? ⟨q, 0, none⟩ = some (.int .i64 k) ∧ X.cell? ⟨q + 1, 0, none⟩ = some (.int .i64 e) ∧ Below B w X := by
  rintro X rfl
  refine ⟨(one_at ((heap_setCell_other _ _ _ _ (by simp)).trans (set_one h1))).1, (one_at (set_one ((heap_setCell_other _ _ _ _ (by simp)).trans h2))).1, (hb.setCell hq _).setCell (by simp; omega) _⟩
set_option maxRecDepth 100000 in
set_option maxHeartbeats 1600000 in
theorem lookup_int (n : Int) (w : World) (hw : MaxAt w) : Calls Tryd.prog 13 #[.iface 3 (.int .i64 n)] w fun e w' => e = .returned (if (nameL n).size = 0 then twoV 0 5 else twoV n 0) ∧ Below w.heap.size w w' := by
  have HN := Lib.hid (name_calls n)
  have HW := Lib.hid hw
  have h9 := as3_9 (.int .i64 n)
  have h3 := as3_3 (.int .i64 n)
  clear hw
  by_cases hn : (nameL n).size = 0
  · rw [if_pos hn]
    have hE : (nameL n).toList.isEmpty = true := by rw [empty_size]; simp [hn]
    clear hn
    go_enter Tryd.func13, Tryd.ntmps13
    go_wp2_with fail
    have B1 := Lib.hid (three_below w (.cells #[.int .i64 0] 3) (.cells #[.int .i64 0] 29) (.cells #[.string ⟨#[]⟩] 9))
    have T := Lib.hid (three_cells w (.int .i64 0) (.int .i64 0) (.string ⟨#[]⟩) 3 29 9)
    refine (HN.out _ (HW.out.below B1.out)).mono ?_
    rintro e w1 ⟨rfl, hb⟩
    have R1 := Lib.hid ((hb.block w.heap.size (by simp; omega)).trans T.out.1)
    have R2 := Lib.hid ((hb.block (w.heap.size + 1) (by simp)).trans T.out.2.1)
    obtain ⟨c1, f1⟩ := one_at R1.out
    obtain ⟨c2, f2⟩ := one_at R2.out
    have B2 := Lib.hid (below_then B1.out B1.out.size hb)
    clear hb
    go_wp2_with fail
    obtain ⟨x1, x2, x3⟩ := lookup_set (k := 0) (e := 5) (Nat.le_refl _) B2.out R1.out R2.out _ rfl
    exact bodyPost_ret (lookup_end rfl rfl x1 x2) rfl ⟨rfl, x3⟩
  · rw [if_neg hn]
    have hE : (nameL n).toList.isEmpty = false := by rw [empty_size]; simp [hn]
    clear hn
    go_enter Tryd.func13, Tryd.ntmps13
    go_wp2_with fail
    have B1 := Lib.hid (three_below w (.cells #[.int .i64 0] 3) (.cells #[.int .i64 0] 29) (.cells #[.string ⟨#[]⟩] 9))
    have T := Lib.hid (three_cells w (.int .i64 0) (.int .i64 0) (.string ⟨#[]⟩) 3 29 9)
    refine (HN.out _ (HW.out.below B1.out)).mono ?_
    rintro e w1 ⟨rfl, hb⟩
    have R1 := Lib.hid ((hb.block w.heap.size (by simp; omega)).trans T.out.1)
    have R2 := Lib.hid ((hb.block (w.heap.size + 1) (by simp)).trans T.out.2.1)
    obtain ⟨c1, f1⟩ := one_at R1.out
    obtain ⟨c2, f2⟩ := one_at R2.out
    have B2 := Lib.hid (below_then B1.out B1.out.size hb)
    clear hb
    go_wp2_with fail
    obtain ⟨x1, x2, x3⟩ := lookup_set (k := n) (e := 0) (Nat.le_refl _) B2.out R1.out R2.out _ rfl
    exact bodyPost_ret (lookup_end rfl rfl x1 x2) rfl ⟨rfl, x3⟩
end Go.Proofs.YtkbkkdeaegidjaaDoor
