/- SplitSeq: the iterator it hands back. -/
import Derived.Test.YtkbkkdeaegidjaaDoorNO
namespace Go.Proofs.YtkbkkdeaegidjaaDoor
open Go.RowKit
/-- The three boxes that SplitSeq lays. -/
def seqW (w : World) (s sep : ByteArray) : World := ((w.alloc (.cells #[.string s] 9)).alloc (.cells #[.string sep] 9)).alloc (.cells #[.int .i64 0] 3)
def seqV (n : Nat) : Value := .func (.func 35) #[] #[.pointer (some ⟨n + 1, 0, none⟩), .pointer (some ⟨n, 0, none⟩), .pointer (some ⟨n + 2, 0, none⟩)]
set_option maxHeartbeats 800000 in
theorem seq_calls (s sep : ByteArray) (w : World) : Calls Tryd.prog 30 #[.string s, .string sep, .int .i64 0] w fun e w' => e = .returned (seqV w.heap.size) ∧ w' = seqW w s sep := by
  go_enter Tryd.func30, Tryd.ntmps30
  go_wp2_with fail
  go_ret
  exact ⟨rfl, rfl⟩
theorem splitseq_calls (s sep : ByteArray) (w : World) : Calls Tryd.prog 25 #[.string s, .string sep] w fun e w' => e = .returned (seqV w.heap.size) ∧ w' = seqW w s sep := by
  have HS := Lib.hid (seq_calls s sep)
  go_enter Tryd.func25, Tryd.ntmps25
  go_wp2_with fail
  refine (HS.out _).mono ?_
  rintro e w1 ⟨rfl, rfl⟩
  go_wp2_with fail
  go_ret
  exact ⟨rfl, rfl⟩
theorem seq_size (w : World) (s sep : ByteArray) : (seqW w s sep).heap.size = w.heap.size + 3 := by simp [seqW]
theorem seq_below (w : World) (s sep : ByteArray) : Below w.heap.size w (seqW w s sep) :=
  (((Below.refl _ _).alloc (Nat.le_refl _) _).alloc (by simp) _).alloc (by simp; omega) _
theorem seq_boxes (w : World) (s sep : ByteArray) : (seqW w s sep).heap[w.heap.size + 1]? = some (.cells #[.string sep] 9 (0, 0)) ∧ (seqW w s sep).heap[w.heap.size]? = some (.cells #[.string s] 9 (0, 0)) ∧ (seqW w s sep).heap[w.heap.size + 2]? = some (.cells #[.int .i64 0] 3 (0, 0)) := by
  refine ⟨?_, ?_, ?_⟩
  · unfold seqW
    rw [heap_alloc_old _ _ (by simp)]
    exact heap_alloc2_new _ _ _
  · unfold seqW
    rw [heap_alloc_old _ _ (by simp; omega)]
    exact heap_alloc2_old _ _ _
  · unfold seqW
    have := heap_alloc_new ((w.alloc (.cells #[.string s] 9)).alloc (.cells #[.string sep] 9)) (.cells #[.int .i64 0] 3)
    simpa using this
end Go.Proofs.YtkbkkdeaegidjaaDoor
