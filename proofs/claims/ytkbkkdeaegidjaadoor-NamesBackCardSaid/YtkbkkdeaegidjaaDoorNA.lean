/- The program's table: its function's contract. -/
import Derived.Test.YtkbkkdeaegidjaaDoorProg
import Derived.Test.YtkbkkdeaegidjaaDoorTab
import Derived.Test.YtkbkkdeaegidjaaDoorNameT
namespace Go.Proofs.YtkbkkdeaegidjaaDoor
open Go.RowKit
def rowV (t : Int × ByteArray) : List Value := [.int .i64 t.1, .string t.2]
def allRows : List (List Value) := nameT.map rowV
def allC : Array Value := tabCells allRows
def zeroAll : Array Value := (Array.replicate 56 #[Value.int .i64 0, Value.string ⟨#[]⟩]).flatten
theorem ent_zero (w : World) : (zeroValue 53).run Tryd.prog w = .ok (.agg zeroAll) w := by kernel_rfl
theorem ent_calls (w : World) : Calls Tryd.prog 22 #[] w fun e w' => e = .returned (.agg allC) ∧ Below w.heap.size w w' :=
  calls_table Tryd.func22 (n := 57) (tmp := 57) (z := zeroAll) (T := 53) (d := .array 56 52) (by kernel_rfl) (by kernel_rfl) (by kernel_rfl) ent_zero (fun g => by kernel_rfl) (by kernel_rfl) (by kernel_rfl) (by kernel_rfl) Tryd.underlying53 rfl w
theorem all_len : ∀ r ∈ allRows, r.length = 2 := by
  intro r hr
  obtain ⟨t, _, rfl⟩ := List.mem_map.1 hr
  rfl
theorem ent_at (k : Nat) (t : Int × ByteArray) (h : nameT[k]? = some t) (w : World) :
    (Instr.index 53 (.agg allC) (.int .i64 (k : Int))).run Tryd.prog w = .ok (.agg #[.int .i64 t.1, .string t.2]) w :=
  run_index_tab Tryd.underlying53 Tryd.underlying52 rfl (by kernel_rfl) all_len (by kernel_rfl) k (rowV t) (by simp only [allRows, List.getElem?_map, h, Option.map_some]) w
theorem nameT_len : nameT.length = 56 := rfl
end Go.Proofs.YtkbkkdeaegidjaaDoor
