/- The program's table: its function's contract. -/
import Derived.Test.YthafggbmomdkkaaDoorProg
import Derived.Test.YthafggbmomdkkaaDoorTab
import Derived.Test.YthafggbmomdkkaaDoorEntT
namespace Go.Proofs.YthafggbmomdkkaaDoor
open Go.RowKit
def rowV (t : Int × ByteArray) : List Value := [.int .i32 t.1, .string t.2]
def allRows : List (List Value) := entT.map rowV
def allC : Array Value := tabCells allRows
def zeroAll : Array Value := (Array.replicate 118 #[Value.int .i32 0, Value.string ⟨#[]⟩]).flatten
theorem ent_zero (w : World) : (zeroValue 38).run Tryd.prog w = .ok (.agg zeroAll) w := by kernel_rfl
theorem ent_calls (w : World) : Calls Tryd.prog 17 #[] w fun e w' => e = .returned (.agg allC) ∧ Below w.heap.size w w' :=
  calls_table Tryd.func17 (n := 119) (tmp := 119) (z := zeroAll) (T := 38) (d := .array 118 37) (by kernel_rfl) (by kernel_rfl) (by kernel_rfl) ent_zero (fun g => by kernel_rfl) (by kernel_rfl) (by kernel_rfl) (by kernel_rfl) Tryd.underlying38 rfl w
theorem all_len : ∀ r ∈ allRows, r.length = 2 := by
  intro r hr
  obtain ⟨t, _, rfl⟩ := List.mem_map.1 hr
  rfl
theorem ent_at (k : Nat) (t : Int × ByteArray) (h : entT[k]? = some t) (w : World) :
    (Instr.index 38 (.agg allC) (.int .i64 (k : Int))).run Tryd.prog w = .ok (.agg #[.int .i32 t.1, .string t.2]) w :=
  run_index_tab Tryd.underlying38 Tryd.underlying37 rfl (by kernel_rfl) all_len (by kernel_rfl) k (rowV t) (by simp only [allRows, List.getElem?_map, h, Option.map_some]) w
theorem entT_len : entT.length = 118 := rfl
end Go.Proofs.YthafggbmomdkkaaDoor
