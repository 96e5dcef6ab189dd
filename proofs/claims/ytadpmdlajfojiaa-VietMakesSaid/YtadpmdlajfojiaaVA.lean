/- The walks over the program's table of letters and marks: all, tables. -/
import Derived.Test.YtadpmdlajfojiaaProg
import Derived.Test.YtadpmdlajfojiaaTab
import Derived.Test.YtadpmdlajfojiaaMap
import Derived.Test.YtadpmdlajfojiaaAllT
import Derived.StillTailTactics
import Derived.OwnWalk
import Derived.BigFrame
import Derived.Outline
namespace Go.Proofs.Ytadpmdlajfojiaa
open Go.RowKit
def rowV (t : Int × Int × Int) : List Value := [.int .i32 t.1, .int .i32 t.2.1, .int .i32 t.2.2]
def allRows : List (List Value) := allT.map rowV
def allC : Array Value := tabCells allRows
def zeroAll : Array Value := Array.replicate 360 (.int .i32 0)
theorem all_zero (w : World) : (zeroValue 38).run Try.prog w = .ok (.agg zeroAll) w := by kernel_rfl
theorem all_calls (w : World) : Calls Try.prog 10 #[] w fun e w' => e = .returned (.agg allC) ∧ Below w.heap.size w w' :=
  calls_table Try.func10 (n := 121) (tmp := 121) (z := zeroAll) (T := 38) (d := .array 120 37) (by kernel_rfl) (by kernel_rfl) (by kernel_rfl) all_zero (fun g => by kernel_rfl) (by kernel_rfl) (by kernel_rfl) (by kernel_rfl) Try.underlying38 rfl w
theorem all_len : ∀ r ∈ allRows, r.length = 3 := by
  intro r hr
  obtain ⟨t, _, rfl⟩ := List.mem_map.1 hr
  rfl
theorem all_at (k : Nat) (t : Int × Int × Int) (h : allT[k]? = some t) (w : World) :
    (Instr.index 38 (.agg allC) (.int .i64 (k : Int))).run Try.prog w = .ok (.agg #[.int .i32 t.1, .int .i32 t.2.1, .int .i32 t.2.2]) w :=
  run_index_tab Try.underlying38 Try.underlying37 rfl (by kernel_rfl) all_len (by kernel_rfl) k (rowV t) (by simp only [allRows, List.getElem?_map, h, Option.map_some]) w
end Go.Proofs.Ytadpmdlajfojiaa
