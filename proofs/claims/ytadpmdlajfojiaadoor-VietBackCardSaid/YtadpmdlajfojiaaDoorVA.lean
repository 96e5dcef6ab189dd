/- The walks over the program's table of letters and marks: all, tables. -/
import Derived.Test.YtadpmdlajfojiaaDoorProg
import Derived.Test.YtadpmdlajfojiaaDoorTab
import Derived.Test.YtadpmdlajfojiaaDoorMap
import Derived.Test.YtadpmdlajfojiaaDoorAllT
import Derived.StillTailTactics
import Derived.OwnWalk
import Derived.BigFrame
import Derived.Outline
namespace Go.Proofs.YtadpmdlajfojiaaDoor
open Go.RowKit
def rowV (t : Int × Int × Int) : List Value := [.int .i32 t.1, .int .i32 t.2.1, .int .i32 t.2.2]
def allRows : List (List Value) := allT.map rowV
def allC : Array Value := tabCells allRows
def zeroAll : Array Value := Array.replicate 360 (.int .i32 0)
theorem all_zero (w : World) : (zeroValue 63).run Tryd.prog w = .ok (.agg zeroAll) w := by kernel_rfl
theorem all_calls (w : World) : Calls Tryd.prog 29 #[] w fun e w' => e = .returned (.agg allC) ∧ Below w.heap.size w w' :=
  calls_table Tryd.func29 (n := 121) (tmp := 121) (z := zeroAll) (T := 63) (d := .array 120 62) (by kernel_rfl) (by kernel_rfl) (by kernel_rfl) all_zero (fun g => by kernel_rfl) (by kernel_rfl) (by kernel_rfl) (by kernel_rfl) Tryd.underlying63 rfl w
theorem all_len : ∀ r ∈ allRows, r.length = 3 := by
  intro r hr
  obtain ⟨t, _, rfl⟩ := List.mem_map.1 hr
  rfl
theorem all_at (k : Nat) (t : Int × Int × Int) (h : allT[k]? = some t) (w : World) :
    (Instr.index 63 (.agg allC) (.int .i64 (k : Int))).run Tryd.prog w = .ok (.agg #[.int .i32 t.1, .int .i32 t.2.1, .int .i32 t.2.2]) w :=
  run_index_tab Tryd.underlying63 Tryd.underlying62 rfl (by kernel_rfl) all_len (by kernel_rfl) k (rowV t) (by simp only [allRows, List.getElem?_map, h, Option.map_some]) w
end Go.Proofs.YtadpmdlajfojiaaDoor
