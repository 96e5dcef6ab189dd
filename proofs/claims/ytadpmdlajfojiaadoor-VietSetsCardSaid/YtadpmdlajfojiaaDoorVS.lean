/- The walk of VietSets. -/
import Derived.Test.YtadpmdlajfojiaaDoorVL
import Derived.Laws.StructEq
namespace Go.Proofs.YtadpmdlajfojiaaDoor
open Go.RowKit
set_option maxRecDepth 100000 in
set_option maxHeartbeats 1600000 in
theorem sets_calls (u : Int) (w : World) (hw : ListAt w) : Calls Tryd.prog 3 #[.int .i32 u] w fun e w' => e = .returned (.bool true) ∧ Below w.heap.size w w' := by
  have h1 := set_any u
  have h2 := rset_any u
  obtain ⟨⟨e, s⟩, hR⟩ : ∃ p, setR u = p := ⟨_, rfl⟩
  rw [hR] at h1 h2
  unfold putV at h1 h2
  have H1 := Lib.hid h1
  have H2 := Lib.hid h2
  have HW := Lib.hid hw
  clear h1 h2 hR hw
  go_enter Tryd.func3, Tryd.ntmps3
  go_wp2_with fail
  refine (H1.out _ HW.out).mono ?_
  rintro _ w1 ⟨rfl, hb⟩
  have HB := Lib.hid hb
  clear hb
  go_wp2_with fail
  refine (H2.out _).mono ?_
  rintro _ w2 ⟨rfl, hb⟩
  have HB2 := Lib.hid (below_then HB.out HB.out.size hb)
  clear hb HB
  go_wp2
  go_ret
  exact ⟨rfl, HB2.out⟩
end Go.Proofs.YtadpmdlajfojiaaDoor
