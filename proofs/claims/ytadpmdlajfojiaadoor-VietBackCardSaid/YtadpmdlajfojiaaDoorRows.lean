/-
  NARROWER THAN 'FOR EVERY INPUT', by the rows' own cells (each row's printed sentence says how): VietSets: laid · VietGets: laid · VietBack: laid · VietHolds: laid · VietBytes: laid.
  DERIVED. THE GIVEN ROWS OF THIS SEAT. 5 by the template 'for every input the law returns true; each argument reads behind the call as it read before'; 0 by the template 'total and deterministic' (their statements: YtadpmdlajfojiaaDoorTotals.lean).
  GIVEN WITH THE SEED: the statements are not yours to turn. If you find one false, say at which input.
  Laid BY PROGRAM, IN A SANDBOX (cutbox-rows.mjs): the forced cells as the released guide's own fill.sh prints them over the translation 6001c091fc919e21… (all of the seat's roots in one cut). By AI agents, Wed Nov 11 2026. No macro, syntax, notation, axiom, sorry.
-/
import Derived.Test.YtadpmdlajfojiaaDoorChecked
import GoSem.Claim
import GoSem.ClaimJoined
import GoSem.ClaimMapViews
import Derived.JoinedTies
import Derived.KernelRfl
namespace Go.Proofs.YtadpmdlajfojiaaDoor
/- THE CELL 'sum', in the pinned program and in every row, IS THE sha256 OF THE DUMP (.gsa) THAT YtadpmdlajfojiaaDoorProg.lean LOADS. Nothing in Lean hashes anything: it is a label: what it is worth is what the hold of that sum in a sandbox is worth. -/
noncomputable def Tryd.pinned : Pinned := { name := "ytadpmdlajfojiaadoor", sum := "6001c091fc919e213dd11839bf1c041b50feace24e80c4f0bb3dc59c07da615b", checked := Tryd.checked }
namespace Rows
def none {H : Type} : Left H := { results := [], args := [] }

/- WHAT THE LISTED PACKAGE-LEVEL VARIABLES READ AS WHEN THE CALL BEGINS. Each datum BY PROGRAM (the guide's laid-datum.mjs) off the statement by which the dump's own 'gosem.cut.vars' lays the variable. In a bare row this is a premise. The card (YtadpmdlajfojiaaDoorCards.lean) ties it to the program's text. -/
def laid_dragoman_viet_list {H : Type} : DataW H := .agg [.lit (.int .u16 8364), .lit (.int .u16 65533), .lit (.int .u16 8218), .lit (.int .u16 402), .lit (.int .u16 8222), .lit (.int .u16 8230), .lit (.int .u16 8224), .lit (.int .u16 8225), .lit (.int .u16 710), .lit (.int .u16 8240), .lit (.int .u16 65533), .lit (.int .u16 8249), .lit (.int .u16 338), .lit (.int .u16 65533), .lit (.int .u16 65533), .lit (.int .u16 65533), .lit (.int .u16 65533), .lit (.int .u16 8216), .lit (.int .u16 8217), .lit (.int .u16 8220), .lit (.int .u16 8221), .lit (.int .u16 8226), .lit (.int .u16 8211), .lit (.int .u16 8212), .lit (.int .u16 732), .lit (.int .u16 8482), .lit (.int .u16 65533), .lit (.int .u16 8250), .lit (.int .u16 339), .lit (.int .u16 65533), .lit (.int .u16 65533), .lit (.int .u16 376), .lit (.int .u16 160), .lit (.int .u16 161), .lit (.int .u16 162), .lit (.int .u16 163), .lit (.int .u16 164), .lit (.int .u16 165), .lit (.int .u16 166), .lit (.int .u16 167), .lit (.int .u16 168), .lit (.int .u16 169), .lit (.int .u16 170), .lit (.int .u16 171), .lit (.int .u16 172), .lit (.int .u16 173), .lit (.int .u16 174), .lit (.int .u16 175), .lit (.int .u16 176), .lit (.int .u16 177), .lit (.int .u16 178), .lit (.int .u16 179), .lit (.int .u16 180), .lit (.int .u16 181), .lit (.int .u16 182), .lit (.int .u16 183), .lit (.int .u16 184), .lit (.int .u16 185), .lit (.int .u16 186), .lit (.int .u16 187), .lit (.int .u16 188), .lit (.int .u16 189), .lit (.int .u16 190), .lit (.int .u16 191), .lit (.int .u16 192), .lit (.int .u16 193), .lit (.int .u16 194), .lit (.int .u16 258), .lit (.int .u16 196), .lit (.int .u16 197), .lit (.int .u16 198), .lit (.int .u16 199), .lit (.int .u16 200), .lit (.int .u16 201), .lit (.int .u16 202), .lit (.int .u16 203), .lit (.int .u16 768), .lit (.int .u16 205), .lit (.int .u16 206), .lit (.int .u16 207), .lit (.int .u16 272), .lit (.int .u16 209), .lit (.int .u16 777), .lit (.int .u16 211), .lit (.int .u16 212), .lit (.int .u16 416), .lit (.int .u16 214), .lit (.int .u16 215), .lit (.int .u16 216), .lit (.int .u16 217), .lit (.int .u16 218), .lit (.int .u16 219), .lit (.int .u16 220), .lit (.int .u16 431), .lit (.int .u16 771), .lit (.int .u16 223), .lit (.int .u16 224), .lit (.int .u16 225), .lit (.int .u16 226), .lit (.int .u16 259), .lit (.int .u16 228), .lit (.int .u16 229), .lit (.int .u16 230), .lit (.int .u16 231), .lit (.int .u16 232), .lit (.int .u16 233), .lit (.int .u16 234), .lit (.int .u16 235), .lit (.int .u16 769), .lit (.int .u16 237), .lit (.int .u16 238), .lit (.int .u16 239), .lit (.int .u16 273), .lit (.int .u16 241), .lit (.int .u16 803), .lit (.int .u16 243), .lit (.int .u16 244), .lit (.int .u16 417), .lit (.int .u16 246), .lit (.int .u16 247), .lit (.int .u16 248), .lit (.int .u16 249), .lit (.int .u16 250), .lit (.int .u16 251), .lit (.int .u16 252), .lit (.int .u16 432), .lit (.int .u16 8363), .lit (.int .u16 255)]

/-- 'dragomanlaw13.VietSets': WHATEVER THE INPUT: true; the input reads as it did. -/
def vietSetsSpec : ChangeSpec := { name := "vietSets", fn := fun _ => fun
  | [d] => { results := [.lit (.bool true)], args := [d] }
  | _ => none }
def vietSetsRow : OpenClaim := { program := "ytadpmdlajfojiaadoor", sum := "6001c091fc919e213dd11839bf1c041b50feace24e80c4f0bb3dc59c07da615b", func := "dragoman/dragomanlaw13.VietSets", spec := "vietSets", named := ["dragoman/viet.list"], plainKeys := false, apart := false, laid := [("dragoman/viet.list", laid_dragoman_viet_list)] }
def VietSetsSaid : Prop := vietSetsRow.holds Tryd.pinned (OpenSpec.ofChange vietSetsSpec)

/-- ITS FALSE NEIGHBOUR: 'it returns false'. Refute it at one input. -/
def vietSetsWrong : ChangeSpec := { name := "vietSets", fn := fun _ => fun
  | [d] => { results := [.lit (.bool false)], args := [d] }
  | _ => none }
def VietSetsWrongFalsely : Prop := vietSetsRow.holds Tryd.pinned (OpenSpec.ofChange vietSetsWrong)

/-- 'dragomanlaw13.VietGets': WHATEVER THE INPUT: true; the input reads as it did. -/
def vietGetsSpec : ChangeSpec := { name := "vietGets", fn := fun _ => fun
  | [d1, d2] => { results := [.lit (.bool true)], args := [d1, d2] }
  | _ => none }
def vietGetsRow : OpenClaim := { program := "ytadpmdlajfojiaadoor", sum := "6001c091fc919e213dd11839bf1c041b50feace24e80c4f0bb3dc59c07da615b", func := "dragoman/dragomanlaw13.VietGets", spec := "vietGets", named := ["dragoman/viet.list"], plainKeys := false, apart := false, laid := [("dragoman/viet.list", laid_dragoman_viet_list)] }
def VietGetsSaid : Prop := vietGetsRow.holds Tryd.pinned (OpenSpec.ofChange vietGetsSpec)

/-- ITS FALSE NEIGHBOUR: 'it returns false'. Refute it at one input. -/
def vietGetsWrong : ChangeSpec := { name := "vietGets", fn := fun _ => fun
  | [d1, d2] => { results := [.lit (.bool false)], args := [d1, d2] }
  | _ => none }
def VietGetsWrongFalsely : Prop := vietGetsRow.holds Tryd.pinned (OpenSpec.ofChange vietGetsWrong)

/-- 'dragomanlaw13.VietBack': WHATEVER THE INPUT: true; the input reads as it did. -/
def vietBackSpec : ChangeSpec := { name := "vietBack", fn := fun _ => fun
  | [d] => { results := [.lit (.bool true)], args := [d] }
  | _ => none }
def vietBackRow : OpenClaim := { program := "ytadpmdlajfojiaadoor", sum := "6001c091fc919e213dd11839bf1c041b50feace24e80c4f0bb3dc59c07da615b", func := "dragoman/dragomanlaw13.VietBack", spec := "vietBack", named := ["dragoman/viet.list"], plainKeys := false, apart := false, laid := [("dragoman/viet.list", laid_dragoman_viet_list)] }
def VietBackSaid : Prop := vietBackRow.holds Tryd.pinned (OpenSpec.ofChange vietBackSpec)

/-- ITS FALSE NEIGHBOUR: 'it returns false'. Refute it at one input. -/
def vietBackWrong : ChangeSpec := { name := "vietBack", fn := fun _ => fun
  | [d] => { results := [.lit (.bool false)], args := [d] }
  | _ => none }
def VietBackWrongFalsely : Prop := vietBackRow.holds Tryd.pinned (OpenSpec.ofChange vietBackWrong)

/-- 'dragomanlaw13.VietHolds': WHATEVER THE INPUT: true; the input reads as it did. -/
def vietHoldsSpec : ChangeSpec := { name := "vietHolds", fn := fun _ => fun
  | [d] => { results := [.lit (.bool true)], args := [d] }
  | _ => none }
def vietHoldsRow : OpenClaim := { program := "ytadpmdlajfojiaadoor", sum := "6001c091fc919e213dd11839bf1c041b50feace24e80c4f0bb3dc59c07da615b", func := "dragoman/dragomanlaw13.VietHolds", spec := "vietHolds", named := ["dragoman/viet.list"], plainKeys := false, apart := false, laid := [("dragoman/viet.list", laid_dragoman_viet_list)] }
def VietHoldsSaid : Prop := vietHoldsRow.holds Tryd.pinned (OpenSpec.ofChange vietHoldsSpec)

/-- ITS FALSE NEIGHBOUR: 'it returns false'. Refute it at one input. -/
def vietHoldsWrong : ChangeSpec := { name := "vietHolds", fn := fun _ => fun
  | [d] => { results := [.lit (.bool false)], args := [d] }
  | _ => none }
def VietHoldsWrongFalsely : Prop := vietHoldsRow.holds Tryd.pinned (OpenSpec.ofChange vietHoldsWrong)

/-- 'dragomanlaw13.VietBytes': WHATEVER THE INPUT: true; the input reads as it did. -/
def vietBytesSpec : ChangeSpec := { name := "vietBytes", fn := fun _ => fun
  | [d] => { results := [.lit (.bool true)], args := [d] }
  | _ => none }
def vietBytesRow : OpenClaim := { program := "ytadpmdlajfojiaadoor", sum := "6001c091fc919e213dd11839bf1c041b50feace24e80c4f0bb3dc59c07da615b", func := "dragoman/dragomanlaw13.VietBytes", spec := "vietBytes", named := ["dragoman/viet.list"], plainKeys := false, apart := false, laid := [("dragoman/viet.list", laid_dragoman_viet_list)] }
def VietBytesSaid : Prop := vietBytesRow.holds Tryd.pinned (OpenSpec.ofChange vietBytesSpec)

/-- ITS FALSE NEIGHBOUR: 'it returns false'. Refute it at one input. -/
def vietBytesWrong : ChangeSpec := { name := "vietBytes", fn := fun _ => fun
  | [d] => { results := [.lit (.bool false)], args := [d] }
  | _ => none }
def VietBytesWrongFalsely : Prop := vietBytesRow.holds Tryd.pinned (OpenSpec.ofChange vietBytesWrong)

/- THE SECOND FORM. 'bulk': how many values and letters a reading holds, each counted each time it is reached (what is shared counts as often as it is met; a slice's spare places count too). A statement '..UptoSaid' is the law's where the arguments, and the package variables that the reading takes, are together of bulk at most 1048576: NARROWER than '..Said'. Prove '..Said' where nothing that the law and all that it calls make is longer than what came in: it says more and counts as full. Else prove '..UptoSaid'. A law counts once. -/
mutual
def uptoBulk {H : Type} : DataW H → Nat
  | .lit (.string bytes) => bytes.length + 1
  | .lit _ => 1
  | .nil => 1
  | .ptr d => uptoBulk d + 1
  | .slice elems spare => uptoBulkAll elems + uptoBulkAll spare + 1
  | .agg parts => uptoBulkAll parts + 1
  | .iface _ d => uptoBulk d + 1
  | .map entries => uptoBulkEntries entries + 1
  | .held _ => 1
def uptoBulkAll {H : Type} : List (DataW H) → Nat
  | [] => 0
  | d :: r => uptoBulk d + uptoBulkAll r
def uptoBulkEntries {H : Type} : List (Lit × DataW H) → Nat
  | [] => 0
  | x :: r => uptoBulkEntry x + uptoBulkEntries r
def uptoBulkEntry {H : Type} : Lit × DataW H → Nat
  | (.string bytes, d) => bytes.length + uptoBulk d + 1
  | (_, d) => uptoBulk d + 1
 end
def uptoSmall : (H : Type) → List (DataW H) → Bool := fun _ ds => decide (uptoBulkAll ds ≤ 1048576)
def OpenSpec.upto (s : _root_.Go.ChangeSpec) : _root_.Go.OpenSpec := { _root_.Go.OpenSpec.ofChange s with cond := some uptoSmall }

/-- 'dragomanlaw13.VietSets', WHERE WHAT IT READS IS OF BULK AT MOST 1048576: true; the input reads as it did. -/
def vietSetsUptoRow : OpenClaim := { program := "ytadpmdlajfojiaadoor", sum := "6001c091fc919e213dd11839bf1c041b50feace24e80c4f0bb3dc59c07da615b", func := "dragoman/dragomanlaw13.VietSets", spec := "vietSets", named := ["dragoman/viet.list"], plainKeys := false, apart := false, laid := [("dragoman/viet.list", laid_dragoman_viet_list)], narrowed := true }
def VietSetsUptoSaid : Prop := vietSetsUptoRow.holds Tryd.pinned (OpenSpec.upto vietSetsSpec)

/-- 'dragomanlaw13.VietGets', WHERE WHAT IT READS IS OF BULK AT MOST 1048576: true; the input reads as it did. -/
def vietGetsUptoRow : OpenClaim := { program := "ytadpmdlajfojiaadoor", sum := "6001c091fc919e213dd11839bf1c041b50feace24e80c4f0bb3dc59c07da615b", func := "dragoman/dragomanlaw13.VietGets", spec := "vietGets", named := ["dragoman/viet.list"], plainKeys := false, apart := false, laid := [("dragoman/viet.list", laid_dragoman_viet_list)], narrowed := true }
def VietGetsUptoSaid : Prop := vietGetsUptoRow.holds Tryd.pinned (OpenSpec.upto vietGetsSpec)

/-- 'dragomanlaw13.VietBack', WHERE WHAT IT READS IS OF BULK AT MOST 1048576: true; the input reads as it did. -/
def vietBackUptoRow : OpenClaim := { program := "ytadpmdlajfojiaadoor", sum := "6001c091fc919e213dd11839bf1c041b50feace24e80c4f0bb3dc59c07da615b", func := "dragoman/dragomanlaw13.VietBack", spec := "vietBack", named := ["dragoman/viet.list"], plainKeys := false, apart := false, laid := [("dragoman/viet.list", laid_dragoman_viet_list)], narrowed := true }
def VietBackUptoSaid : Prop := vietBackUptoRow.holds Tryd.pinned (OpenSpec.upto vietBackSpec)

/-- 'dragomanlaw13.VietHolds', WHERE WHAT IT READS IS OF BULK AT MOST 1048576: true; the input reads as it did. -/
def vietHoldsUptoRow : OpenClaim := { program := "ytadpmdlajfojiaadoor", sum := "6001c091fc919e213dd11839bf1c041b50feace24e80c4f0bb3dc59c07da615b", func := "dragoman/dragomanlaw13.VietHolds", spec := "vietHolds", named := ["dragoman/viet.list"], plainKeys := false, apart := false, laid := [("dragoman/viet.list", laid_dragoman_viet_list)], narrowed := true }
def VietHoldsUptoSaid : Prop := vietHoldsUptoRow.holds Tryd.pinned (OpenSpec.upto vietHoldsSpec)

/-- 'dragomanlaw13.VietBytes', WHERE WHAT IT READS IS OF BULK AT MOST 1048576: true; the input reads as it did. -/
def vietBytesUptoRow : OpenClaim := { program := "ytadpmdlajfojiaadoor", sum := "6001c091fc919e213dd11839bf1c041b50feace24e80c4f0bb3dc59c07da615b", func := "dragoman/dragomanlaw13.VietBytes", spec := "vietBytes", named := ["dragoman/viet.list"], plainKeys := false, apart := false, laid := [("dragoman/viet.list", laid_dragoman_viet_list)], narrowed := true }
def VietBytesUptoSaid : Prop := vietBytesUptoRow.holds Tryd.pinned (OpenSpec.upto vietBytesSpec)

end Rows
end Go.Proofs.YtadpmdlajfojiaaDoor
