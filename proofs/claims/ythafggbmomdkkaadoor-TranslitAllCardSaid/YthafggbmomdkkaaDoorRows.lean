/-
  NARROWER THAN 'FOR EVERY INPUT', by the rows' own cells (each row's printed sentence says how): TranslitAll: laid · TranslitTells: laid · TranslitFirst: laid · TranslitShort: laid · TranslitWide: laid.
  DERIVED. THE GIVEN ROWS OF THIS SEAT. 5 by the template 'for every input the law returns true; each argument reads behind the call as it read before'; 0 by the template 'total and deterministic' (their statements: YthafggbmomdkkaaDoorTotals.lean).
  GIVEN WITH THE SEED: the statements are not yours to turn. If you find one false, say at which input.
  Laid BY PROGRAM, IN A SANDBOX (cutbox-rows.mjs): the forced cells as the released guide's own fill.sh prints them over the translation 06c09222dfcca777… (all of the seat's roots in one cut). By AI agents, Wed Nov 11 2026. No macro, syntax, notation, axiom, sorry.
-/
import Derived.Test.YthafggbmomdkkaaDoorChecked
import GoSem.PinnedTables
import GoSem.Claim
import GoSem.ClaimJoined
import GoSem.ClaimMapViews
import Derived.JoinedTies
import Derived.KernelRfl
namespace Go.Proofs.YthafggbmomdkkaaDoor
/- THE CELL 'sum', in the pinned program and in every row, IS THE sha256 OF THE DUMP (.gsa) THAT YthafggbmomdkkaaDoorProg.lean LOADS. Nothing in Lean hashes anything: it is a label: what it is worth is what the hold of that sum in a sandbox is worth. -/
noncomputable def Tryd.pinned : Pinned := { name := "ythafggbmomdkkaadoor", sum := "06c09222dfcca77742295cf794062d614771f06bdfcdc89d67473cb4672e55a8", checked := Tryd.checked }
namespace Rows
def none {H : Type} : Left H := { results := [], args := [] }

/- WHAT THE LISTED PACKAGE-LEVEL VARIABLES READ AS WHEN THE CALL BEGINS. Each datum BY PROGRAM (the guide's laid-datum.mjs) off the statement by which the dump's own 'gosem.cut.vars' lays the variable. In a bare row this is a premise. The card (YthafggbmomdkkaaDoorCards.lean) ties it to the program's text. -/
def laid_unicode_utf8_acceptRanges {H : Type} : DataW H := .agg [.agg [.lit (.int .u8 128), .lit (.int .u8 191)], .agg [.lit (.int .u8 160), .lit (.int .u8 191)], .agg [.lit (.int .u8 128), .lit (.int .u8 159)], .agg [.lit (.int .u8 144), .lit (.int .u8 191)], .agg [.lit (.int .u8 128), .lit (.int .u8 143)], .agg [.lit (.int .u8 0), .lit (.int .u8 0)], .agg [.lit (.int .u8 0), .lit (.int .u8 0)], .agg [.lit (.int .u8 0), .lit (.int .u8 0)], .agg [.lit (.int .u8 0), .lit (.int .u8 0)], .agg [.lit (.int .u8 0), .lit (.int .u8 0)], .agg [.lit (.int .u8 0), .lit (.int .u8 0)], .agg [.lit (.int .u8 0), .lit (.int .u8 0)], .agg [.lit (.int .u8 0), .lit (.int .u8 0)], .agg [.lit (.int .u8 0), .lit (.int .u8 0)], .agg [.lit (.int .u8 0), .lit (.int .u8 0)], .agg [.lit (.int .u8 0), .lit (.int .u8 0)]]
/-- One of Go's own tables, pinned by name: the form's constant. -/
def laid_unicode_utf8_first : DataW Unit := Go.Pinned.utf8First

/-- 'dragomanlaw22.TranslitAll': WHATEVER THE INPUT: true; the input reads as it did. -/
def translitAllSpec : ChangeSpec := { name := "translitAll", fn := fun _ => fun
  | [d] => { results := [.lit (.bool true)], args := [d] }
  | _ => none }
def translitAllRow : OpenClaim := { program := "ythafggbmomdkkaadoor", sum := "06c09222dfcca77742295cf794062d614771f06bdfcdc89d67473cb4672e55a8", func := "dragoman/dragomanlaw22.TranslitAll", spec := "translitAll", inPlace := ["internal/bytealg.CountString", "internal/bytealg.IndexByteString", "internal/bytealg.IndexString"], recurses := true, named := ["unicode/utf8.first", "unicode/utf8.acceptRanges", "internal/bytealg.MaxLen"], apart := false, laid := [("unicode/utf8.acceptRanges", laid_unicode_utf8_acceptRanges), ("unicode/utf8.first", laid_unicode_utf8_first)] }
def TranslitAllSaid : Prop := translitAllRow.holds Tryd.pinned (OpenSpec.ofChange translitAllSpec)

/-- ITS FALSE NEIGHBOUR: 'it returns false'. Refute it at one input. -/
def translitAllWrong : ChangeSpec := { name := "translitAll", fn := fun _ => fun
  | [d] => { results := [.lit (.bool false)], args := [d] }
  | _ => none }
def TranslitAllWrongFalsely : Prop := translitAllRow.holds Tryd.pinned (OpenSpec.ofChange translitAllWrong)

/-- 'dragomanlaw22.TranslitTells': WHATEVER THE INPUT: true; the input reads as it did. -/
def translitTellsSpec : ChangeSpec := { name := "translitTells", fn := fun _ => fun
  | [d] => { results := [.lit (.bool true)], args := [d] }
  | _ => none }
def translitTellsRow : OpenClaim := { program := "ythafggbmomdkkaadoor", sum := "06c09222dfcca77742295cf794062d614771f06bdfcdc89d67473cb4672e55a8", func := "dragoman/dragomanlaw22.TranslitTells", spec := "translitTells", inPlace := ["internal/bytealg.CountString", "internal/bytealg.IndexByteString", "internal/bytealg.IndexString"], named := ["unicode/utf8.first", "unicode/utf8.acceptRanges", "internal/bytealg.MaxLen"], apart := false, laid := [("unicode/utf8.acceptRanges", laid_unicode_utf8_acceptRanges), ("unicode/utf8.first", laid_unicode_utf8_first)] }
def TranslitTellsSaid : Prop := translitTellsRow.holds Tryd.pinned (OpenSpec.ofChange translitTellsSpec)

/-- ITS FALSE NEIGHBOUR: 'it returns false'. Refute it at one input. -/
def translitTellsWrong : ChangeSpec := { name := "translitTells", fn := fun _ => fun
  | [d] => { results := [.lit (.bool false)], args := [d] }
  | _ => none }
def TranslitTellsWrongFalsely : Prop := translitTellsRow.holds Tryd.pinned (OpenSpec.ofChange translitTellsWrong)

/-- 'dragomanlaw22.TranslitFirst': WHATEVER THE INPUT: true; the input reads as it did. -/
def translitFirstSpec : ChangeSpec := { name := "translitFirst", fn := fun _ => fun
  | [d1, d2] => { results := [.lit (.bool true)], args := [d1, d2] }
  | _ => none }
def translitFirstRow : OpenClaim := { program := "ythafggbmomdkkaadoor", sum := "06c09222dfcca77742295cf794062d614771f06bdfcdc89d67473cb4672e55a8", func := "dragoman/dragomanlaw22.TranslitFirst", spec := "translitFirst", inPlace := ["internal/bytealg.CountString", "internal/bytealg.IndexByteString", "internal/bytealg.IndexString"], named := ["unicode/utf8.first", "unicode/utf8.acceptRanges", "internal/bytealg.MaxLen"], apart := false, laid := [("unicode/utf8.acceptRanges", laid_unicode_utf8_acceptRanges), ("unicode/utf8.first", laid_unicode_utf8_first)] }
def TranslitFirstSaid : Prop := translitFirstRow.holds Tryd.pinned (OpenSpec.ofChange translitFirstSpec)

/-- ITS FALSE NEIGHBOUR: 'it returns false'. Refute it at one input. -/
def translitFirstWrong : ChangeSpec := { name := "translitFirst", fn := fun _ => fun
  | [d1, d2] => { results := [.lit (.bool false)], args := [d1, d2] }
  | _ => none }
def TranslitFirstWrongFalsely : Prop := translitFirstRow.holds Tryd.pinned (OpenSpec.ofChange translitFirstWrong)

/-- 'dragomanlaw22.TranslitShort': WHATEVER THE INPUT: true; the input reads as it did. -/
def translitShortSpec : ChangeSpec := { name := "translitShort", fn := fun _ => fun
  | [d] => { results := [.lit (.bool true)], args := [d] }
  | _ => none }
def translitShortRow : OpenClaim := { program := "ythafggbmomdkkaadoor", sum := "06c09222dfcca77742295cf794062d614771f06bdfcdc89d67473cb4672e55a8", func := "dragoman/dragomanlaw22.TranslitShort", spec := "translitShort", inPlace := ["internal/bytealg.CountString", "internal/bytealg.IndexByteString", "internal/bytealg.IndexString"], named := ["unicode/utf8.first", "unicode/utf8.acceptRanges", "internal/bytealg.MaxLen"], apart := false, laid := [("unicode/utf8.acceptRanges", laid_unicode_utf8_acceptRanges), ("unicode/utf8.first", laid_unicode_utf8_first)] }
def TranslitShortSaid : Prop := translitShortRow.holds Tryd.pinned (OpenSpec.ofChange translitShortSpec)

/-- ITS FALSE NEIGHBOUR: 'it returns false'. Refute it at one input. -/
def translitShortWrong : ChangeSpec := { name := "translitShort", fn := fun _ => fun
  | [d] => { results := [.lit (.bool false)], args := [d] }
  | _ => none }
def TranslitShortWrongFalsely : Prop := translitShortRow.holds Tryd.pinned (OpenSpec.ofChange translitShortWrong)

/-- 'dragomanlaw22.TranslitWide': WHATEVER THE INPUT: true; the input reads as it did. -/
def translitWideSpec : ChangeSpec := { name := "translitWide", fn := fun _ => fun
  | [d] => { results := [.lit (.bool true)], args := [d] }
  | _ => none }
def translitWideRow : OpenClaim := { program := "ythafggbmomdkkaadoor", sum := "06c09222dfcca77742295cf794062d614771f06bdfcdc89d67473cb4672e55a8", func := "dragoman/dragomanlaw22.TranslitWide", spec := "translitWide", inPlace := ["internal/bytealg.CountString", "internal/bytealg.IndexByteString", "internal/bytealg.IndexString"], named := ["unicode/utf8.first", "unicode/utf8.acceptRanges", "internal/bytealg.MaxLen"], apart := false, laid := [("unicode/utf8.acceptRanges", laid_unicode_utf8_acceptRanges), ("unicode/utf8.first", laid_unicode_utf8_first)] }
def TranslitWideSaid : Prop := translitWideRow.holds Tryd.pinned (OpenSpec.ofChange translitWideSpec)

/-- ITS FALSE NEIGHBOUR: 'it returns false'. Refute it at one input. -/
def translitWideWrong : ChangeSpec := { name := "translitWide", fn := fun _ => fun
  | [d] => { results := [.lit (.bool false)], args := [d] }
  | _ => none }
def TranslitWideWrongFalsely : Prop := translitWideRow.holds Tryd.pinned (OpenSpec.ofChange translitWideWrong)

/- THE SECOND FORM. 'bulk': how many values and letters a reading holds, each counted each time it is reached (what is shared counts as often as it is met; a slice's spare places count too). A statement '..UptoSaid' is the law's where the arguments, and the package variables that the reading takes, are together of bulk at most 1048576: NARROWER than '..Said'. Prove '..Said' where nothing that the law and all that it calls make is longer than what came in: it says more and counts as full. Else prove '..UptoSaid'. A law counts once. -/
mutual
def uptoBulk {H : Type} : DataW H → Nat
  | .lit (.string bytes) => bytes.length + 1
  | .lit _ => 1
  | .nil => 1
  | .ptr d => uptoBulk d + 1
  | .slice elems spare => uptoBulkAll elems + uptoBulkAll spare + 1
  | .agg parts => uptoBulkAll parts + 1
  | .iface _ d => uptoBulk d + 1
  | .map entries => uptoBulkEntries entries + 1
  | .held _ => 1
def uptoBulkAll {H : Type} : List (DataW H) → Nat
  | [] => 0
  | d :: r => uptoBulk d + uptoBulkAll r
def uptoBulkEntries {H : Type} : List (Lit × DataW H) → Nat
  | [] => 0
  | x :: r => uptoBulkEntry x + uptoBulkEntries r
def uptoBulkEntry {H : Type} : Lit × DataW H → Nat
  | (.string bytes, d) => bytes.length + uptoBulk d + 1
  | (_, d) => uptoBulk d + 1
 end
def uptoSmall : (H : Type) → List (DataW H) → Bool := fun _ ds => decide (uptoBulkAll ds ≤ 1048576)
def OpenSpec.upto (s : _root_.Go.ChangeSpec) : _root_.Go.OpenSpec := { _root_.Go.OpenSpec.ofChange s with cond := some uptoSmall }

/-- 'dragomanlaw22.TranslitAll', WHERE WHAT IT READS IS OF BULK AT MOST 1048576: true; the input reads as it did. -/
def translitAllUptoRow : OpenClaim := { program := "ythafggbmomdkkaadoor", sum := "06c09222dfcca77742295cf794062d614771f06bdfcdc89d67473cb4672e55a8", func := "dragoman/dragomanlaw22.TranslitAll", spec := "translitAll", inPlace := ["internal/bytealg.CountString", "internal/bytealg.IndexByteString", "internal/bytealg.IndexString"], recurses := true, named := ["unicode/utf8.first", "unicode/utf8.acceptRanges", "internal/bytealg.MaxLen"], apart := false, laid := [("unicode/utf8.acceptRanges", laid_unicode_utf8_acceptRanges), ("unicode/utf8.first", laid_unicode_utf8_first)], narrowed := true }
def TranslitAllUptoSaid : Prop := translitAllUptoRow.holds Tryd.pinned (OpenSpec.upto translitAllSpec)

/-- 'dragomanlaw22.TranslitTells', WHERE WHAT IT READS IS OF BULK AT MOST 1048576: true; the input reads as it did. -/
def translitTellsUptoRow : OpenClaim := { program := "ythafggbmomdkkaadoor", sum := "06c09222dfcca77742295cf794062d614771f06bdfcdc89d67473cb4672e55a8", func := "dragoman/dragomanlaw22.TranslitTells", spec := "translitTells", inPlace := ["internal/bytealg.CountString", "internal/bytealg.IndexByteString", "internal/bytealg.IndexString"], named := ["unicode/utf8.first", "unicode/utf8.acceptRanges", "internal/bytealg.MaxLen"], apart := false, laid := [("unicode/utf8.acceptRanges", laid_unicode_utf8_acceptRanges), ("unicode/utf8.first", laid_unicode_utf8_first)], narrowed := true }
def TranslitTellsUptoSaid : Prop := translitTellsUptoRow.holds Tryd.pinned (OpenSpec.upto translitTellsSpec)

/-- 'dragomanlaw22.TranslitFirst', WHERE WHAT IT READS IS OF BULK AT MOST 1048576: true; the input reads as it did. -/
def translitFirstUptoRow : OpenClaim := { program := "ythafggbmomdkkaadoor", sum := "06c09222dfcca77742295cf794062d614771f06bdfcdc89d67473cb4672e55a8", func := "dragoman/dragomanlaw22.TranslitFirst", spec := "translitFirst", inPlace := ["internal/bytealg.CountString", "internal/bytealg.IndexByteString", "internal/bytealg.IndexString"], named := ["unicode/utf8.first", "unicode/utf8.acceptRanges", "internal/bytealg.MaxLen"], apart := false, laid := [("unicode/utf8.acceptRanges", laid_unicode_utf8_acceptRanges), ("unicode/utf8.first", laid_unicode_utf8_first)], narrowed := true }
def TranslitFirstUptoSaid : Prop := translitFirstUptoRow.holds Tryd.pinned (OpenSpec.upto translitFirstSpec)

/-- 'dragomanlaw22.TranslitShort', WHERE WHAT IT READS IS OF BULK AT MOST 1048576: true; the input reads as it did. -/
def translitShortUptoRow : OpenClaim := { program := "ythafggbmomdkkaadoor", sum := "06c09222dfcca77742295cf794062d614771f06bdfcdc89d67473cb4672e55a8", func := "dragoman/dragomanlaw22.TranslitShort", spec := "translitShort", inPlace := ["internal/bytealg.CountString", "internal/bytealg.IndexByteString", "internal/bytealg.IndexString"], named := ["unicode/utf8.first", "unicode/utf8.acceptRanges", "internal/bytealg.MaxLen"], apart := false, laid := [("unicode/utf8.acceptRanges", laid_unicode_utf8_acceptRanges), ("unicode/utf8.first", laid_unicode_utf8_first)], narrowed := true }
def TranslitShortUptoSaid : Prop := translitShortUptoRow.holds Tryd.pinned (OpenSpec.upto translitShortSpec)

/-- 'dragomanlaw22.TranslitWide', WHERE WHAT IT READS IS OF BULK AT MOST 1048576: true; the input reads as it did. -/
def translitWideUptoRow : OpenClaim := { program := "ythafggbmomdkkaadoor", sum := "06c09222dfcca77742295cf794062d614771f06bdfcdc89d67473cb4672e55a8", func := "dragoman/dragomanlaw22.TranslitWide", spec := "translitWide", inPlace := ["internal/bytealg.CountString", "internal/bytealg.IndexByteString", "internal/bytealg.IndexString"], named := ["unicode/utf8.first", "unicode/utf8.acceptRanges", "internal/bytealg.MaxLen"], apart := false, laid := [("unicode/utf8.acceptRanges", laid_unicode_utf8_acceptRanges), ("unicode/utf8.first", laid_unicode_utf8_first)], narrowed := true }
def TranslitWideUptoSaid : Prop := translitWideUptoRow.holds Tryd.pinned (OpenSpec.upto translitWideSpec)

end Rows
end Go.Proofs.YthafggbmomdkkaaDoor
