/-
  DERIVED. GIVEN WITH THE SEED: THE CARDS: each row of YthafggbmomdkkaaDoorRows.lean that lists a variable, with what it lists TIED to the program's text (the seventh form; the later family's looks); each row that meets fmt, with fmt's text TOLD by the authors' own Lean function (tested against real Go, not proved from fmt's source: count such statements apart). THE CARD IS WHAT COUNTS. Prove the row's statement (the work); the ties are given (YthafggbmomdkkaaDoorTie.lean); close each card by the builder's one call (the guide's Derived/Test/ToyasCard.lean, 'card_holds'). Laid BY PROGRAM, IN A SANDBOX (cutbox-door.mjs). By AI agents, Wed Nov 11 2026. No macro, syntax, notation, axiom, sorry.
-/
import Derived.Test.YthafggbmomdkkaaDoorRows
import GoSem.ClaimSeven
namespace Go.Proofs.YthafggbmomdkkaaDoor
namespace Rows

/-- THE TIED CARD OF 'dragomanlaw22.TranslitAll'. -/
def translitAllCard : Claim7 := { stood := { row := translitAllRow, standIns := [], harness := (true, "f2793c66d4b33bfe2cf6da75739b13706fa60e0668a4fe99afead5e7ccc59f4a"), looks := false }, kinds := [], alts := [], laidByText := true, laidKinds := [.data, .pinned], laidTests := true, laidLooks := .later }
def TranslitAllCardSaid : Prop := Claim7.holds Tryd.pinned (.plain (OpenSpec.ofChange translitAllSpec)) translitAllCard

/-- THE TIED CARD OF 'dragomanlaw22.TranslitTells'. -/
def translitTellsCard : Claim7 := { stood := { row := translitTellsRow, standIns := [], harness := (true, "f2793c66d4b33bfe2cf6da75739b13706fa60e0668a4fe99afead5e7ccc59f4a"), looks := false }, kinds := [], alts := [], laidByText := true, laidKinds := [.data, .pinned], laidTests := true, laidLooks := .later }
def TranslitTellsCardSaid : Prop := Claim7.holds Tryd.pinned (.plain (OpenSpec.ofChange translitTellsSpec)) translitTellsCard

/-- THE TIED CARD OF 'dragomanlaw22.TranslitFirst'. -/
def translitFirstCard : Claim7 := { stood := { row := translitFirstRow, standIns := [], harness := (true, "f2793c66d4b33bfe2cf6da75739b13706fa60e0668a4fe99afead5e7ccc59f4a"), looks := false }, kinds := [], alts := [], laidByText := true, laidKinds := [.data, .pinned], laidTests := true, laidLooks := .later }
def TranslitFirstCardSaid : Prop := Claim7.holds Tryd.pinned (.plain (OpenSpec.ofChange translitFirstSpec)) translitFirstCard

/-- THE TIED CARD OF 'dragomanlaw22.TranslitShort'. -/
def translitShortCard : Claim7 := { stood := { row := translitShortRow, standIns := [], harness := (true, "f2793c66d4b33bfe2cf6da75739b13706fa60e0668a4fe99afead5e7ccc59f4a"), looks := false }, kinds := [], alts := [], laidByText := true, laidKinds := [.data, .pinned], laidTests := true, laidLooks := .later }
def TranslitShortCardSaid : Prop := Claim7.holds Tryd.pinned (.plain (OpenSpec.ofChange translitShortSpec)) translitShortCard

/-- THE TIED CARD OF 'dragomanlaw22.TranslitWide'. -/
def translitWideCard : Claim7 := { stood := { row := translitWideRow, standIns := [], harness := (true, "f2793c66d4b33bfe2cf6da75739b13706fa60e0668a4fe99afead5e7ccc59f4a"), looks := false }, kinds := [], alts := [], laidByText := true, laidKinds := [.data, .pinned], laidTests := true, laidLooks := .later }
def TranslitWideCardSaid : Prop := Claim7.holds Tryd.pinned (.plain (OpenSpec.ofChange translitWideSpec)) translitWideCard

/-- THE SECOND FORM's CARD OF 'dragomanlaw22.TranslitAll'. -/
def translitAllUptoCard : Claim7 := { stood := { row := translitAllUptoRow, standIns := [], harness := (true, "f2793c66d4b33bfe2cf6da75739b13706fa60e0668a4fe99afead5e7ccc59f4a"), looks := false }, kinds := [], alts := [], laidByText := true, laidKinds := [.data, .pinned], laidTests := true, laidLooks := .later }
def TranslitAllUptoCardSaid : Prop := Claim7.holds Tryd.pinned (.plain (OpenSpec.upto translitAllSpec)) translitAllUptoCard

/-- THE SECOND FORM's CARD OF 'dragomanlaw22.TranslitTells'. -/
def translitTellsUptoCard : Claim7 := { stood := { row := translitTellsUptoRow, standIns := [], harness := (true, "f2793c66d4b33bfe2cf6da75739b13706fa60e0668a4fe99afead5e7ccc59f4a"), looks := false }, kinds := [], alts := [], laidByText := true, laidKinds := [.data, .pinned], laidTests := true, laidLooks := .later }
def TranslitTellsUptoCardSaid : Prop := Claim7.holds Tryd.pinned (.plain (OpenSpec.upto translitTellsSpec)) translitTellsUptoCard

/-- THE SECOND FORM's CARD OF 'dragomanlaw22.TranslitFirst'. -/
def translitFirstUptoCard : Claim7 := { stood := { row := translitFirstUptoRow, standIns := [], harness := (true, "f2793c66d4b33bfe2cf6da75739b13706fa60e0668a4fe99afead5e7ccc59f4a"), looks := false }, kinds := [], alts := [], laidByText := true, laidKinds := [.data, .pinned], laidTests := true, laidLooks := .later }
def TranslitFirstUptoCardSaid : Prop := Claim7.holds Tryd.pinned (.plain (OpenSpec.upto translitFirstSpec)) translitFirstUptoCard

/-- THE SECOND FORM's CARD OF 'dragomanlaw22.TranslitShort'. -/
def translitShortUptoCard : Claim7 := { stood := { row := translitShortUptoRow, standIns := [], harness := (true, "f2793c66d4b33bfe2cf6da75739b13706fa60e0668a4fe99afead5e7ccc59f4a"), looks := false }, kinds := [], alts := [], laidByText := true, laidKinds := [.data, .pinned], laidTests := true, laidLooks := .later }
def TranslitShortUptoCardSaid : Prop := Claim7.holds Tryd.pinned (.plain (OpenSpec.upto translitShortSpec)) translitShortUptoCard

/-- THE SECOND FORM's CARD OF 'dragomanlaw22.TranslitWide'. -/
def translitWideUptoCard : Claim7 := { stood := { row := translitWideUptoRow, standIns := [], harness := (true, "f2793c66d4b33bfe2cf6da75739b13706fa60e0668a4fe99afead5e7ccc59f4a"), looks := false }, kinds := [], alts := [], laidByText := true, laidKinds := [.data, .pinned], laidTests := true, laidLooks := .later }
def TranslitWideUptoCardSaid : Prop := Claim7.holds Tryd.pinned (.plain (OpenSpec.upto translitWideSpec)) translitWideUptoCard
end Rows
end Go.Proofs.YthafggbmomdkkaaDoor
