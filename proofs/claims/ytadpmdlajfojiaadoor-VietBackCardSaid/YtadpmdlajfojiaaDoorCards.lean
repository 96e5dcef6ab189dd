/-
  DERIVED. GIVEN WITH THE SEED: THE CARDS: each row of YtadpmdlajfojiaaDoorRows.lean that lists a variable, with what it lists TIED to the program's text (the seventh form; the later family's looks); each row that meets fmt, with fmt's text TOLD by the authors' own Lean function (tested against real Go, not proved from fmt's source: count such statements apart). THE CARD IS WHAT COUNTS. Prove the row's statement (the work); the ties are given (YtadpmdlajfojiaaDoorTie.lean); close each card by the builder's one call (the guide's Derived/Test/ToyasCard.lean, 'card_holds'). Laid BY PROGRAM, IN A SANDBOX (cutbox-door.mjs). By AI agents, Wed Nov 11 2026. No macro, syntax, notation, axiom, sorry.
-/
import Derived.Test.YtadpmdlajfojiaaDoorRows
import GoSem.ClaimSeven
namespace Go.Proofs.YtadpmdlajfojiaaDoor
namespace Rows

/-- THE TIED CARD OF 'dragomanlaw13.VietSets'. -/
def vietSetsCard : Claim7 := { stood := { row := vietSetsRow, standIns := [], harness := (true, "626f0b53068eb96d1d6e7545c1007a46ef82089d42a6b24c214d15ed061e6930"), looks := false }, kinds := [], alts := [], laidByText := true, laidKinds := [.data], laidTests := true, laidLooks := .later }
def VietSetsCardSaid : Prop := Claim7.holds Tryd.pinned (.plain (OpenSpec.ofChange vietSetsSpec)) vietSetsCard

/-- THE TIED CARD OF 'dragomanlaw13.VietGets'. -/
def vietGetsCard : Claim7 := { stood := { row := vietGetsRow, standIns := [], harness := (true, "626f0b53068eb96d1d6e7545c1007a46ef82089d42a6b24c214d15ed061e6930"), looks := false }, kinds := [], alts := [], laidByText := true, laidKinds := [.data], laidTests := true, laidLooks := .later }
def VietGetsCardSaid : Prop := Claim7.holds Tryd.pinned (.plain (OpenSpec.ofChange vietGetsSpec)) vietGetsCard

/-- THE TIED CARD OF 'dragomanlaw13.VietBack'. -/
def vietBackCard : Claim7 := { stood := { row := vietBackRow, standIns := [], harness := (true, "626f0b53068eb96d1d6e7545c1007a46ef82089d42a6b24c214d15ed061e6930"), looks := false }, kinds := [], alts := [], laidByText := true, laidKinds := [.data], laidTests := true, laidLooks := .later }
def VietBackCardSaid : Prop := Claim7.holds Tryd.pinned (.plain (OpenSpec.ofChange vietBackSpec)) vietBackCard

/-- THE TIED CARD OF 'dragomanlaw13.VietHolds'. -/
def vietHoldsCard : Claim7 := { stood := { row := vietHoldsRow, standIns := [], harness := (true, "626f0b53068eb96d1d6e7545c1007a46ef82089d42a6b24c214d15ed061e6930"), looks := false }, kinds := [], alts := [], laidByText := true, laidKinds := [.data], laidTests := true, laidLooks := .later }
def VietHoldsCardSaid : Prop := Claim7.holds Tryd.pinned (.plain (OpenSpec.ofChange vietHoldsSpec)) vietHoldsCard

/-- THE TIED CARD OF 'dragomanlaw13.VietBytes'. -/
def vietBytesCard : Claim7 := { stood := { row := vietBytesRow, standIns := [], harness := (true, "626f0b53068eb96d1d6e7545c1007a46ef82089d42a6b24c214d15ed061e6930"), looks := false }, kinds := [], alts := [], laidByText := true, laidKinds := [.data], laidTests := true, laidLooks := .later }
def VietBytesCardSaid : Prop := Claim7.holds Tryd.pinned (.plain (OpenSpec.ofChange vietBytesSpec)) vietBytesCard

/-- THE SECOND FORM's CARD OF 'dragomanlaw13.VietSets'. -/
def vietSetsUptoCard : Claim7 := { stood := { row := vietSetsUptoRow, standIns := [], harness := (true, "626f0b53068eb96d1d6e7545c1007a46ef82089d42a6b24c214d15ed061e6930"), looks := false }, kinds := [], alts := [], laidByText := true, laidKinds := [.data], laidTests := true, laidLooks := .later }
def VietSetsUptoCardSaid : Prop := Claim7.holds Tryd.pinned (.plain (OpenSpec.upto vietSetsSpec)) vietSetsUptoCard

/-- THE SECOND FORM's CARD OF 'dragomanlaw13.VietGets'. -/
def vietGetsUptoCard : Claim7 := { stood := { row := vietGetsUptoRow, standIns := [], harness := (true, "626f0b53068eb96d1d6e7545c1007a46ef82089d42a6b24c214d15ed061e6930"), looks := false }, kinds := [], alts := [], laidByText := true, laidKinds := [.data], laidTests := true, laidLooks := .later }
def VietGetsUptoCardSaid : Prop := Claim7.holds Tryd.pinned (.plain (OpenSpec.upto vietGetsSpec)) vietGetsUptoCard

/-- THE SECOND FORM's CARD OF 'dragomanlaw13.VietBack'. -/
def vietBackUptoCard : Claim7 := { stood := { row := vietBackUptoRow, standIns := [], harness := (true, "626f0b53068eb96d1d6e7545c1007a46ef82089d42a6b24c214d15ed061e6930"), looks := false }, kinds := [], alts := [], laidByText := true, laidKinds := [.data], laidTests := true, laidLooks := .later }
def VietBackUptoCardSaid : Prop := Claim7.holds Tryd.pinned (.plain (OpenSpec.upto vietBackSpec)) vietBackUptoCard

/-- THE SECOND FORM's CARD OF 'dragomanlaw13.VietHolds'. -/
def vietHoldsUptoCard : Claim7 := { stood := { row := vietHoldsUptoRow, standIns := [], harness := (true, "626f0b53068eb96d1d6e7545c1007a46ef82089d42a6b24c214d15ed061e6930"), looks := false }, kinds := [], alts := [], laidByText := true, laidKinds := [.data], laidTests := true, laidLooks := .later }
def VietHoldsUptoCardSaid : Prop := Claim7.holds Tryd.pinned (.plain (OpenSpec.upto vietHoldsSpec)) vietHoldsUptoCard

/-- THE SECOND FORM's CARD OF 'dragomanlaw13.VietBytes'. -/
def vietBytesUptoCard : Claim7 := { stood := { row := vietBytesUptoRow, standIns := [], harness := (true, "626f0b53068eb96d1d6e7545c1007a46ef82089d42a6b24c214d15ed061e6930"), looks := false }, kinds := [], alts := [], laidByText := true, laidKinds := [.data], laidTests := true, laidLooks := .later }
def VietBytesUptoCardSaid : Prop := Claim7.holds Tryd.pinned (.plain (OpenSpec.upto vietBytesSpec)) vietBytesUptoCard
end Rows
end Go.Proofs.YtadpmdlajfojiaaDoor
