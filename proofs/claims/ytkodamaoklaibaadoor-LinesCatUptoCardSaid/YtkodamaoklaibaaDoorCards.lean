/-
  DERIVED. GIVEN WITH THE SEED: THE CARDS: each row of YtkodamaoklaibaaDoorRows.lean that lists a variable, with what it lists TIED to the program's text (the seventh form; the later family's looks); each row that meets fmt, with fmt's text TOLD by the authors' own Lean function (tested against real Go, not proved from fmt's source: count such statements apart). THE CARD IS WHAT COUNTS. Prove the row's statement (the work); the ties are given (YtkodamaoklaibaaDoorTie.lean); close each card by the builder's one call (the guide's Derived/Test/ToyasCard.lean, 'card_holds'). Laid BY PROGRAM, IN A SANDBOX (cutbox-door.mjs). By AI agents, Wed Nov 11 2026. No macro, syntax, notation, axiom, sorry.
-/
import Derived.Test.YtkodamaoklaibaaDoorRows
import GoSem.ClaimSeven
namespace Go.Proofs.YtkodamaoklaibaaDoor
namespace Rows

/-- THE TIED CARD OF 'redlinelaw02.LinesSplit'. -/
def linesSplitCard : Claim7 := { stood := { row := linesSplitRow, standIns := [], harness := (true, "93bf548b2a9836e36e90b9c8dcd572c36ac2360418611eb7fda9d458b85d7284"), looks := false }, kinds := [], alts := [], laidByText := true, laidKinds := [.data, .pinned], laidTests := true, laidLooks := .later }
def LinesSplitCardSaid : Prop := Claim7.holds Tryd.pinned (.plain (OpenSpec.ofChange linesSplitSpec)) linesSplitCard

/-- THE TIED CARD OF 'redlinelaw02.LinesCat'. -/
def linesCatCard : Claim7 := { stood := { row := linesCatRow, standIns := [], harness := (true, "93bf548b2a9836e36e90b9c8dcd572c36ac2360418611eb7fda9d458b85d7284"), looks := false }, kinds := [], alts := [], laidByText := true, laidKinds := [.data, .pinned], laidTests := true, laidLooks := .later }
def LinesCatCardSaid : Prop := Claim7.holds Tryd.pinned (.plain (OpenSpec.ofChange linesCatSpec)) linesCatCard

/-- THE TIED CARD OF 'redlinelaw02.LinesAgree'. -/
def linesAgreeCard : Claim7 := { stood := { row := linesAgreeRow, standIns := [], harness := (true, "93bf548b2a9836e36e90b9c8dcd572c36ac2360418611eb7fda9d458b85d7284"), looks := false }, kinds := [], alts := [], laidByText := true, laidKinds := [.data, .pinned], laidTests := true, laidLooks := .later }
def LinesAgreeCardSaid : Prop := Claim7.holds Tryd.pinned (.plain (OpenSpec.ofChange linesAgreeSpec)) linesAgreeCard

/-- THE TIED CARD OF 'redlinelaw02.LinesBack'. -/
def linesBackCard : Claim7 := { stood := { row := linesBackRow, standIns := [], harness := (true, "93bf548b2a9836e36e90b9c8dcd572c36ac2360418611eb7fda9d458b85d7284"), looks := false }, kinds := [], alts := [], laidByText := true, laidKinds := [.data, .pinned], laidTests := true, laidLooks := .later }
def LinesBackCardSaid : Prop := Claim7.holds Tryd.pinned (.plain (OpenSpec.ofChange linesBackSpec)) linesBackCard

/-- THE SECOND FORM's CARD OF 'redlinelaw02.LinesSplit'. -/
def linesSplitUptoCard : Claim7 := { stood := { row := linesSplitUptoRow, standIns := [], harness := (true, "93bf548b2a9836e36e90b9c8dcd572c36ac2360418611eb7fda9d458b85d7284"), looks := false }, kinds := [], alts := [], laidByText := true, laidKinds := [.data, .pinned], laidTests := true, laidLooks := .later }
def LinesSplitUptoCardSaid : Prop := Claim7.holds Tryd.pinned (.plain (OpenSpec.upto linesSplitSpec)) linesSplitUptoCard

/-- THE SECOND FORM's CARD OF 'redlinelaw02.LinesCat'. -/
def linesCatUptoCard : Claim7 := { stood := { row := linesCatUptoRow, standIns := [], harness := (true, "93bf548b2a9836e36e90b9c8dcd572c36ac2360418611eb7fda9d458b85d7284"), looks := false }, kinds := [], alts := [], laidByText := true, laidKinds := [.data, .pinned], laidTests := true, laidLooks := .later }
def LinesCatUptoCardSaid : Prop := Claim7.holds Tryd.pinned (.plain (OpenSpec.upto linesCatSpec)) linesCatUptoCard

/-- THE SECOND FORM's CARD OF 'redlinelaw02.LinesAgree'. -/
def linesAgreeUptoCard : Claim7 := { stood := { row := linesAgreeUptoRow, standIns := [], harness := (true, "93bf548b2a9836e36e90b9c8dcd572c36ac2360418611eb7fda9d458b85d7284"), looks := false }, kinds := [], alts := [], laidByText := true, laidKinds := [.data, .pinned], laidTests := true, laidLooks := .later }
def LinesAgreeUptoCardSaid : Prop := Claim7.holds Tryd.pinned (.plain (OpenSpec.upto linesAgreeSpec)) linesAgreeUptoCard

/-- THE SECOND FORM's CARD OF 'redlinelaw02.LinesBack'. -/
def linesBackUptoCard : Claim7 := { stood := { row := linesBackUptoRow, standIns := [], harness := (true, "93bf548b2a9836e36e90b9c8dcd572c36ac2360418611eb7fda9d458b85d7284"), looks := false }, kinds := [], alts := [], laidByText := true, laidKinds := [.data, .pinned], laidTests := true, laidLooks := .later }
def LinesBackUptoCardSaid : Prop := Claim7.holds Tryd.pinned (.plain (OpenSpec.upto linesBackSpec)) linesBackUptoCard
end Rows
end Go.Proofs.YtkodamaoklaibaaDoor
