/-
  DERIVED. GIVEN WITH THE SEED: THE CARDS: each row of YtlghkomipboflaaDoorRows.lean that lists a variable, with what it lists TIED to the program's text (the seventh form; the later family's looks); each row that meets fmt, with fmt's text TOLD by the authors' own Lean function (tested against real Go, not proved from fmt's source: count such statements apart). THE CARD IS WHAT COUNTS. Prove the row's statement (the work); the ties are given (YtlghkomipboflaaDoorTie.lean); close each card by the builder's one call (the guide's Derived/Test/ToyasCard.lean, 'card_holds'). Laid BY PROGRAM, IN A SANDBOX (cutbox-door.mjs). By AI agents, Wed Nov 11 2026. No macro, syntax, notation, axiom, sorry.
-/
import Derived.Test.YtlghkomipboflaaDoorRows
import GoSem.ClaimSeven
namespace Go.Proofs.YtlghkomipboflaaDoor
namespace Rows

/-- THE TIED CARD OF 'fescuelaw07.ReadNames'. -/
def readNamesCard : Claim7 := { stood := { row := readNamesRow, standIns := [], harness := (true, "0a60658a07d8cdf1cd7dd5ef1d35d0b0b75e27b98ffe944f82032b4ee99c65e2"), looks := true }, kinds := [], alts := [], laidByText := true, laidKinds := [.data], laidTests := true, laidLooks := .later }
def ReadNamesCardSaid : Prop := Claim7.holds Tryd.pinned (.plain (OpenSpec.ofChange readNamesSpec)) readNamesCard

/-- THE TIED CARD OF 'fescuelaw07.ReadShapes'. -/
def readShapesCard : Claim7 := { stood := { row := readShapesRow, standIns := [], harness := (true, "0a60658a07d8cdf1cd7dd5ef1d35d0b0b75e27b98ffe944f82032b4ee99c65e2"), looks := true }, kinds := [], alts := [], laidByText := true, laidKinds := [.data], laidTests := true, laidLooks := .later }
def ReadShapesCardSaid : Prop := Claim7.holds Tryd.pinned (.plain (OpenSpec.ofChange readShapesSpec)) readShapesCard

/-- THE TIED CARD OF 'fescuelaw07.ReadNoise'. -/
def readNoiseCard : Claim7 := { stood := { row := readNoiseRow, standIns := [], harness := (true, "0a60658a07d8cdf1cd7dd5ef1d35d0b0b75e27b98ffe944f82032b4ee99c65e2"), looks := true }, kinds := [], alts := [], laidByText := true, laidKinds := [.data], laidTests := true, laidLooks := .later }
def ReadNoiseCardSaid : Prop := Claim7.holds Tryd.pinned (.plain (OpenSpec.ofChange readNoiseSpec)) readNoiseCard

/-- THE TIED CARD OF 'fescuelaw07.ReadInts'. -/
def readIntsCard : Claim7 := { stood := { row := readIntsRow, standIns := [], harness := (true, "0a60658a07d8cdf1cd7dd5ef1d35d0b0b75e27b98ffe944f82032b4ee99c65e2"), looks := true }, kinds := [], alts := [], laidByText := true, laidKinds := [.data, .data, .data, .data], laidTests := true, laidLooks := .later }
def ReadIntsCardSaid : Prop := Claim7.holds Tryd.pinned (.plain (OpenSpec.ofChange readIntsSpec)) readIntsCard

/-- THE SECOND FORM's CARD OF 'fescuelaw07.ReadNames'. -/
def readNamesUptoCard : Claim7 := { stood := { row := readNamesUptoRow, standIns := [], harness := (true, "0a60658a07d8cdf1cd7dd5ef1d35d0b0b75e27b98ffe944f82032b4ee99c65e2"), looks := true }, kinds := [], alts := [], laidByText := true, laidKinds := [.data], laidTests := true, laidLooks := .later }
def ReadNamesUptoCardSaid : Prop := Claim7.holds Tryd.pinned (.plain (OpenSpec.upto readNamesSpec)) readNamesUptoCard

/-- THE SECOND FORM's CARD OF 'fescuelaw07.ReadShapes'. -/
def readShapesUptoCard : Claim7 := { stood := { row := readShapesUptoRow, standIns := [], harness := (true, "0a60658a07d8cdf1cd7dd5ef1d35d0b0b75e27b98ffe944f82032b4ee99c65e2"), looks := true }, kinds := [], alts := [], laidByText := true, laidKinds := [.data], laidTests := true, laidLooks := .later }
def ReadShapesUptoCardSaid : Prop := Claim7.holds Tryd.pinned (.plain (OpenSpec.upto readShapesSpec)) readShapesUptoCard

/-- THE SECOND FORM's CARD OF 'fescuelaw07.ReadNoise'. -/
def readNoiseUptoCard : Claim7 := { stood := { row := readNoiseUptoRow, standIns := [], harness := (true, "0a60658a07d8cdf1cd7dd5ef1d35d0b0b75e27b98ffe944f82032b4ee99c65e2"), looks := true }, kinds := [], alts := [], laidByText := true, laidKinds := [.data], laidTests := true, laidLooks := .later }
def ReadNoiseUptoCardSaid : Prop := Claim7.holds Tryd.pinned (.plain (OpenSpec.upto readNoiseSpec)) readNoiseUptoCard

/-- THE SECOND FORM's CARD OF 'fescuelaw07.ReadInts'. -/
def readIntsUptoCard : Claim7 := { stood := { row := readIntsUptoRow, standIns := [], harness := (true, "0a60658a07d8cdf1cd7dd5ef1d35d0b0b75e27b98ffe944f82032b4ee99c65e2"), looks := true }, kinds := [], alts := [], laidByText := true, laidKinds := [.data, .data, .data, .data], laidTests := true, laidLooks := .later }
def ReadIntsUptoCardSaid : Prop := Claim7.holds Tryd.pinned (.plain (OpenSpec.upto readIntsSpec)) readIntsUptoCard
end Rows
end Go.Proofs.YtlghkomipboflaaDoor
