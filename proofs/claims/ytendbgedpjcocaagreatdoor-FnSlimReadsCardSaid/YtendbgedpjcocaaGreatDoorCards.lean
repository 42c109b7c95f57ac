/-
  DERIVED. GIVEN WITH THE SEED: THE CARDS: each row of YtendbgedpjcocaaGreatDoorRows.lean that lists a variable, with what it lists TIED to the program's text (the seventh form; the later family's looks); each row that meets fmt, with fmt's text TOLD by the authors' own Lean function (tested against real Go, not proved from fmt's source: count such statements apart). THE CARD IS WHAT COUNTS. Prove the row's statement (the work); the ties are given (YtendbgedpjcocaaGreatDoorTie.lean); close each card by the builder's one call (the guide's Derived/Test/ToyasCard.lean, 'card_holds'). Laid BY PROGRAM, IN A SANDBOX (cutbox-door.mjs). By AI agents, Wed Nov 11 2026. No macro, syntax, notation, axiom, sorry.
-/
import Derived.Test.YtendbgedpjcocaaGreatDoorRows
import GoSem.ClaimSeven
namespace Go.Proofs.YtendbgedpjcocaaGreatDoor
namespace Rows

/-- THE TIED CARD OF 'laws.FnRunSame'. -/
def fnRunSameCard : Claim7 := { stood := { row := fnRunSameRow, standIns := [], harness := (true, "ba86ad54cbb85caa94d9015d69062235b5e9af1cc889b627d03dfa6fd5bfefdf"), looks := true }, kinds := [], alts := [], laidByText := true, laidKinds := [.sentinel], laidTests := true, laidLooks := .later }
def FnRunSameCardSaid : Prop := Claim7.holds Tryz.pinned (.plain (OpenSpec.ofChange fnRunSameSpec)) fnRunSameCard

/-- THE TIED CARD OF 'laws.FnRunSet'. -/
def fnRunSetCard : Claim7 := { stood := { row := fnRunSetRow, standIns := [], harness := (true, "ba86ad54cbb85caa94d9015d69062235b5e9af1cc889b627d03dfa6fd5bfefdf"), looks := true }, kinds := [], alts := [], laidByText := true, laidKinds := [.sentinel], laidTests := true, laidLooks := .later }
def FnRunSetCardSaid : Prop := Claim7.holds Tryz.pinned (.plain (OpenSpec.ofChange fnRunSetSpec)) fnRunSetCard

/-- THE TIED CARD OF 'laws.FnRunTwo'. -/
def fnRunTwoCard : Claim7 := { stood := { row := fnRunTwoRow, standIns := [], harness := (true, "ba86ad54cbb85caa94d9015d69062235b5e9af1cc889b627d03dfa6fd5bfefdf"), looks := true }, kinds := [], alts := [], laidByText := true, laidKinds := [.sentinel], laidTests := true, laidLooks := .later }
def FnRunTwoCardSaid : Prop := Claim7.holds Tryz.pinned (.plain (OpenSpec.ofChange fnRunTwoSpec)) fnRunTwoCard

/-- THE TIED CARD OF 'laws.FnRun'. -/
def fnRunCard : Claim7 := { stood := { row := fnRunRow, standIns := [], harness := (true, "ba86ad54cbb85caa94d9015d69062235b5e9af1cc889b627d03dfa6fd5bfefdf"), looks := true }, kinds := [], alts := [], laidByText := true, laidKinds := [.sentinel], laidTests := true, laidLooks := .later }
def FnRunCardSaid : Prop := Claim7.holds Tryz.pinned (.plain (OpenSpec.ofChange fnRunSpec)) fnRunCard

/-- THE TIED CARD OF 'laws.FnRunIf'. -/
def fnRunIfCard : Claim7 := { stood := { row := fnRunIfRow, standIns := [], harness := (true, "ba86ad54cbb85caa94d9015d69062235b5e9af1cc889b627d03dfa6fd5bfefdf"), looks := true }, kinds := [], alts := [], laidByText := true, laidKinds := [.sentinel], laidTests := true, laidLooks := .later }
def FnRunIfCardSaid : Prop := Claim7.holds Tryz.pinned (.plain (OpenSpec.ofChange fnRunIfSpec)) fnRunIfCard

/-- THE TIED CARD OF 'laws.FnRunWhile'. -/
def fnRunWhileCard : Claim7 := { stood := { row := fnRunWhileRow, standIns := [], harness := (true, "ba86ad54cbb85caa94d9015d69062235b5e9af1cc889b627d03dfa6fd5bfefdf"), looks := true }, kinds := [], alts := [], laidByText := true, laidKinds := [.sentinel], laidTests := true, laidLooks := .later }
def FnRunWhileCardSaid : Prop := Claim7.holds Tryz.pinned (.plain (OpenSpec.ofChange fnRunWhileSpec)) fnRunWhileCard

/-- THE TIED CARD OF 'laws.FnSlimReads'. -/
def fnSlimReadsCard : Claim7 := { stood := { row := fnSlimReadsRow, standIns := [], harness := (true, "ba86ad54cbb85caa94d9015d69062235b5e9af1cc889b627d03dfa6fd5bfefdf"), looks := true }, kinds := [], alts := [], laidByText := true, laidKinds := [.sentinel], laidTests := true, laidLooks := .later }
def FnSlimReadsCardSaid : Prop := Claim7.holds Tryz.pinned (.plain (OpenSpec.ofChange fnSlimReadsSpec)) fnSlimReadsCard

/-- THE SECOND FORM's CARD OF 'laws.FnRunSame'. -/
def fnRunSameUptoCard : Claim7 := { stood := { row := fnRunSameUptoRow, standIns := [], harness := (true, "ba86ad54cbb85caa94d9015d69062235b5e9af1cc889b627d03dfa6fd5bfefdf"), looks := true }, kinds := [], alts := [], laidByText := true, laidKinds := [.sentinel], laidTests := true, laidLooks := .later }
def FnRunSameUptoCardSaid : Prop := Claim7.holds Tryz.pinned (.plain (OpenSpec.upto fnRunSameSpec)) fnRunSameUptoCard

/-- THE SECOND FORM's CARD OF 'laws.FnRunSet'. -/
def fnRunSetUptoCard : Claim7 := { stood := { row := fnRunSetUptoRow, standIns := [], harness := (true, "ba86ad54cbb85caa94d9015d69062235b5e9af1cc889b627d03dfa6fd5bfefdf"), looks := true }, kinds := [], alts := [], laidByText := true, laidKinds := [.sentinel], laidTests := true, laidLooks := .later }
def FnRunSetUptoCardSaid : Prop := Claim7.holds Tryz.pinned (.plain (OpenSpec.upto fnRunSetSpec)) fnRunSetUptoCard

/-- THE SECOND FORM's CARD OF 'laws.FnRunTwo'. -/
def fnRunTwoUptoCard : Claim7 := { stood := { row := fnRunTwoUptoRow, standIns := [], harness := (true, "ba86ad54cbb85caa94d9015d69062235b5e9af1cc889b627d03dfa6fd5bfefdf"), looks := true }, kinds := [], alts := [], laidByText := true, laidKinds := [.sentinel], laidTests := true, laidLooks := .later }
def FnRunTwoUptoCardSaid : Prop := Claim7.holds Tryz.pinned (.plain (OpenSpec.upto fnRunTwoSpec)) fnRunTwoUptoCard

/-- THE SECOND FORM's CARD OF 'laws.FnRun'. -/
def fnRunUptoCard : Claim7 := { stood := { row := fnRunUptoRow, standIns := [], harness := (true, "ba86ad54cbb85caa94d9015d69062235b5e9af1cc889b627d03dfa6fd5bfefdf"), looks := true }, kinds := [], alts := [], laidByText := true, laidKinds := [.sentinel], laidTests := true, laidLooks := .later }
def FnRunUptoCardSaid : Prop := Claim7.holds Tryz.pinned (.plain (OpenSpec.upto fnRunSpec)) fnRunUptoCard

/-- THE SECOND FORM's CARD OF 'laws.FnRunIf'. -/
def fnRunIfUptoCard : Claim7 := { stood := { row := fnRunIfUptoRow, standIns := [], harness := (true, "ba86ad54cbb85caa94d9015d69062235b5e9af1cc889b627d03dfa6fd5bfefdf"), looks := true }, kinds := [], alts := [], laidByText := true, laidKinds := [.sentinel], laidTests := true, laidLooks := .later }
def FnRunIfUptoCardSaid : Prop := Claim7.holds Tryz.pinned (.plain (OpenSpec.upto fnRunIfSpec)) fnRunIfUptoCard

/-- THE SECOND FORM's CARD OF 'laws.FnRunWhile'. -/
def fnRunWhileUptoCard : Claim7 := { stood := { row := fnRunWhileUptoRow, standIns := [], harness := (true, "ba86ad54cbb85caa94d9015d69062235b5e9af1cc889b627d03dfa6fd5bfefdf"), looks := true }, kinds := [], alts := [], laidByText := true, laidKinds := [.sentinel], laidTests := true, laidLooks := .later }
def FnRunWhileUptoCardSaid : Prop := Claim7.holds Tryz.pinned (.plain (OpenSpec.upto fnRunWhileSpec)) fnRunWhileUptoCard

/-- THE SECOND FORM's CARD OF 'laws.FnSlimReads'. -/
def fnSlimReadsUptoCard : Claim7 := { stood := { row := fnSlimReadsUptoRow, standIns := [], harness := (true, "ba86ad54cbb85caa94d9015d69062235b5e9af1cc889b627d03dfa6fd5bfefdf"), looks := true }, kinds := [], alts := [], laidByText := true, laidKinds := [.sentinel], laidTests := true, laidLooks := .later }
def FnSlimReadsUptoCardSaid : Prop := Claim7.holds Tryz.pinned (.plain (OpenSpec.upto fnSlimReadsSpec)) fnSlimReadsUptoCard
end Rows
end Go.Proofs.YtendbgedpjcocaaGreatDoor
