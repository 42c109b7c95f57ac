/-
  DERIVED. GIVEN WITH THE SEED: THE CARDS: each row of YtfmipdhkiahjoaaDoorRows.lean that lists a variable, with what it lists TIED to the program's text (the seventh form; the later family's looks); each row that meets fmt, with fmt's text TOLD by the authors' own Lean function (tested against real Go, not proved from fmt's source: count such statements apart). THE CARD IS WHAT COUNTS. Prove the row's statement (the work); the ties are given (YtfmipdhkiahjoaaDoorTie.lean); close each card by the builder's one call (the guide's Derived/Test/ToyasCard.lean, 'card_holds'). Laid BY PROGRAM, IN A SANDBOX (cutbox-door.mjs). By AI agents, Wed Nov 11 2026. No macro, syntax, notation, axiom, sorry.
-/
import Derived.Test.YtfmipdhkiahjoaaDoorRows
import GoSem.ClaimSeven
namespace Go.Proofs.YtfmipdhkiahjoaaDoor
namespace Rows

/-- THE TIED CARD OF 'laws.FnChartBent'. -/
def fnChartBentCard : Claim7 := { stood := { row := fnChartBentRow, standIns := [], harness := (true, "afd7da37ca1efa268aaa811de1015e74f09841c47b67dccaff25a7fd4f96b088"), looks := false }, kinds := [], alts := [], laidByText := true, laidKinds := [.data, .data, .data], laidTests := true, laidLooks := .later }
def FnChartBentCardSaid : Prop := Claim7.holds Tryd.pinned (.plain (OpenSpec.ofChange fnChartBentSpec)) fnChartBentCard

/-- THE SECOND FORM's CARD OF 'laws.FnChartBent'. -/
def fnChartBentUptoCard : Claim7 := { stood := { row := fnChartBentUptoRow, standIns := [], harness := (true, "afd7da37ca1efa268aaa811de1015e74f09841c47b67dccaff25a7fd4f96b088"), looks := false }, kinds := [], alts := [], laidByText := true, laidKinds := [.data, .data, .data], laidTests := true, laidLooks := .later }
def FnChartBentUptoCardSaid : Prop := Claim7.holds Tryd.pinned (.plain (OpenSpec.upto fnChartBentSpec)) fnChartBentUptoCard
end Rows
end Go.Proofs.YtfmipdhkiahjoaaDoor
