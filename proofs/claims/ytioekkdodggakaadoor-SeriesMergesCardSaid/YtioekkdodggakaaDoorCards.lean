/-
  DERIVED. GIVEN WITH THE SEED: THE CARDS: each row of YtioekkdodggakaaDoorRows.lean that lists a variable, with what it lists TIED to the program's text (the seventh form; the later family's looks); each row that meets fmt, with fmt's text TOLD by the authors' own Lean function (tested against real Go, not proved from fmt's source: count such statements apart). THE CARD IS WHAT COUNTS. Prove the row's statement (the work); the ties are given (YtioekkdodggakaaDoorTie.lean); close each card by the builder's one call (the guide's Derived/Test/ToyasCard.lean, 'card_holds'). Laid BY PROGRAM, IN A SANDBOX (cutbox-door.mjs). By AI agents, Wed Nov 11 2026. No macro, syntax, notation, axiom, sorry.
-/
import Derived.Test.YtioekkdodggakaaDoorRows
import GoSem.ClaimSeven
namespace Go.Proofs.YtioekkdodggakaaDoor
namespace Rows

/-- THE TIED CARD OF 'bournelaw25.SeriesMerges'. -/
def seriesMergesCard : Claim7 := { stood := { row := seriesMergesRow, standIns := [], harness := (true, "c743b71243715a7d6ddf8890ca6bd3957ab1fe66406bda572ac266f5123eff69"), looks := false }, kinds := [], alts := [], laidByText := true, laidKinds := [.data, .data], laidTests := true, laidLooks := .later }
def SeriesMergesCardSaid : Prop := Claim7.holds Tryd.pinned (.plain (OpenSpec.ofChange seriesMergesSpec)) seriesMergesCard

/-- THE TIED CARD OF 'bournelaw25.SeriesSets'. -/
def seriesSetsCard : Claim7 := { stood := { row := seriesSetsRow, standIns := [], harness := (true, "c743b71243715a7d6ddf8890ca6bd3957ab1fe66406bda572ac266f5123eff69"), looks := false }, kinds := [], alts := [], laidByText := true, laidKinds := [.data, .data], laidTests := true, laidLooks := .later }
def SeriesSetsCardSaid : Prop := Claim7.holds Tryd.pinned (.plain (OpenSpec.ofChange seriesSetsSpec)) seriesSetsCard

/-- THE TIED CARD OF 'bournelaw25.SeriesVoids'. -/
def seriesVoidsCard : Claim7 := { stood := { row := seriesVoidsRow, standIns := [], harness := (true, "c743b71243715a7d6ddf8890ca6bd3957ab1fe66406bda572ac266f5123eff69"), looks := false }, kinds := [], alts := [], laidByText := true, laidKinds := [.data, .data], laidTests := true, laidLooks := .later }
def SeriesVoidsCardSaid : Prop := Claim7.holds Tryd.pinned (.plain (OpenSpec.ofChange seriesVoidsSpec)) seriesVoidsCard

/-- THE TIED CARD OF 'bournelaw25.SeriesTruth'. -/
def seriesTruthCard : Claim7 := { stood := { row := seriesTruthRow, standIns := [], harness := (true, "c743b71243715a7d6ddf8890ca6bd3957ab1fe66406bda572ac266f5123eff69"), looks := false }, kinds := [], alts := [], laidByText := true, laidKinds := [.data, .data], laidTests := true, laidLooks := .later }
def SeriesTruthCardSaid : Prop := Claim7.holds Tryd.pinned (.plain (OpenSpec.ofChange seriesTruthSpec)) seriesTruthCard

/-- THE SECOND FORM's CARD OF 'bournelaw25.SeriesMerges'. -/
def seriesMergesUptoCard : Claim7 := { stood := { row := seriesMergesUptoRow, standIns := [], harness := (true, "c743b71243715a7d6ddf8890ca6bd3957ab1fe66406bda572ac266f5123eff69"), looks := false }, kinds := [], alts := [], laidByText := true, laidKinds := [.data, .data], laidTests := true, laidLooks := .later }
def SeriesMergesUptoCardSaid : Prop := Claim7.holds Tryd.pinned (.plain (OpenSpec.upto seriesMergesSpec)) seriesMergesUptoCard

/-- THE SECOND FORM's CARD OF 'bournelaw25.SeriesSets'. -/
def seriesSetsUptoCard : Claim7 := { stood := { row := seriesSetsUptoRow, standIns := [], harness := (true, "c743b71243715a7d6ddf8890ca6bd3957ab1fe66406bda572ac266f5123eff69"), looks := false }, kinds := [], alts := [], laidByText := true, laidKinds := [.data, .data], laidTests := true, laidLooks := .later }
def SeriesSetsUptoCardSaid : Prop := Claim7.holds Tryd.pinned (.plain (OpenSpec.upto seriesSetsSpec)) seriesSetsUptoCard

/-- THE SECOND FORM's CARD OF 'bournelaw25.SeriesVoids'. -/
def seriesVoidsUptoCard : Claim7 := { stood := { row := seriesVoidsUptoRow, standIns := [], harness := (true, "c743b71243715a7d6ddf8890ca6bd3957ab1fe66406bda572ac266f5123eff69"), looks := false }, kinds := [], alts := [], laidByText := true, laidKinds := [.data, .data], laidTests := true, laidLooks := .later }
def SeriesVoidsUptoCardSaid : Prop := Claim7.holds Tryd.pinned (.plain (OpenSpec.upto seriesVoidsSpec)) seriesVoidsUptoCard

/-- THE SECOND FORM's CARD OF 'bournelaw25.SeriesTruth'. -/
def seriesTruthUptoCard : Claim7 := { stood := { row := seriesTruthUptoRow, standIns := [], harness := (true, "c743b71243715a7d6ddf8890ca6bd3957ab1fe66406bda572ac266f5123eff69"), looks := false }, kinds := [], alts := [], laidByText := true, laidKinds := [.data, .data], laidTests := true, laidLooks := .later }
def SeriesTruthUptoCardSaid : Prop := Claim7.holds Tryd.pinned (.plain (OpenSpec.upto seriesTruthSpec)) seriesTruthUptoCard
end Rows
end Go.Proofs.YtioekkdodggakaaDoor
