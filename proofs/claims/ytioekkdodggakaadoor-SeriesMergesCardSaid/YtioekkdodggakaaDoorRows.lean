/-
  NARROWER THAN 'FOR EVERY INPUT', by the rows' own cells (each row's printed sentence says how): SeriesMerges: laid · SeriesSets: laid · SeriesVoids: laid · SeriesTruth: laid.
  DERIVED. THE GIVEN ROWS OF THIS SEAT. 4 by the template 'for every input the law returns true; each argument reads behind the call as it read before'; 0 by the template 'total and deterministic' (their statements: YtioekkdodggakaaDoorTotals.lean).
  GIVEN WITH THE SEED: the statements are not yours to turn. If you find one false, say at which input.
  Laid BY PROGRAM, IN A SANDBOX (cutbox-rows.mjs): the forced cells as the released guide's own fill.sh prints them over the translation 811603b0fbabe81b… (all of the seat's roots in one cut). By AI agents, Wed Nov 11 2026. No macro, syntax, notation, axiom, sorry.
-/
import Derived.Test.YtioekkdodggakaaDoorChecked
import GoSem.Claim
import GoSem.ClaimJoined
import GoSem.ClaimMapViews
import Derived.JoinedTies
import Derived.KernelRfl
namespace Go.Proofs.YtioekkdodggakaaDoor
/- THE CELL 'sum', in the pinned program and in every row, IS THE sha256 OF THE DUMP (.gsa) THAT YtioekkdodggakaaDoorProg.lean LOADS. Nothing in Lean hashes anything: it is a label: what it is worth is what the hold of that sum in a sandbox is worth. -/
noncomputable def Tryd.pinned : Pinned := { name := "ytioekkdodggakaadoor", sum := "811603b0fbabe81b73a3a48cedb0ba50600b79e44d677953a8a88ddbdb2d8266", checked := Tryd.checked }
namespace Rows
def none {H : Type} : Left H := { results := [], args := [] }

/- WHAT THE LISTED PACKAGE-LEVEL VARIABLES READ AS WHEN THE CALL BEGINS. Each datum BY PROGRAM (the guide's laid-datum.mjs) off the statement by which the dump's own 'gosem.cut.vars' lays the variable. In a bare row this is a premise. The card (YtioekkdodggakaaDoorCards.lean) ties it to the program's text. -/
def laid_bourne_gram_lows {H : Type} : DataW H := .agg [.lit (.int .i64 0), .lit (.int .i64 0), .lit (.int .i64 0), .lit (.int .i64 (-1099511627776))]
def laid_bourne_gram_highs {H : Type} : DataW H := .agg [.lit (.int .i64 127), .lit (.int .i64 1099511627776), .lit (.int .i64 1006633019), .lit (.int .i64 1099511627776)]

/-- 'bournelaw25.SeriesMerges': WHATEVER THE INPUT: true; the input reads as it did. -/
def seriesMergesSpec : ChangeSpec := { name := "seriesMerges", fn := fun _ => fun
  | [d1, d2, d3, d4] => { results := [.lit (.bool true)], args := [d1, d2, d3, d4] }
  | _ => none }
def seriesMergesRow : OpenClaim := { program := "ytioekkdodggakaadoor", sum := "811603b0fbabe81b73a3a48cedb0ba50600b79e44d677953a8a88ddbdb2d8266", func := "bourne/bournelaw25.SeriesMerges", spec := "seriesMerges", unfollowed := true, recurses := true, named := ["bourne/gram.highs", "bourne/gram.lows"], plainKeys := false, apart := false, laid := [("bourne/gram.lows", laid_bourne_gram_lows), ("bourne/gram.highs", laid_bourne_gram_highs)] }
def SeriesMergesSaid : Prop := seriesMergesRow.holds Tryd.pinned (OpenSpec.ofChange seriesMergesSpec)

/-- ITS FALSE NEIGHBOUR: 'it returns false'. Refute it at one input. -/
def seriesMergesWrong : ChangeSpec := { name := "seriesMerges", fn := fun _ => fun
  | [d1, d2, d3, d4] => { results := [.lit (.bool false)], args := [d1, d2, d3, d4] }
  | _ => none }
def SeriesMergesWrongFalsely : Prop := seriesMergesRow.holds Tryd.pinned (OpenSpec.ofChange seriesMergesWrong)

/-- 'bournelaw25.SeriesSets': WHATEVER THE INPUT: true; the input reads as it did. -/
def seriesSetsSpec : ChangeSpec := { name := "seriesSets", fn := fun _ => fun
  | [d1, d2, d3, d4, d5, d6] => { results := [.lit (.bool true)], args := [d1, d2, d3, d4, d5, d6] }
  | _ => none }
def seriesSetsRow : OpenClaim := { program := "ytioekkdodggakaadoor", sum := "811603b0fbabe81b73a3a48cedb0ba50600b79e44d677953a8a88ddbdb2d8266", func := "bourne/bournelaw25.SeriesSets", spec := "seriesSets", unfollowed := true, recurses := true, named := ["bourne/gram.highs", "bourne/gram.lows"], plainKeys := false, apart := false, laid := [("bourne/gram.lows", laid_bourne_gram_lows), ("bourne/gram.highs", laid_bourne_gram_highs)] }
def SeriesSetsSaid : Prop := seriesSetsRow.holds Tryd.pinned (OpenSpec.ofChange seriesSetsSpec)

/-- ITS FALSE NEIGHBOUR: 'it returns false'. Refute it at one input. -/
def seriesSetsWrong : ChangeSpec := { name := "seriesSets", fn := fun _ => fun
  | [d1, d2, d3, d4, d5, d6] => { results := [.lit (.bool false)], args := [d1, d2, d3, d4, d5, d6] }
  | _ => none }
def SeriesSetsWrongFalsely : Prop := seriesSetsRow.holds Tryd.pinned (OpenSpec.ofChange seriesSetsWrong)

/-- 'bournelaw25.SeriesVoids': WHATEVER THE INPUT: true; the input reads as it did. -/
def seriesVoidsSpec : ChangeSpec := { name := "seriesVoids", fn := fun _ => fun
  | [d1, d2, d3, d4] => { results := [.lit (.bool true)], args := [d1, d2, d3, d4] }
  | _ => none }
def seriesVoidsRow : OpenClaim := { program := "ytioekkdodggakaadoor", sum := "811603b0fbabe81b73a3a48cedb0ba50600b79e44d677953a8a88ddbdb2d8266", func := "bourne/bournelaw25.SeriesVoids", spec := "seriesVoids", unfollowed := true, recurses := true, named := ["bourne/gram.highs", "bourne/gram.lows"], plainKeys := false, apart := false, laid := [("bourne/gram.lows", laid_bourne_gram_lows), ("bourne/gram.highs", laid_bourne_gram_highs)] }
def SeriesVoidsSaid : Prop := seriesVoidsRow.holds Tryd.pinned (OpenSpec.ofChange seriesVoidsSpec)

/-- ITS FALSE NEIGHBOUR: 'it returns false'. Refute it at one input. -/
def seriesVoidsWrong : ChangeSpec := { name := "seriesVoids", fn := fun _ => fun
  | [d1, d2, d3, d4] => { results := [.lit (.bool false)], args := [d1, d2, d3, d4] }
  | _ => none }
def SeriesVoidsWrongFalsely : Prop := seriesVoidsRow.holds Tryd.pinned (OpenSpec.ofChange seriesVoidsWrong)

/-- 'bournelaw25.SeriesTruth': WHATEVER THE INPUT: true; the input reads as it did. -/
def seriesTruthSpec : ChangeSpec := { name := "seriesTruth", fn := fun _ => fun
  | [d1, d2, d3, d4] => { results := [.lit (.bool true)], args := [d1, d2, d3, d4] }
  | _ => none }
def seriesTruthRow : OpenClaim := { program := "ytioekkdodggakaadoor", sum := "811603b0fbabe81b73a3a48cedb0ba50600b79e44d677953a8a88ddbdb2d8266", func := "bourne/bournelaw25.SeriesTruth", spec := "seriesTruth", unfollowed := true, recurses := true, named := ["bourne/gram.highs", "bourne/gram.lows"], plainKeys := false, apart := false, laid := [("bourne/gram.lows", laid_bourne_gram_lows), ("bourne/gram.highs", laid_bourne_gram_highs)] }
def SeriesTruthSaid : Prop := seriesTruthRow.holds Tryd.pinned (OpenSpec.ofChange seriesTruthSpec)

/-- ITS FALSE NEIGHBOUR: 'it returns false'. Refute it at one input. -/
def seriesTruthWrong : ChangeSpec := { name := "seriesTruth", fn := fun _ => fun
  | [d1, d2, d3, d4] => { results := [.lit (.bool false)], args := [d1, d2, d3, d4] }
  | _ => none }
def SeriesTruthWrongFalsely : Prop := seriesTruthRow.holds Tryd.pinned (OpenSpec.ofChange seriesTruthWrong)

/- THE SECOND FORM. 'bulk': how many values and letters a reading holds, each counted each time it is reached (what is shared counts as often as it is met; a slice's spare places count too). A statement '..UptoSaid' is the law's where the arguments, and the package variables that the reading takes, are together of bulk at most 1048576: NARROWER than '..Said'. Prove '..Said' where nothing that the law and all that it calls make is longer than what came in: it says more and counts as full. Else prove '..UptoSaid'. A law counts once. -/
mutual
def uptoBulk {H : Type} : DataW H → Nat
  | .lit (.string bytes) => bytes.length + 1
  | .lit _ => 1
  | .nil => 1
  | .ptr d => uptoBulk d + 1
  | .slice elems spare => uptoBulkAll elems + uptoBulkAll spare + 1
  | .agg parts => uptoBulkAll parts + 1
  | .iface _ d => uptoBulk d + 1
  | .map entries => uptoBulkEntries entries + 1
  | .held _ => 1
def uptoBulkAll {H : Type} : List (DataW H) → Nat
  | [] => 0
  | d :: r => uptoBulk d + uptoBulkAll r
def uptoBulkEntries {H : Type} : List (Lit × DataW H) → Nat
  | [] => 0
  | x :: r => uptoBulkEntry x + uptoBulkEntries r
def uptoBulkEntry {H : Type} : Lit × DataW H → Nat
  | (.string bytes, d) => bytes.length + uptoBulk d + 1
  | (_, d) => uptoBulk d + 1
 end
def uptoSmall : (H : Type) → List (DataW H) → Bool := fun _ ds => decide (uptoBulkAll ds ≤ 1048576)
def OpenSpec.upto (s : _root_.Go.ChangeSpec) : _root_.Go.OpenSpec := { _root_.Go.OpenSpec.ofChange s with cond := some uptoSmall }

/-- 'bournelaw25.SeriesMerges', WHERE WHAT IT READS IS OF BULK AT MOST 1048576: true; the input reads as it did. -/
def seriesMergesUptoRow : OpenClaim := { program := "ytioekkdodggakaadoor", sum := "811603b0fbabe81b73a3a48cedb0ba50600b79e44d677953a8a88ddbdb2d8266", func := "bourne/bournelaw25.SeriesMerges", spec := "seriesMerges", unfollowed := true, recurses := true, named := ["bourne/gram.highs", "bourne/gram.lows"], plainKeys := false, apart := false, laid := [("bourne/gram.lows", laid_bourne_gram_lows), ("bourne/gram.highs", laid_bourne_gram_highs)], narrowed := true }
def SeriesMergesUptoSaid : Prop := seriesMergesUptoRow.holds Tryd.pinned (OpenSpec.upto seriesMergesSpec)

/-- 'bournelaw25.SeriesSets', WHERE WHAT IT READS IS OF BULK AT MOST 1048576: true; the input reads as it did. -/
def seriesSetsUptoRow : OpenClaim := { program := "ytioekkdodggakaadoor", sum := "811603b0fbabe81b73a3a48cedb0ba50600b79e44d677953a8a88ddbdb2d8266", func := "bourne/bournelaw25.SeriesSets", spec := "seriesSets", unfollowed := true, recurses := true, named := ["bourne/gram.highs", "bourne/gram.lows"], plainKeys := false, apart := false, laid := [("bourne/gram.lows", laid_bourne_gram_lows), ("bourne/gram.highs", laid_bourne_gram_highs)], narrowed := true }
def SeriesSetsUptoSaid : Prop := seriesSetsUptoRow.holds Tryd.pinned (OpenSpec.upto seriesSetsSpec)

/-- 'bournelaw25.SeriesVoids', WHERE WHAT IT READS IS OF BULK AT MOST 1048576: true; the input reads as it did. -/
def seriesVoidsUptoRow : OpenClaim := { program := "ytioekkdodggakaadoor", sum := "811603b0fbabe81b73a3a48cedb0ba50600b79e44d677953a8a88ddbdb2d8266", func := "bourne/bournelaw25.SeriesVoids", spec := "seriesVoids", unfollowed := true, recurses := true, named := ["bourne/gram.highs", "bourne/gram.lows"], plainKeys := false, apart := false, laid := [("bourne/gram.lows", laid_bourne_gram_lows), ("bourne/gram.highs", laid_bourne_gram_highs)], narrowed := true }
def SeriesVoidsUptoSaid : Prop := seriesVoidsUptoRow.holds Tryd.pinned (OpenSpec.upto seriesVoidsSpec)

/-- 'bournelaw25.SeriesTruth', WHERE WHAT IT READS IS OF BULK AT MOST 1048576: true; the input reads as it did. -/
def seriesTruthUptoRow : OpenClaim := { program := "ytioekkdodggakaadoor", sum := "811603b0fbabe81b73a3a48cedb0ba50600b79e44d677953a8a88ddbdb2d8266", func := "bourne/bournelaw25.SeriesTruth", spec := "seriesTruth", unfollowed := true, recurses := true, named := ["bourne/gram.highs", "bourne/gram.lows"], plainKeys := false, apart := false, laid := [("bourne/gram.lows", laid_bourne_gram_lows), ("bourne/gram.highs", laid_bourne_gram_highs)], narrowed := true }
def SeriesTruthUptoSaid : Prop := seriesTruthUptoRow.holds Tryd.pinned (OpenSpec.upto seriesTruthSpec)

end Rows
end Go.Proofs.YtioekkdodggakaaDoor
