/-
  The fixed example: small returns true.
-/
import Derived.Test.YtibnodjlcaodeaaTA4
import Derived.Test.YtibnodjlcaodeaaTK13
import Derived.Test.YtibnodjlcaodeaaTK17
import Derived.Test.YtibnodjlcaodeaaTK27
namespace Go.Proofs.Ytibnodjlcaodeaa.G
open Go.RowKit Go.Proofs.YtibnodjlcaodeaaW.PrintWords Go.Proofs.YtibnodjlcaodeaaW.PrintLast Go.Proofs.YtibnodjlcaodeaaW.PrintMore
set_option linter.unusedVariables false
set_option linter.unusedSimpArgs false

def exA : List S31 := [⟨2, 0⟩, ⟨2, 1⟩]
def exB : List S31 := [⟨0, 2⟩, ⟨2, 1⟩, ⟨1, 0⟩, ⟨3, 3⟩]
def exC : List S31 := [⟨2, 0⟩, ⟨1, 2⟩, ⟨0, 1⟩, ⟨3, 3⟩]
theorem exA_links : graph_links.f 3 exA = some [[], [], [0, 1]] := (links_rows (n := 3) (by decide +kernel)).trans (by decide +kernel)
theorem exB_links : graph_links.f 4 exB = some [[2], [0], [1], [3]] := (links_rows (n := 4) (by decide +kernel)).trans (by decide +kernel)
theorem exC_links : graph_links.f 4 exC = some [[1], [2], [0], [3]] := (links_rows (n := 4) (by decide +kernel)).trans (by decide +kernel)
theorem exA_right : graph_Right.f 3 exA = some true := by decide +kernel
theorem exB_right : graph_Right.f 4 exB = some true := by decide +kernel
theorem ex_turned : graph_turned.f 40 exB = some exC := by kernel_rfl
theorem ex_order : graph_Order.f 40 3 exA = some ([2, 0, 1], true) := by
  unfold graph_Order.f
  rw [exA_right, exA_links]
  decide +kernel
theorem ex_loop : graph_Loop.f 40 4 exB = some [0, 2, 1] := by
  unfold graph_Loop.f
  rw [exB_right, exB_links, ex_turned, Option.bind_some, Option.bind_some, Option.bind_some, exC_links]
  decide +kernel
theorem ex_path : graph_Path.f 41 4 exB 2 0 = some ([2, 1, 0], true) := by
  unfold graph_Path.f
  rw [exB_right]
  simp only [graph_Path.j0, ex_turned, exC_links, exB_links, Option.bind_some]
  decide +kernel
theorem ex_down : graph_Down.f 41 4 exB 0 = some [0, 1, 2] := by
  unfold graph_Down.f
  rw [exB_right]
  simp only [graph_Down.j0, exB_links, Option.bind_some]
  decide +kernel
theorem small_run : Ev (fun k => bournelaw11_small.f k) true := by
  unfold bournelaw11_small.f
  refine Ev_some ?_
  refine Ev.bind (Ev.of (graph_Order.mono 3 exA) ex_order) ?_
  refine Ev.bind (Ev.of (graph_Path.mono 4 exB 2 0) ex_path) ?_
  refine Ev_pos rfl (Ev.bind (same_run _ (by decide)) (Ev_pos rfl ?_))
  refine Ev.bind (Ev.of (graph_Loop.mono 4 exB) ex_loop) ?_
  refine Ev.bind (same_run _ (by decide)) (Ev_pos rfl (Ev_pos rfl (Ev.bind (same_run _ (by decide)) (Ev_pos rfl ?_))))
  refine Ev.bind (Ev.of (graph_Down.mono 4 exB 0) ex_down) ?_
  exact Ev.now _
theorem few_run (n : Int) (l : List S31) : bournelaw11_few.f n l = some (decide (n ≤ 16) && decide ((l.length : Int) ≤ 40)) := by
  unfold bournelaw11_few.f
  by_cases h : n ≤ 16
  · rw [if_pos h, decide_eq_true h, Bool.true_and]
  · rw [if_neg h, decide_eq_false h, Bool.false_and]
/-- graph.Up is Down at the turned arcs. -/
theorem up_run {n : Nat} {l : List S31} {a : Nat} (h : graph_Right.f n l = some true) (ha : a < n) : ∃ D, ToSpec n (arcB l) a D ∧ Ev (fun k => graph_Up.f k n l a) (known n D) := by
  obtain ⟨_, hn, hll, _⟩ := right_of h
  obtain ⟨D, hD, hev⟩ := down_run (l := turnedL l) (by rw [right_turned]; exact h) ha
  rw [arcB_turned] at hD
  refine ⟨D, hD, ?_⟩
  unfold graph_Up.f
  exact Ev.bind (turned_run l (by omega)) (Ev.bind hev (Ev.now _))
end Go.Proofs.Ytibnodjlcaodeaa.G
