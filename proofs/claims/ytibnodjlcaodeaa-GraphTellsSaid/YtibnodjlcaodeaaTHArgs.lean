/-
  The arguments of the graph laws, opened: arcs, and rows of arcs.
-/
import Derived.Test.YtibnodjlcaodeaaTHOpen
namespace Go.Proofs.Ytibnodjlcaodeaa.G
open Go.RowKit Go.Proofs.YtibnodjlcaodeaaW.PrintWords Go.Proofs.YtibnodjlcaodeaaW.PrintLast Go.Proofs.YtibnodjlcaodeaaW.PrintMore
set_option linter.unusedVariables false
set_option linter.unusedSimpArgs false
variable {H : Type} {enc : TypeId × Value → H} {W : World}

theorem cut_step (cs : List Value) (off s : Nat) : cs.drop off = (cs.drop off).take s ++ cs.drop (off + s) := by
  rw [← List.drop_drop, List.take_append_drop]

theorem opens31 : Opens enc Try.prog W k31 31 (fun a => (Lit.int .i64 a.f0).wf = true ∧ (Lit.int .i64 a.f1).wf = true) := by
  intro fuel cs x h
  obtain ⟨xs, n, rfl, _, hl, hxl, hf⟩ := DataW.trod_struct Try.underlying31 h
  have c3 : Try.prog.cellsOf 3 = 1 := by kernel_rfl
  have c31 : Try.prog.cellsOf 31 = 2 := by kernel_rfl
  have h0 := hf 0 _ rfl
  have h1 := hf 1 _ rfl
  have hx : xs.length = 2 := hxl
  rw [List.getElem?_eq_getElem (by omega)] at h0 h1
  obtain ⟨y0, k0, w0⟩ := opens_int Try.underlying3 _ _ _ h0
  obtain ⟨y1, k1, w1⟩ := opens_int Try.underlying3 _ _ _ h1
  replace k0 : (Kd.int .i64).K W y0 ((cs.drop 0).take 1) := by rw [← c3]; exact k0
  replace k1 : (Kd.int .i64).K W y1 ((cs.drop 1).take 1) := by rw [← c3]; exact k1
  refine ⟨⟨y0, y1⟩, ⟨_, _, ?_, k0, k1⟩, w0, w1⟩
  have e1 := cut_step cs 0 1
  have e2 := cut_step cs 1 1
  rw [List.drop_of_length_le (show cs.length ≤ 1 + 1 by omega), List.append_nil] at e2
  rw [List.drop_zero] at e1
  show cs = (cs.drop 0).take 1 ++ (cs.drop 1).take 1
  rw [List.drop_zero, ← e2]
  exact e1

theorem opens22 : Opens enc Try.prog W (Kd.slice 31 k31) 22 (fun xs => xs.length ≤ maxLen ∧ ∀ x ∈ xs, (Lit.int .i64 x.f0).wf = true ∧ (Lit.int .i64 x.f1).wf = true) :=
  opens_slice Try.underlying22 (by kernel_rfl) opens31
theorem opens25 : Opens enc Try.prog W (Kd.slice 3 (Kd.int .i64)) 25 (fun xs => xs.length ≤ maxLen ∧ ∀ x ∈ xs, (Lit.int .i64 x).wf = true) :=
  opens_slice Try.underlying25 (by kernel_rfl) (opens_int Try.underlying3)

/-- A slice argument: its value, and what it reads as. -/
theorem open_row {α : Type} {d : Kd α} {e t : TypeId} {ok : List α → Prop} (hO : Opens enc Try.prog W (Kd.slice e d) t ok) {a : Option Addr} {len cap : Nat} {dd : DataW H} {p : List MemPlace} (h : DataW.Trod enc Try.prog W 0 (fun _ => true) true t (.slice a len cap) dd p) :
    ∃ l : List α, len = l.length ∧ Kd.C d W a l.length l ∧ l.length ≤ cap ∧ ok l := by
  obtain ⟨fuel, hf⟩ := h
  obtain ⟨l, ⟨A, c, hcs, hle, hC⟩, hok⟩ := hO _ _ _ hf
  have hcs' : ([.slice a len cap] : List Value) = [.slice A l.length c] := by simpa [Value.cells] using hcs
  injection hcs' with hcs' _
  injection hcs' with h1 h2 h3
  subst h1 h2 h3
  exact ⟨l, rfl, hC, hle, hok⟩
end Go.Proofs.Ytibnodjlcaodeaa.G
