/-
  Small lemmas between the printed form's words on rows and the shelf's: where a row that is read lies.
-/
import Derived.Test.YtibnodjlcaodeaaTK0
import Derived.Sort.Row
import Derived.Sort.Grow
namespace Go.Proofs.Ytibnodjlcaodeaa.G
open Go.RowKit Go.Proofs.YtibnodjlcaodeaaW.PrintWords Go.Proofs.YtibnodjlcaodeaaW.PrintLast Go.Proofs.YtibnodjlcaodeaaW.PrintMore
set_option linter.unusedVariables false
set_option linter.unusedSimpArgs false

theorem spot_none {w : World} {a : Addr} {v : Value} (h : w.cell? a = some v) : a.spot = none := by
  unfold World.cell? at h
  cases ho : w.heap[a.block]? with
  | none => rw [ho] at h; cases h
  | some o =>
    rw [ho] at h
    cases o with
    | cells c t fr =>
      simp only at h
      cases hs : a.spot with
      | none => rfl
      | some s => rw [hs] at h; simp at h
    | map es clock => simp at h
    | _ => simp at h

theorem addr_plus (b off m : Nat) : (⟨b, off, none⟩ : Addr).add m = ⟨b, off + m, none⟩ := by
  unfold Addr.add
  split
  · rename_i h; subst h; rfl
  · rfl

/-- A row that is read and has an element: its block, its place, its cells. -/
theorem C_addr {α : Type} {d : Kd α} {w : World} {A : Option Addr} {n : Nat} {xs : List α} (h : d.C w A n xs) (hn : 0 < n) (hs : 0 < d.sz) :
    ∃ b off, A = some ⟨b, off, none⟩ ∧ b < w.heap.size ∧ ∀ j p, xs[j]? = some p → ∃ c, c.length = d.sz ∧ d.K w p c ∧ ∀ i u, c[i]? = some u → w.cell? ⟨b, off + j * d.sz + i, none⟩ = some u := by
  obtain ⟨hl, _, hr⟩ := h
  obtain ⟨ad, rfl, hc⟩ := hr hn
  obtain ⟨c, hcl, hK, hcc⟩ := hc 0 _ (List.getElem?_eq_getElem (show 0 < xs.length by omega))
  have h0 := hcc 0 _ (List.getElem?_eq_getElem (show 0 < c.length by omega))
  rw [show 0 * d.sz + 0 = 0 by omega, show ad.add 0 = ad by unfold Addr.add; simp] at h0
  have hsp := spot_none h0
  obtain ⟨b, off, sp⟩ := ad
  simp only at hsp
  subst hsp
  refine ⟨b, off, rfl, World.block_lt_of_cell? w _ h0, fun j p hj => ?_⟩
  obtain ⟨c, hcl, hK, hcc⟩ := hc j p hj
  exact ⟨c, hcl, hK, fun i u hu => by have := hcc i u hu; rwa [addr_plus, ← Nat.add_assoc] at this⟩

theorem C_int_addr {k : IntKind} {w : World} {A : Option Addr} {n : Nat} {xs : List Int} (h : (Kd.int k).C w A n xs) (hn : 0 < n) :
    ∃ b off, A = some ⟨b, off, none⟩ ∧ b < w.heap.size ∧ ∀ j, j < xs.length → w.cell? ⟨b, off + j, none⟩ = some (.int k (xs.getD j 0)) := by
  obtain ⟨b, off, rfl, hb, hc⟩ := C_addr h hn (by show 0 < 1; omega)
  refine ⟨b, off, rfl, hb, fun j hj => ?_⟩
  obtain ⟨c, _, hK, hcc⟩ := hc j _ (List.getElem?_eq_getElem hj)
  obtain rfl : c = [.int k xs[j]] := hK
  have := hcc 0 _ rfl
  rw [show off + j * (Kd.int k).sz + 0 = off + j by show off + j * 1 + 0 = _; omega] at this
  rw [this, List.getD_eq_getElem?_getD, List.getElem?_eq_getElem hj]; rfl

end Go.Proofs.Ytibnodjlcaodeaa.G
