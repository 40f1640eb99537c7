/-
  Arguments opened: what the form reads as data, a kind of the printed words reads, too.
-/
import Derived.Test.YtibnodjlcaodeaaTK0
import Derived.ChangeArms
import Derived.ChangeSlices
import Derived.OpenShut
import Derived.DataElems
namespace Go.Proofs.Ytibnodjlcaodeaa.G
open Go.RowKit Go.Proofs.YtibnodjlcaodeaaW.PrintWords Go.Proofs.YtibnodjlcaodeaaW.PrintLast Go.Proofs.YtibnodjlcaodeaaW.PrintMore
set_option linter.unusedVariables false
set_option linter.unusedSimpArgs false

section
variable {H : Type} (enc : TypeId × Value → H) (P : Program) (W : World)

/-- Whatever reads as data at type t, kind d reads, and ok holds of it. -/
def Opens {α : Type} (d : Kd α) (t : TypeId) (ok : α → Prop) : Prop :=
  ∀ fuel cs x, DataW.trod enc P W 0 (fun _ => true) true fuel t cs = some x → ∃ y : α, d.K W y cs ∧ ok y

variable {enc P W}

theorem opens_int {t : TypeId} {k : IntKind} (hu : P.underlying t = some (.int k)) : Opens enc P W (Kd.int k) t (fun n => (Lit.int k n).wf = true) := by
  intro fuel cs x h
  cases fuel with
  | zero => simp [DataW.trod] at h
  | succ n =>
    unfold DataW.trod at h
    rw [hu] at h
    split at h <;> simp_all
    obtain ⟨⟨rfl, hw⟩, _⟩ := h
    exact ⟨_, rfl, hw⟩

theorem opens_bool {t : TypeId} (hu : P.underlying t = some .bool) : Opens enc P W Kd.bool t (fun _ => True) := by
  intro fuel cs x h
  cases fuel with
  | zero => simp [DataW.trod] at h
  | succ n =>
    unfold DataW.trod at h
    rw [hu] at h
    split at h <;> simp_all [-Bool.exists_bool]
    exact ⟨_, rfl⟩

theorem opens_string {t : TypeId} (hu : P.underlying t = some .string) : Opens enc P W Kd.string t (fun s => s.size ≤ maxLen) := by
  intro fuel cs x h
  cases fuel with
  | zero => simp [DataW.trod] at h
  | succ n =>
    unfold DataW.trod at h
    rw [hu] at h
    split at h <;> simp_all
    exact ⟨_, rfl, h.1⟩

/-- From each to all: a list of witnesses. -/
theorem list_of {α : Type} {Q : Nat → α → Prop} : ∀ n, (∀ i, i < n → ∃ y, Q i y) → ∃ ys : List α, ys.length = n ∧ ∀ i y, ys[i]? = some y → Q i y
  | 0, _ => ⟨[], rfl, fun i y h => by simp at h⟩
  | n + 1, h => by
    obtain ⟨ys, hl, hq⟩ := list_of n (fun i hi => h i (by omega))
    obtain ⟨y, hy⟩ := h n (by omega)
    refine ⟨ys ++ [y], by simp [hl], fun i z hz => ?_⟩
    rcases Nat.lt_or_ge i ys.length with hi | hi
    · rw [List.getElem?_append_left hi] at hz
      exact hq i z hz
    · rw [List.getElem?_append_right hi] at hz
      have h0 : i - ys.length = 0 := by
        have := (List.getElem?_eq_some_iff.1 hz).1
        simp at this
        omega
      rw [h0] at hz
      have hz' : y = z := by simpa using hz
      subst hz'
      have : i = n := by omega
      subst this
      exact hy

theorem opens_slice {α : Type} {d : Kd α} {t e : TypeId} {ok : α → Prop} (hu : P.underlying t = some (.slice e)) (hc : P.cellsOf e = d.sz) (hO : Opens enc P W d e ok) :
    Opens enc P W (Kd.slice e d) t (fun xs => xs.length ≤ maxLen ∧ ∀ x ∈ xs, ok x) := by
  intro fuel cs x h
  rcases DataW.trod_slice hu h with ⟨rfl, _⟩ | ⟨a, len, cap, elems, rest, n, rfl, rfl, _, _, h1, h2, h3, h4, _⟩
  · exact ⟨[], ⟨none, 0, rfl, Nat.le_refl _, rfl, by simp, fun hp => absurd hp (by simp)⟩, by simp [maxLen], fun x hx => by simp at hx⟩
  · obtain ⟨ys, hyl, hys⟩ := list_of (Q := fun i y => ok y ∧ ∃ c, c.length = d.sz ∧ d.K W y c ∧ ∀ m u, c[m]? = some u → W.cell? (a.add (i * d.sz + m)) = some u) len (fun i hi => by
      have h5 := h4 i hi
      rw [List.getElem?_eq_getElem (by omega)] at h5
      obtain ⟨c, hcs, htr⟩ := Option.bind_eq_some_iff.1 h5
      obtain ⟨y, hK, hok⟩ := hO _ _ _ htr
      refine ⟨y, hok, c, d.K_len hK, hK, fun m u hm => ?_⟩
      obtain ⟨_, hl, hcell⟩ := World.cells?_some hcs
      have hml := (List.getElem?_eq_some_iff.1 hm).1
      have := hcell m (by rw [← hl]; exact hml)
      rw [hm] at this
      rw [hc, Go.Addr.add_add] at this
      exact this)
    refine ⟨ys, ⟨some a, cap, by rw [hyl], by omega, rfl, by simp only [maxLen] at h2; omega, fun hp => ⟨a, rfl, fun j p hj => ?_⟩⟩, by omega, fun x hx => ?_⟩
    · obtain ⟨_, c, h6, h7, h8⟩ := hys j p hj
      exact ⟨c, h6, h7, h8⟩
    · obtain ⟨i, hi, rfl⟩ := List.getElem_of_mem hx
      exact (hys i _ (List.getElem?_eq_getElem hi)).1
end
end Go.Proofs.Ytibnodjlcaodeaa.G
