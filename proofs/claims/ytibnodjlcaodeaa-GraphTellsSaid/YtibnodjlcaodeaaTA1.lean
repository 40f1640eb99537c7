/-
  Plain lemmas on lists of numbers; the rows of graph.links are the neighbours, ascending.
-/
import Derived.Test.YtibnodjlcaodeaaTHLinks
namespace Go.Proofs.Ytibnodjlcaodeaa.G
open Go.RowKit Go.Proofs.YtibnodjlcaodeaaW.PrintWords Go.Proofs.YtibnodjlcaodeaaW.PrintLast Go.Proofs.YtibnodjlcaodeaaW.PrintMore
set_option linter.unusedVariables false
set_option linter.unusedSimpArgs false

/-- Two strictly ascending lists with the same members are one. -/
theorem asc_eq : ∀ {xs ys : List Int}, xs.Pairwise (· < ·) → ys.Pairwise (· < ·) → (∀ x, x ∈ xs ↔ x ∈ ys) → xs = ys
  | [], [], _, _, _ => rfl
  | [], y :: ys, _, _, h => by have := (h y).2 (by simp); simp at this
  | x :: xs, [], _, _, h => by have := (h x).1 (by simp); simp at this
  | x :: xs, y :: ys, hx, hy, h => by
    have hx' := List.pairwise_cons.1 hx
    have hy' := List.pairwise_cons.1 hy
    have e : x = y := by
      have h1 := (h x).1 (by simp)
      have h2 := (h y).2 (by simp)
      rcases List.mem_cons.1 h1 with h1 | h1
      · exact h1
      · rcases List.mem_cons.1 h2 with h2 | h2
        · exact h2.symm
        · have := hy'.1 x h1
          have := hx'.1 y h2
          omega
    subst e
    rw [asc_eq hx'.2 hy'.2 (fun z => ?_)]
    have := h z
    simp only [List.mem_cons] at this
    constructor
    · intro hz
      rcases this.1 (.inr hz) with h1 | h1
      · subst h1; have := hx'.1 z hz; omega
      · exact h1
    · intro hz
      rcases this.2 (.inr hz) with h1 | h1
      · subst h1; have := hy'.1 z hz; omega
      · exact h1

theorem sortI_perm (x : List Int) : (sortI x).Perm x := List.mergeSort_perm _ _
theorem sortI_sorted (x : List Int) : (sortI x).Pairwise (· ≤ ·) := by
  have h := List.pairwise_mergeSort (le := fun a b : Int => decide (a ≤ b)) (by intro a b c h1 h2; simp at *; omega) (by intro a b; simp; omega) x
  exact h.imp (fun h => by simpa using h)

theorem sorted_get {xs : List Int} (h : xs.Pairwise (· ≤ ·)) {i j : Nat} (hij : i ≤ j) (hj : j < xs.length) : xs.toArray[i]! ≤ xs.toArray[j]! := by
  rw [getElem!_pos xs.toArray i (by simp; omega), getElem!_pos xs.toArray j (by simpa using hj)]
  simp only [List.getElem_toArray]
  rcases Nat.lt_or_ge i j with h1 | h1
  · exact List.pairwise_iff_getElem.1 h i j (by omega) hj h1
  · have : i = j := by omega
    subst this
    exact Int.le_refl _

theorem compact_asc {xs : List Int} (h : xs.Pairwise (· ≤ ·)) : (Lib.compact xs).Pairwise (· < ·) := by
  unfold Lib.compact Lib.compactUpTo
  rw [List.pairwise_map]
  have h1 : (List.range xs.length).Pairwise (fun a b => a < b ∧ b < xs.length) := by
    rw [List.pairwise_iff_getElem]
    intro i j hi hj hij
    simp at hi hj ⊢
    omega
  refine (List.Pairwise.and_mem.1 (h1.filter _)).imp ?_
  rintro a b ⟨ha, hb, hab, hbl⟩
  have hk := (List.mem_filter.1 hb).2
  simp only [Lib.keeps, decide_eq_true_eq] at hk
  have h2 : xs.toArray[a]! ≤ xs.toArray[b - 1]! := sorted_get h (by omega) (by omega)
  have h3 : xs.toArray[b - 1]! ≤ xs.toArray[b]! := sorted_get h (by omega) hbl
  rcases hk with hk | hk
  · omega
  · omega

theorem compact_mem (xs : List Int) (x : Int) : x ∈ Lib.compact xs ↔ x ∈ xs := by
  unfold Lib.compact Lib.compactUpTo
  simp only [List.mem_map, List.mem_filter, List.mem_range]
  constructor
  · rintro ⟨j, ⟨hj, _⟩, rfl⟩
    rw [getElem!_pos xs.toArray j (by simpa using hj)]
    simp
  · intro hx
    obtain ⟨i, hi, rfl⟩ := List.getElem_of_mem hx
    have key : ∀ i, (hi : i < xs.length) → ∃ a, (a < xs.length ∧ Lib.keeps xs.toArray a = true) ∧ xs.toArray[a]! = xs[i] := by
      intro i
      induction i with
      | zero => exact fun hi => ⟨0, ⟨hi, by simp [Lib.keeps]⟩, by rw [getElem!_pos xs.toArray 0 (by simpa using hi)]; simp⟩
      | succ i ih =>
        intro hi
        by_cases hk : Lib.keeps xs.toArray (i + 1) = true
        · exact ⟨i + 1, ⟨hi, hk⟩, by rw [getElem!_pos xs.toArray (i + 1) (by simpa using hi)]; simp⟩
        · have : xs[i + 1] = xs[i]'(by omega) := by
            simp only [Lib.keeps, decide_eq_true_eq, not_or, Decidable.not_not, ne_eq] at hk
            have h2 := hk.2
            rw [getElem!_pos xs.toArray (i + 1) (by simpa using hi), getElem!_pos xs.toArray (i + 1 - 1) (by simp; omega)] at h2
            simpa using h2
          rw [this]
          exact ih (by omega)
    exact key i hi

/-- Is there an arc? -/
def arcB (l : List S31) (v w : Nat) : Bool := l.any fun a => decide (a.f0 = (v : Int)) && decide (a.f1 = (w : Int))
/-- The neighbours of v, ascending. -/
def adj (n : Nat) (l : List S31) (v : Nat) : List Int := ((List.range n).filter (arcB l v)).map fun w : Nat => (w : Int)

theorem adj_asc (n : Nat) (l : List S31) (v : Nat) : (adj n l v).Pairwise (· < ·) := by
  unfold adj
  rw [List.pairwise_map]
  exact (List.pairwise_lt_range.filter _).imp (fun h => by omega)
theorem adj_mem {n : Nat} {l : List S31} {v : Nat} {x : Int} : x ∈ adj n l v ↔ ∃ w : Nat, x = w ∧ w < n ∧ arcB l v w = true := by
  unfold adj
  simp only [List.mem_map, List.mem_filter, List.mem_range]
  constructor
  · rintro ⟨w, ⟨h1, h2⟩, rfl⟩; exact ⟨w, rfl, h1, h2⟩
  · rintro ⟨w, rfl, h1, h2⟩; exact ⟨w, ⟨h1, h2⟩, rfl⟩

theorem outs_adj {n : Int} {l : List S31} (h : graph_Right.f n l = some true) (v : Nat) : outs l v = adj n.toNat l v := by
  obtain ⟨h0, h1, h2, h3⟩ := right_of h
  refine asc_eq (compact_asc (sortI_sorted _)) (adj_asc _ _ _) (fun x => ?_)
  unfold outs
  rw [compact_mem, (sortI_perm _).mem_iff, adj_mem]
  unfold tgt arcB
  simp only [List.mem_map, List.mem_filter, List.any_eq_true, Bool.and_eq_true, decide_eq_true_eq]
  constructor
  · rintro ⟨a, ⟨ha, hv⟩, rfl⟩
    have := h3 a ha
    exact ⟨a.f1.toNat, by omega, by omega, a, ha, hv, by omega⟩
  · rintro ⟨w, rfl, _, a, ha, hv, hw⟩
    exact ⟨a, ⟨ha, hv⟩, hw⟩

/-- graph.links at a right graph. -/
theorem links_eq {n : Int} {l : List S31} (h : graph_Right.f n l = some true) : graph_links.f n l = some ((List.range n.toNat).map (adj n.toNat l)) := by
  unfold graph_links.f
  rw [if_pos h]
  congr 1
  exact List.map_congr_left (fun v _ => outs_adj h v)

end Go.Proofs.Ytibnodjlcaodeaa.G
