import Derived.Test.YtioekkdodggakaaDoorHBase
/-
  Sorted lists of telegrams, plainly.
-/
namespace Go.Proofs.YtioekkdodggakaaDoor.G
set_option linter.unusedVariables false
section
variable {α : Type} {lt : α → α → Prop}
/-- Two strictly ascending lists of the same members are one. -/
theorem sorted_unique (irr : ∀ x, ¬ lt x x) (tr : ∀ x y z, lt x y → lt y z → lt x z) : ∀ (a b : List α), a.Pairwise lt → b.Pairwise lt → (∀ x, x ∈ a ↔ x ∈ b) → a = b
  | [], [], _, _, _ => rfl
  | [], y :: b, _, _, h => absurd ((h y).2 List.mem_cons_self) (by simp)
  | x :: a, [], _, _, h => absurd ((h x).1 List.mem_cons_self) (by simp)
  | x :: a, y :: b, ha, hb, h => by
    rw [List.pairwise_cons] at ha hb
    have hxy : x = y := by
      have h1 := (h x).1 List.mem_cons_self
      have h2 := (h y).2 List.mem_cons_self
      rcases List.mem_cons.1 h1 with h1 | h1
      · exact h1
      · rcases List.mem_cons.1 h2 with h2 | h2
        · exact h2.symm
        · exact absurd (tr _ _ _ (hb.1 x h1) (ha.1 y h2)) (irr _)
    subst hxy
    congr 1
    refine sorted_unique irr tr a b ha.2 hb.2 (fun z => ⟨fun hz => ?_, fun hz => ?_⟩)
    · rcases List.mem_cons.1 ((h z).1 (List.mem_cons_of_mem _ hz)) with e | e
      · subst e; exact absurd (ha.1 z hz) (irr _)
      · exact e
    · rcases List.mem_cons.1 ((h z).2 (List.mem_cons_of_mem _ hz)) with e | e
      · subst e; exact absurd (hb.1 z hz) (irr _)
      · exact e
end
open Go.Lib
section
variable {α : Type} [Inhabited α] [DecidableEq α] {lt : α → α → Prop}
theorem compact_spec (irr : ∀ x, ¬ lt x x) (tr : ∀ x y z, lt x y → lt y z → lt x z) (tri : ∀ x y, lt x y ∨ x = y ∨ lt y x) (r : List α) (hr : r.Pairwise (fun a b => ¬ lt b a)) :
    (compact r).Pairwise lt ∧ ∀ x, x ∈ compact r ↔ x ∈ r := by
  obtain ⟨d, hd⟩ : ∃ d : Array α, d = r.toArray := ⟨_, rfl⟩
  have hsz : d.size = r.length := by rw [hd]; simp
  have hw : ∀ i j, i < j → j < d.size → ¬ lt d[j]! d[i]! := by
    intro i j hij hj
    have h1 := List.pairwise_iff_getElem.1 hr i j (by omega) (by omega) hij
    rw [getElem!_pos d j hj, getElem!_pos d i (by omega)]
    subst hd
    simpa using h1
  have hc : compact r = ((List.range d.size).filter (keeps d)).map (d[·]!) := by
    unfold compact compactUpTo
    rw [← hd, hsz]
  rw [hc]
  constructor
  · rw [List.pairwise_map]
    have h1 : ((List.range d.size).filter (keeps d)).Pairwise (· < ·) := List.Pairwise.filter _ List.pairwise_lt_range
    refine List.Pairwise.imp_of_mem ?_ h1
    intro i j hi hj hij
    rw [List.mem_filter, List.mem_range] at hi hj
    rcases tri d[i]! d[j]! with h | h | h
    · exact h
    · exfalso
      have hk := hj.2
      unfold keeps at hk
      rw [decide_eq_true_eq] at hk
      rcases hk with hk | hk
      · omega
      · have h3 : ¬ lt d[j]! d[j - 1]! := hw _ _ (by omega) hj.1
        have h4 : ¬ lt d[j - 1]! d[j]! := by
          by_cases e : i = j - 1
          · rw [← e, ← h]; exact irr _
          · rw [← h]; exact hw i (j - 1) (by omega) (by omega)
        rcases tri d[j]! d[j - 1]! with h5 | h5 | h5
        · exact h3 h5
        · exact hk h5
        · exact h4 h5
    · exact absurd h (hw i j hij hj.1)
  · intro x
    have key : ∀ j, j < d.size → ∃ i, i ≤ j ∧ keeps d i = true ∧ d[i]! = d[j]! := by
      intro j
      induction j with
      | zero => intro _; exact ⟨0, Nat.le_refl _, by simp [keeps], rfl⟩
      | succ j ih =>
        intro hj
        by_cases hk : keeps d (j + 1) = true
        · exact ⟨j + 1, Nat.le_refl _, hk, rfl⟩
        · obtain ⟨i, h1, h2, h3⟩ := ih (by omega)
          refine ⟨i, by omega, h2, h3.trans ?_⟩
          unfold keeps at hk
          rw [decide_eq_true_eq] at hk
          by_cases e : d[j + 1]! = d[j]!
          · exact e.symm
          · exact absurd (.inr e) hk
    rw [List.mem_map]
    constructor
    · rintro ⟨i, hi, rfl⟩
      rw [List.mem_filter, List.mem_range] at hi
      rw [getElem!_pos d i hi.1]
      subst hd
      simp
    · intro hx
      obtain ⟨j, hj, rfl⟩ := List.mem_iff_getElem.1 hx
      obtain ⟨i, h1, h2, h3⟩ := key j (by omega)
      refine ⟨i, List.mem_filter.2 ⟨List.mem_range.2 (by omega), h2⟩, h3.trans ?_⟩
      rw [getElem!_pos d j (by omega)]
      subst hd
      simp
end
/-- r is the merge of what P says. -/
def MergeOf (P : S29 → Prop) (r : List S29) : Prop := r.Pairwise ltG ∧ ∀ x, x ∈ r ↔ P x
theorem MergeOf.unique {P Q : S29 → Prop} {r s : List S29} (h : MergeOf P r) (h' : MergeOf Q s) (e : ∀ x, P x ↔ Q x) : r = s :=
  sorted_unique ltG_irr (fun _ _ _ => ltG_trans) r s h.1 h'.1 (fun x => by rw [h.2, h'.2, e])
end Go.Proofs.YtioekkdodggakaaDoor.G
