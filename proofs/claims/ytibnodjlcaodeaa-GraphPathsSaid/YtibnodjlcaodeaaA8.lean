/-
  Orders and cycles: an order comes out exactly where there is no cycle; each node in it is the least one that may come next.
-/
import Derived.Test.YtibnodjlcaodeaaA6
import Derived.Test.YtibnodjlcaodeaaA7
namespace Go.Proofs.Ytibnodjlcaodeaa.G
open Go.RowKit Go.Proofs.YtibnodjlcaodeaaW.PrintWords Go.Proofs.YtibnodjlcaodeaaW.PrintLast Go.Proofs.YtibnodjlcaodeaaW.PrintMore
set_option linter.unusedVariables false
set_option linter.unusedSimpArgs false

theorem atI_left {xs ys : List Int} {x : Int} (h : x ∈ xs) : atI (xs ++ ys) x = atI xs x := by
  induction xs with
  | nil => cases h
  | cons y xs ih =>
    by_cases e : y = x
    · simp [atI, e]
    · have hx : x ∈ xs := by
        rcases List.mem_cons.1 h with h | h
        · exact absurd h.symm e
        · exact h
      simp only [List.cons_append, atI, if_neg e, ih hx]

theorem few_inside : ∀ (n : Nat) (o : List Int), o.Nodup → (∀ x ∈ o, ∃ v : Nat, x = v ∧ v < n) → o.length ≤ n
  | 0, o, _, h => by
    match o, h with
    | [], _ => simp
    | x :: xs, h => obtain ⟨v, _, hv⟩ := h x (by simp); omega
  | n + 1, o, hd, h => by
    have h1 := few_inside n (o.erase (n : Int)) (hd.erase _) (fun x hx => by
      have hx' := (hd.mem_erase_iff).1 hx
      obtain ⟨v, e, hv⟩ := h x hx'.2
      exact ⟨v, e, by omega⟩)
    rw [List.length_erase] at h1
    split at h1 <;> omega
theorem many_inside : ∀ (n : Nat) (o : List Int), (∀ v : Nat, v < n → (v : Int) ∈ o) → n ≤ o.length
  | 0, o, _ => by omega
  | n + 1, o, h => by
    have h1 := many_inside n (o.erase (n : Int)) (fun v hv => (List.mem_erase_of_ne (by omega)).2 (h v (by omega)))
    rw [List.length_erase_of_mem (h n (by omega))] at h1
    have := List.length_pos_of_mem (h n (by omega))
    omega
theorem Inv.all {n : Nat} {E : Nat → Nat → Bool} {o : List Int} (h : Inv n E o) (hl : o.length = n) {v : Nat} (hv : v < n) : (v : Int) ∈ o := by
  refine Decidable.byContradiction fun hn => ?_
  have := few_inside n ((v : Int) :: o) (List.nodup_cons.2 ⟨hn, h.nodup⟩) (fun x hx => by
    rcases List.mem_cons.1 hx with rfl | hx
    · exact ⟨v, rfl, hv⟩
    · exact h.mem x hx)
  simp only [List.length_cons] at this
  omega

def Ord (E : Nat → Nat → Bool) (o : List Int) : Prop := ∀ u w : Nat, (w : Int) ∈ o → E u w = true → atI o u < atI o w
def GoodL (n : Nat) (E : Nat → Nat → Bool) (o : List Int) : Prop := ∀ (p : List Int) (y : Int) (s : List Int), o = p ++ y :: s → ∃ v : Nat, y = v ∧ free? n E p = some v

theorem Ord.snoc {n : Nat} {E : Nat → Nat → Bool} (hE : ∀ v w, E v w = true → v < n ∧ w < n) {o : List Int} {v : Nat} (hi : Inv n E o) (h : Ord E o) (hf : wt n E o v = 0) : Ord E (o ++ [(v : Int)]) := by
  obtain ⟨h1, h2⟩ := (wt_free hE).1 hf
  intro u w hw he
  rcases List.mem_append.1 hw with hw | hw
  · have hu := hi.closed w hw u he
    rw [atI_left hu, atI_left hw]
    exact h u w hw he
  · have : w = v := by have := List.mem_singleton.1 hw; omega
    subst this
    have hu := h2 u he
    rw [atI_left hu, atI_app h1 (by simp)]
    have := (atI_lt o u).1
    simp [atI]; omega
theorem GoodL.snoc {n : Nat} {E : Nat → Nat → Bool} {o : List Int} {v : Nat} (h : GoodL n E o) (hf : free? n E o = some v) : GoodL n E (o ++ [(v : Int)]) := by
  intro p y s e
  rcases List.eq_nil_or_concat s with rfl | ⟨s', z, rfl⟩
  · have e2 := List.append_inj' e rfl
    obtain ⟨rfl, e3⟩ := e2
    exact ⟨v, by simpa using e3.symm, hf⟩
  · have e' : o ++ [(v : Int)] = (p ++ y :: s') ++ [z] := by rw [e]; simp
    exact h p y s' (List.append_inj' e' rfl).1

theorem topo_cases {n : Nat} {E : Nat → Nat → Bool} (hE : ∀ v w, E v w = true → v < n ∧ w < n) : ∀ (d : Nat) (o : List Int), o.length + d = n → Inv n E o → Ord E o → GoodL n E o →
    (∃ r, topo n E d o = (r, true) ∧ r.length = n ∧ Inv n E r ∧ Ord E r ∧ GoodL n E r) ∨ (topo n E d o = ([], false) ∧ ∃ o', o'.length < n ∧ free? n E o' = none) := by
  intro d
  induction d with
  | zero => exact fun o hl hi ho hg => .inl ⟨o, rfl, by omega, hi, ho, hg⟩
  | succ d ih =>
    intro o hl hi ho hg
    cases hf : free? n E o with
    | none => exact .inr ⟨by simp only [topo, hf], o, by omega, hf⟩
    | some v =>
      obtain ⟨hv, h0, _⟩ := free_some hf
      have : topo n E (d + 1) o = topo n E d (o ++ [(v : Int)]) := by simp only [topo, hf]
      rw [this]
      exact ih _ (by simp; omega) (hi.snoc hE hv h0) (Ord.snoc hE hi ho h0) (hg.snoc hf)
theorem topo_all {n : Nat} {E : Nat → Nat → Bool} (hE : ∀ v w, E v w = true → v < n ∧ w < n) :
    (∃ r, topo n E n [] = (r, true) ∧ r.length = n ∧ Inv n E r ∧ Ord E r ∧ GoodL n E r) ∨ (topo n E n [] = ([], false) ∧ ∃ o', o'.length < n ∧ free? n E o' = none) :=
  topo_cases hE n [] (by simp) (Inv.nil _ _) (fun u w h => by simp at h) (fun p y s h => by simp at h)
theorem free_none {n : Nat} {E : Nat → Nat → Bool} {o : List Int} (h : free? n E o = none) {v : Nat} (hv : v < n) : wt n E o v ≠ 0 := by
  have := List.find?_eq_none.1 h v (List.mem_range.2 hv)
  simpa using this

theorem Ord.walk {E : Nat → Nat → Bool} {o : List Int} (h : Ord E o) (hall : ∀ a b : Nat, E a b = true → (b : Int) ∈ o) : ∀ {k a b : Nat}, Wk E k a b → atI o a ≤ atI o b
  | 0, a, b, e => by obtain rfl : a = b := e; exact Int.le_refl _
  | k + 1, a, b, ⟨c, h1, h2⟩ => by
    have := h a c (hall a c h1) h1
    have := Ord.walk h hall h2
    omega
theorem ordered_no_cycle {n : Nat} {E : Nat → Nat → Bool} (hE : ∀ v w, E v w = true → v < n ∧ w < n) {o : List Int} (hi : Inv n E o) (ho : Ord E o) (hl : o.length = n) (v : Nat) : NoCycleAt E v := by
  intro w k he hk
  have hall : ∀ a b : Nat, E a b = true → (b : Int) ∈ o := fun a b h => hi.all hl (hE a b h).2
  have := ho v w (hall v w he) he
  have := ho.walk hall hk
  omega

theorem countP_lt {n w : Nat} {p q : Nat → Bool} (hw : w < n) (hp : p w = false) (hq : q w = true) (h : ∀ v, v < n → p v = true → q v = true) : (List.range n).countP p < (List.range n).countP q := by
  have h1 := countP_one (n := n) (w := w) (p := q) (q := fun v => q v && decide (v ≠ w)) hw hq (by simp) (fun v _ hne => by simp [hne])
  have h2 : (List.range n).countP p ≤ (List.range n).countP (fun v => q v && decide (v ≠ w)) := List.countP_mono_left (fun v hv hpv => by
    have hne : v ≠ w := by rintro rfl; rw [hp] at hpv; cases hpv
    simp [h v (List.mem_range.1 hv) hpv, hne])
  omega

open Classical in
theorem stuck_cycle {n : Nat} {E : Nat → Nat → Bool} (hE : ∀ v w, E v w = true → v < n ∧ w < n) {o : List Int} (hl : o.length < n) (hf : free? n E o = none) : ¬ ∀ v, v < n → NoCycleAt E v := by
  intro hno
  have key : ∀ m v, v < n → (v : Int) ∉ o → (List.range n).countP (fun u => decide (∃ k, Wk E (k + 1) u v)) = m → False := by
    intro m
    induction m using Nat.strongRecOn with
    | _ m ih =>
      intro v hv hvo hm
      have hne := free_none hf hv
      rw [ne_eq, wt_free hE] at hne
      have : ∃ u, E u v = true ∧ (u : Int) ∉ o := Classical.byContradiction fun hc => hne ⟨hvo, fun u hu => Classical.byContradiction fun hn => hc ⟨u, hu, hn⟩⟩
      obtain ⟨u, hu, huo⟩ := this
      have hun := (hE u v hu).1
      refine ih _ ?_ u hun huo rfl
      rw [← hm]
      refine countP_lt hun ?_ ?_ (fun x _ hx => ?_)
      · refine decide_eq_false ?_
        rintro ⟨k, c, h1, h2⟩
        exact hno u hun c k h1 h2
      · exact decide_eq_true ⟨0, v, hu, rfl⟩
      · obtain ⟨k, hk⟩ := of_decide_eq_true hx
        exact decide_eq_true ⟨k + 1, hk.snoc hu⟩
  have : ∃ v, v < n ∧ (v : Int) ∉ o := Classical.byContradiction fun hc => by
    have := many_inside n o (fun v hv => Classical.byContradiction fun hn => hc ⟨v, hv, hn⟩)
    omega
  obtain ⟨v, hv, hvo⟩ := this
  exact key _ v hv hvo rfl

theorem Greedy.get {n : Nat} {E : Nat → Nat → Bool} {D : List Int} {d v : Nat} {t : List Int} (h : Greedy n E D d v t) (hv : v < n) : ∀ i, i ≤ d → ∃ u : Nat, ((v : Int) :: t)[i]? = some (u : Int) ∧ u < n ∧ rd D u + i = d := by
  induction h with
  | nil v h0 =>
    intro i hi
    obtain rfl : i = 0 := by omega
    exact ⟨v, rfl, hv, by omega⟩
  | @cons d v w t h1 h2 h3 h4 h5 h6 ih =>
    intro i hi
    cases i with
    | zero => exact ⟨v, rfl, hv, by omega⟩
    | succ i =>
      obtain ⟨u, e, hu, hd⟩ := ih h2 i (by omega)
      exact ⟨u, by simpa using e, hu, by omega⟩
theorem Greedy.arc {n : Nat} {E : Nat → Nat → Bool} {D : List Int} {d v : Nat} {t : List Int} (h : Greedy n E D d v t) : ∀ i, i < d → ∃ u w : Nat, ((v : Int) :: t)[i]? = some (u : Int) ∧ ((v : Int) :: t)[i + 1]? = some (w : Int) ∧ E u w = true := by
  induction h with
  | nil v h0 => intro i hi; omega
  | @cons d v w t h1 h2 h3 h4 h5 h6 ih =>
    intro i hi
    cases i with
    | zero => exact ⟨v, w, rfl, rfl, h3⟩
    | succ i =>
      obtain ⟨u, x, e1, e2, e3⟩ := ih i (by omega)
      exact ⟨u, x, by simpa using e1, by simpa using e2, e3⟩
end Go.Proofs.Ytibnodjlcaodeaa.G
