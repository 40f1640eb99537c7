/-
  GraphPaths, in plain Lean.
-/
import Derived.Test.YtibnodjlcaodeaaA5
import Derived.Test.YtibnodjlcaodeaaA8
import Derived.Test.YtibnodjlcaodeaaK20
namespace Go.Proofs.Ytibnodjlcaodeaa.Pure
open Go.RowKit Go.Proofs.Ytibnodjlcaodeaa.G Go.Proofs.YtibnodjlcaodeaaW.PrintWords Go.Proofs.YtibnodjlcaodeaaW.PrintLast
set_option linter.unusedVariables false
set_option linter.unusedSimpArgs false

theorem rd_arc {l : List S31} {i : Nat} (hi : i < l.length) : rd_T31 l (i : Int) ∈ l := by
  unfold rd_T31
  rw [Int.toNat_natCast, List.getD_eq_getElem?_getD, List.getElem?_eq_getElem hi]
  exact List.getElem_mem _
theorem arc_of {n : Nat} {l : List S31} (h : graph_Right.f n l = some true) : ∀ x ∈ l, ∃ v w : Nat, x.f0 = v ∧ x.f1 = w ∧ v < n ∧ w < n ∧ arcB l v w = true := fun x hx => by
  obtain ⟨_, hn, hll, hin⟩ := right_of h
  have := hin x hx
  refine ⟨x.f0.toNat, x.f1.toNat, by omega, by omega, by omega, by omega, ?_⟩
  unfold arcB
  rw [List.any_eq_true]
  exact ⟨x, hx, by simp only [Bool.and_eq_true, decide_eq_true_eq]; omega⟩

theorem first_least {n : Nat} {E : Nat → Nat → Bool} {D : List Int} {d a w : Nat} {t : List Int} (ht : Greedy n E D d a t) (hd : d ≠ 0) (hw : w < n) (he : E a w = true) (h : rd D w + 2 = (d : Int) + 1) : ¬ (w : Int) < rd ((a : Int) :: t) 1 := by
  cases ht with
  | nil => exact absurd rfl hd
  | @cons d' _ u t' g1 g2 g3 g4 g5 g6 =>
    have h1 : u ≤ w := g5 w hw he (by omega)
    have e3 : rd ((a : Int) :: (u : Int) :: t') ((1 : Nat) : Int) = u := rd_get rfl
    have e4 : rd ((a : Int) :: (u : Int) :: t') 1 = u := e3
    rw [e4]
    omega
theorem ar1 {x y d : Int} (h1 : x ≤ y + 1) (h2 : x = d) : ¬ (y + 2 < d + 1) := by omega
theorem ar2 {d : Nat} (h : d ≠ 0) : (1 : Int) < (d : Int) + 1 := by omega
theorem paths_l1 {n : Nat} {l : List S31} {a b : Nat} {D : List Int} {t : List Int} (h : graph_Right.f n l = some true) (ha : a < n) (hb : b < n) (hD : ToSpec n (arcB l) b D) {d : Nat} (ht : Greedy n (arcB l) D d a t) : ∀ (m i : Nat), i + m = l.length →
    Ev (fun k => bournelaw11_GraphPaths.l1 k n l a b true ((a : Int) :: t) (i : Int)) true := by
  obtain ⟨_, hn, hll, hin⟩ := right_of h
  have hE := arcs_in h
  obtain ⟨htl, hda⟩ := ht.len
  have hlow := FarSpec.low hD ha
  have hpl : (((a : Int) :: t).length : Int) = d + 1 := by simp [htl]
  intro m
  induction m with
  | zero =>
    intro i hi
    refine Ev_unroll ?_
    simp only [bournelaw11_GraphPaths.l1]
    refine Ev_neg (by omega) (Ev_pos (by simp) ?_)
    by_cases e : a = b
    · subst e
      refine Ev_pos rfl ?_
      have h0 := FarSpec.src hD ha
      have : d = 0 := by omega
      subst this
      rw [hpl]
      exact Ev.now _
    · exact Ev_neg (by omega) (Ev.now _)
  | succ m ih =>
    intro i hi
    have hm := rd_arc (show i < l.length by omega)
    generalize hx : rd_T31 l (i : Int) = x at hm
    have next : Ev (fun k => bournelaw11_GraphPaths.l1 k n l a b true ((a : Int) :: t) (wrap64 ((i : Int) + 1))) true := by
      rw [wrap_le (by omega) (by omega)]
      exact ih (i + 1) (by omega)
    have j4t : Ev (fun k => bournelaw11_GraphPaths.j4 k n l a b true ((a : Int) :: t) (i : Int) true) true := by
      refine Ev_unroll ?_
      simp only [bournelaw11_GraphPaths.j4]
      exact Ev_pos (by simp) next
    refine Ev_unroll ?_
    simp only [bournelaw11_GraphPaths.l1, hx]
    refine Ev_pos (by omega) (Ev_pos (by omega) ?_)
    by_cases e : x.f0 = (a : Int)
    · refine Ev_pos e ?_
      by_cases eab : a = b
      · subst eab
        rw [show ((a : Int) == (a : Int)) = true by simp]
        exact j4t
      · rw [show ((a : Int) == (b : Int)) = false by simp; omega]
        refine Ev_unroll ?_
        simp only [bournelaw11_GraphPaths.j4, hx]
        refine Ev_neg (by simp) (Ev_pos (by omega) (Ev_pos (by omega) ?_))
        obtain ⟨v, w, e1, e2, hv, hw, he⟩ := arc_of h x hm
        obtain rfl : v = a := by omega
        rw [e2]
        obtain ⟨D', r, hr, hev⟩ := path_run h hw hb
        obtain rfl : D' = D := hr.tos.unique hD
        refine Ev.bind hev ?_
        by_cases h0 : rd D' w < 0
        · rw [hr.no h0]
          exact Ev_neg (by simp) next
        · obtain ⟨q, rfl, hq⟩ := hr.yes (by omega)
          have hql := hq.len.1
          have hwl := FarSpec.low hD hw
          have harc := ToSpec.arc hD hv hw he (by omega)
          have hlen : wrap64 ((((w : Int) :: q).length : Int) + 1) = rd D' w + 2 := by
            rw [wrap_le (by omega) (by simp; omega)]
            simp; omega
          have hd0 : d ≠ 0 := fun hz => eab (FarSpec.zero hD hv (by omega))
          dsimp only
          simp only [hlen, hpl]
          refine Ev_pos (by simp) ?_
          refine Ev_neg (ar1 harc.2 hda) ?_
          by_cases heq : rd D' w + 2 = (d : Int) + 1
          · refine Ev_pos heq ?_
            refine Ev_pos (ar2 hd0) ?_
            exact Ev_neg (first_least ht hd0 hw he heq) next
          · exact Ev_neg heq next
    · exact Ev_neg e j4t

theorem paths_l0 {n : Nat} {l : List S31} {a b : Nat} {p : List Int} (hb : p.length < 1000000) (hll : l.length < 1000000000) (h : ∀ i, i + 1 < p.length → ∃ u w : Nat, p[i]? = some (u : Int) ∧ p[i + 1]? = some (w : Int) ∧ arcB l u w = true)
    (next : Ev (fun k => bournelaw11_GraphPaths.l1 k n l a b true p 0) true) : ∀ (m i : Nat), 1 ≤ i → i + m = max 1 p.length →
    Ev (fun k => bournelaw11_GraphPaths.l0 k n l a b true p (i : Int)) true := by
  intro m
  induction m with
  | zero =>
    intro i h0 hi
    refine Ev_unroll ?_
    simp only [bournelaw11_GraphPaths.l0]
    exact Ev_neg (by omega) next
  | succ m ih =>
    intro i h0 hi
    have hw : wrap64 ((i : Int) - 1) = ((i - 1 : Nat) : Int) := by rw [wrap_less (by omega) (by omega)]; omega
    obtain ⟨u, w, e1, e2, he⟩ := h (i - 1) (by omega)
    rw [show i - 1 + 1 = i by omega] at e2
    have hhas : hasB l (u : Int) (w : Int) = true := he
    have hrun := has_run l (u : Int) (w : Int) hll
    rw [hhas] at hrun
    refine Ev_unroll ?_
    simp only [bournelaw11_GraphPaths.l0, hw, rd_get e1, rd_get e2]
    refine Ev_pos (by omega) (Ev_pos (by omega) (Ev_pos (by omega) (Ev_pos (by omega) (Ev.bind hrun (Ev_pos rfl ?_)))))
    rw [wrap_le (by omega) (by omega)]
    exact ih (i + 1) (by omega) (by omega)

theorem GraphPaths (a0 : Int) (l1 : List S31) (a2 a3 : Int) (w0 : (Lit.int .i64 a0).wf = true) (w1 : l1.length ≤ maxLen ∧ ∀ x ∈ l1, (Lit.int .i64 x.f0).wf = true ∧ (Lit.int .i64 x.f1).wf = true) (w2 : (Lit.int .i64 a2).wf = true) (w3 : (Lit.int .i64 a3).wf = true) : ∃ k, bournelaw11_GraphPaths.f k a0 l1 a2 a3 = some true := by
  refine Ev.rounds ?_
  unfold bournelaw11_GraphPaths.f
  refine Ev.bind small_run (Ev_eq (few_run a0 l1) ?_)
  have jt : ∀ p, Ev (fun k => bournelaw11_GraphPaths.j0 k a0 l1 a2 a3 true p true) true := fun p => by
    refine Ev_unroll ?_
    simp only [bournelaw11_GraphPaths.j0]
    exact Ev_pos (by simp) (Ev.now _)
  by_cases hok : graph_Right.f a0 l1 = some true ∧ 0 ≤ a2 ∧ a2 < a0 ∧ 0 ≤ a3 ∧ a3 < a0
  · obtain ⟨hr, h2, h3, h4, h5⟩ := hok
    obtain ⟨n, rfl⟩ := Int.eq_ofNat_of_zero_le (show 0 ≤ a0 by omega)
    obtain ⟨a, rfl⟩ := Int.eq_ofNat_of_zero_le h2
    obtain ⟨b, rfl⟩ := Int.eq_ofNat_of_zero_le h4
    have ha : a < n := by omega
    have hb : b < n := by omega
    obtain ⟨_, hn, hll, _⟩ := right_of hr
    obtain ⟨D, r, hD, hev⟩ := path_run hr ha hb
    refine Ev.bind hev ?_
    by_cases hf : (decide ((n : Int) ≤ 16) && decide ((l1.length : Int) ≤ 40)) = true
    · refine Ev_pos hf ?_
      by_cases h0 : rd D a < 0
      · rw [hD.no h0]; exact jt _
      · obtain ⟨t, rfl, ht⟩ := hD.yes (by omega)
        obtain ⟨htl, hda⟩ := ht.len
        have hlow := FarSpec.low hD.tos ha
        have hpl : (((a : Int) :: t).length : Int) = (rd D a).toNat + 1 := by simp [htl]
        obtain ⟨u, eu, hu, hud⟩ := ht.get ha (rd D a).toNat (Nat.le_refl _)
        obtain rfl : u = b := FarSpec.zero hD.tos hu (by omega)
        have hlast : rd ((a : Int) :: t) (wrap64 ((((a : Int) :: t).length : Int) - 1)) = u := by
          rw [wrap_less (by omega) (by omega), hpl, show (((rd D a).toNat : Int) + 1 - 1) = ((rd D a).toNat : Int) by omega]
          exact rd_get eu
        have hfirst : rd ((a : Int) :: t) 0 = a := rfl
        have hwl : wrap64 ((((a : Int) :: t).length : Int) - 1) = ((rd D a).toNat : Int) := by rw [wrap_less (by omega) (by omega)]; omega
        have l0 := paths_l0 (n := n) (l := l1) (a := a) (b := u) (p := (a : Int) :: t) (by omega) (by omega) (fun i hi => by
          obtain ⟨x, y, e1, e2, e3⟩ := ht.arc i (by omega)
          exact ⟨x, y, e1, e2, e3⟩) (paths_l1 hr ha hb hD.tos ht l1.length 0 (by omega)) (max 1 ((a : Int) :: t).length - 1) 1 (by omega) (by omega)
        have j1 : Ev (fun k => bournelaw11_GraphPaths.j1 k n l1 a u true ((a : Int) :: t) false) true := by
          refine Ev_unroll ?_
          simp only [bournelaw11_GraphPaths.j1]
          exact Ev_neg (by simp) l0
        refine Ev_unroll ?_
        simp only [bournelaw11_GraphPaths.j0, hfirst, hlast]
        refine Ev_neg (by simp) (Ev_neg (by omega) (Ev_pos (by omega) (Ev_pos (by simp) (Ev_pos (by omega) (Ev_pos (by omega) ?_)))))
        rw [show ((u : Int) != (u : Int)) = false by simp]
        exact j1
    · exact Ev_neg hf (jt _)
  · have hnone := path_none (n := a0) (l := l1) (a := a2) (b := a3) (by
      rcases right_cases a0 l1 with hr | hr
      · refine .inr (Classical.byContradiction fun hc => hok ⟨hr, ?_⟩)
        omega
      · exact .inl hr)
    refine Ev.bind hnone ?_
    by_cases hf : (decide (a0 ≤ 16) && decide ((l1.length : Int) ≤ 40)) = true
    · exact Ev_pos hf (jt _)
    · exact Ev_neg hf (jt _)
end Go.Proofs.Ytibnodjlcaodeaa.Pure
