/-
  GraphOrders, in plain Lean: an order, or a cycle.
-/
import Derived.Test.YtibnodjlcaodeaaA5
import Derived.Test.YtibnodjlcaodeaaA8
import Derived.Test.YtibnodjlcaodeaaK16
namespace Go.Proofs.Ytibnodjlcaodeaa.Pure
open Go.RowKit Go.Proofs.Ytibnodjlcaodeaa.G Go.Proofs.YtibnodjlcaodeaaW.PrintWords Go.Proofs.YtibnodjlcaodeaaW.PrintLast
set_option linter.unusedVariables false
set_option linter.unusedSimpArgs false

theorem rd_arc {l : List S31} {i : Nat} (hi : i < l.length) : rd_T31 l (i : Int) ∈ l := by
  unfold rd_T31
  rw [Int.toNat_natCast, List.getD_eq_getElem?_getD, List.getElem?_eq_getElem hi]
  exact List.getElem_mem _
theorem arc_of {n : Nat} {l : List S31} (h : graph_Right.f n l = some true) : ∀ x ∈ l, ∃ v w : Nat, x.f0 = v ∧ x.f1 = w ∧ v < n ∧ w < n ∧ arcB l v w = true := fun x hx => by
  obtain ⟨_, hn, hll, hin⟩ := right_of h
  have := hin x hx
  refine ⟨x.f0.toNat, x.f1.toNat, by omega, by omega, by omega, by omega, ?_⟩
  unfold arcB
  rw [List.any_eq_true]
  exact ⟨x, hx, by simp only [Bool.and_eq_true, decide_eq_true_eq]; omega⟩

theorem orders_l1 {n : Nat} {l : List S31} {o : List Int} (h : graph_Right.f n l = some true) (hi : Inv n (arcB l) o) (ho : Ord (arcB l) o) (hol : o.length = n) : ∀ (m i : Nat), i + m = l.length →
    Ev (fun k => bournelaw11_GraphOrders.l1 k n l true o (i : Int)) true := by
  obtain ⟨_, hn, hll, _⟩ := right_of h
  intro m
  induction m with
  | zero =>
    intro i hi
    refine Ev_unroll ?_
    simp only [bournelaw11_GraphOrders.l1]
    refine Ev_neg (by omega) (Ev_pos (by simp) ?_)
    rw [hol, show ((n : Int) == (n : Int)) = true by simp]
    exact Ev.now _
  | succ m ih =>
    intro i him
    have hm := rd_arc (show i < l.length by omega)
    generalize hx : rd_T31 l (i : Int) = x at hm
    obtain ⟨v, w, e1, e2, hv, hw, he⟩ := arc_of h x hm
    have hlt := ho v w (hi.all hol hw) he
    refine Ev_unroll ?_
    simp only [bournelaw11_GraphOrders.l1, hx, e1, e2]
    refine Ev_pos (by omega) (Ev_pos (by omega) (Ev.bind (at_run _ _ (by omega)) (Ev.bind (at_run _ _ (by omega)) (Ev_neg (by omega) ?_))))
    rw [wrap_le (by omega) (by omega)]
    exact ih (i + 1) (by omega)

theorem orders_l0 {n : Nat} {l : List S31} {o : List Int} (h : graph_Right.f n l = some true) (hi : Inv n (arcB l) o) (ho : Ord (arcB l) o) (hol : o.length = n) : ∀ (m i : Nat), i + m = n →
    Ev (fun k => bournelaw11_GraphOrders.l0 k n l true o (i : Int)) true := by
  obtain ⟨_, hn, hll, _⟩ := right_of h
  intro m
  induction m with
  | zero =>
    intro i him
    refine Ev_unroll ?_
    simp only [bournelaw11_GraphOrders.l0]
    exact Ev_neg (by omega) (orders_l1 h hi ho hol l.length 0 (by omega))
  | succ m ih =>
    intro i him
    have hin := atI_nonneg.2 (hi.all hol (show i < n by omega))
    refine Ev_unroll ?_
    simp only [bournelaw11_GraphOrders.l0]
    refine Ev_pos (by omega) (Ev.bind (at_run _ _ (by omega)) (Ev_neg (by omega) ?_))
    rw [wrap_le (by omega) (by omega)]
    exact ih (i + 1) (by omega)

theorem orders_l2 {l : List S31} {c : List Int} (hl : l.length < 1000000000) (hc0 : 0 < c.length) (hc : c.length < 1000000) (hd : c.Nodup) (harc : ∀ i, i < c.length → hasB l (rd c (i : Int)) (if i + 1 < c.length then rd c ((i + 1 : Nat) : Int) else rd c 0) = true) : ∀ (m i : Nat), i + m = c.length →
    Ev (fun k => bournelaw11_GraphOrders.l2 k l true [] c (i : Int)) true := by
  intro m
  induction m with
  | zero =>
    intro i hi
    refine Ev_unroll ?_
    simp only [bournelaw11_GraphOrders.l2]
    exact Ev_neg (by omega) (Ev_pos (by simp) (Ev.now _))
  | succ m ih =>
    intro i hi
    have hw : wrap64 ((i : Int) + 1) = ((i + 1 : Nat) : Int) := by rw [wrap_le (by omega) (by omega)]; omega
    have key := ih (i + 1) (by omega)
    have ha := harc i (by omega)
    have j4 : ∀ x, hasB l (rd c (i : Int)) x = true → Ev (fun k => bournelaw11_GraphOrders.j4 k l true [] c (i : Int) x) true := fun x hx => by
      have hrun := has_run l (rd c (i : Int)) x hl
      rw [hx] at hrun
      have hat := at_run c (rd c (i : Int)) (by omega)
      rw [atI_at hd (by omega)] at hat
      refine Ev_unroll ?_
      simp only [bournelaw11_GraphOrders.j4, hw]
      exact Ev_pos (by omega) (Ev_pos (by omega) (Ev.bind hrun (Ev_pos rfl (Ev.bind hat (Ev_pos rfl key)))))
    refine Ev_unroll ?_
    simp only [bournelaw11_GraphOrders.l2, hw]
    refine Ev_pos (by omega) (Ev_pos (by omega) ?_)
    by_cases hlt : i + 1 < c.length
    · rw [if_pos hlt] at ha
      exact Ev_pos (by omega) (Ev_pos (by omega) (j4 _ ha))
    · rw [if_neg hlt] at ha
      exact Ev_neg (by omega) (j4 _ ha)

theorem cycle_arcs {n : Nat} {l : List S31} {v : Nat} {D : List Int} {w : Nat} {t c : List Int} (hv : v < n) (hn : n ≤ 256) (h : CycleAt n (arcB l) v D w t c) :
    0 < c.length ∧ c.length < 1000000 ∧ c.Nodup ∧ ∀ i, i < c.length → hasB l (rd c (i : Int)) (if i + 1 < c.length then rd c ((i + 1 : Nat) : Int) else rd c 0) = true := by
  have hlow := FarSpec.low h.tos h.arc.1
  have hok := h.best.ok
  have hw := h.walk
  obtain ⟨d, hd⟩ : ∃ d, d = (rd D w).toNat := ⟨_, rfl⟩
  rw [← hd] at hw
  have htl := hw.len.1
  have hcl : c.length = d + 1 := by rw [h.eq]; simp [htl]
  have hD0 : rd D v = 0 := FarSpec.src h.tos hv
  have h0 : rd c 0 = v := by rw [h.eq]; rfl
  have hs : ∀ i, i < d → ∃ u : Nat, c[i + 1]? = some (u : Int) ∧ ((w : Int) :: t)[i]? = some (u : Int) ∧ rd D u + i = d := fun i hi => by
    obtain ⟨u, e, _, hu⟩ := hw.get h.arc.1 i (by omega)
    refine ⟨u, ?_, e, hu⟩
    rw [h.eq, List.getElem?_cons_succ, List.getElem?_dropLast, if_pos (by simp [htl]; omega)]
    exact e
  have hc0 : c[0]? = some (v : Int) := by rw [h.eq]; rfl
  refine ⟨by omega, by omega, ?_, fun i hi => ?_⟩
  · rw [List.nodup_iff_pairwise_ne, List.pairwise_iff_getElem]
    intro i j hi hj hij e
    have e' : c[i]? = c[j]? := by rw [List.getElem?_eq_getElem hi, List.getElem?_eq_getElem hj, e]
    obtain ⟨j, rfl⟩ : ∃ j', j = j' + 1 := ⟨j - 1, by omega⟩
    obtain ⟨u, e1, _, hu⟩ := hs j (by omega)
    cases i with
    | zero =>
      rw [hc0, e1] at e'
      have := Option.some.inj e'
      have : v = u := by omega
      subst this
      omega
    | succ i =>
      obtain ⟨x, e2, _, hx⟩ := hs i (by omega)
      rw [e2, e1] at e'
      have := Option.some.inj e'
      have : x = u := by omega
      subst this
      omega
  · have hnext : (if i + 1 < c.length then rd c ((i + 1 : Nat) : Int) else rd c 0) = rd ((w : Int) :: t) (i : Int) := by
      by_cases hlt : i + 1 < c.length
      · rw [if_pos hlt]
        obtain ⟨u, e1, e2, _⟩ := hs i (by omega)
        rw [rd_get e1, rd_get e2]
      · rw [if_neg hlt, h0]
        obtain ⟨u, e, hu, hud⟩ := hw.get h.arc.1 i (by omega)
        obtain rfl : u = v := FarSpec.zero h.tos hu (by omega)
        rw [rd_get e]
    rw [hnext]
    cases i with
    | zero =>
      rw [rd_get hc0]
      exact h.arc.2
    | succ i =>
      obtain ⟨u, e1, e2, _⟩ := hs i (by omega)
      obtain ⟨x, y, e3, e4, he⟩ := hw.arc i (by omega)
      rw [e2] at e3
      have := Option.some.inj e3
      obtain rfl : u = x := by omega
      rw [rd_get e1, rd_get e4]
      exact he

theorem GraphOrders (a0 : Int) (l1 : List S31) (w0 : (Lit.int .i64 a0).wf = true) (w1 : l1.length ≤ maxLen ∧ ∀ x ∈ l1, (Lit.int .i64 x.f0).wf = true ∧ (Lit.int .i64 x.f1).wf = true) : ∃ k, bournelaw11_GraphOrders.f k a0 l1 = some true := by
  refine Ev.rounds ?_
  unfold bournelaw11_GraphOrders.f
  refine Ev.bind small_run ?_
  have jt : Ev (fun k => bournelaw11_GraphOrders.j0 k a0 l1 true true) true := by
    refine Ev_unroll ?_
    simp only [bournelaw11_GraphOrders.j0]
    exact Ev_pos (by simp) (Ev.now _)
  rcases right_cases a0 l1 with h | h
  · refine Ev_eq h (Ev_pos rfl ?_)
    by_cases hlong : (l1.length : Int) > 200
    · rw [decide_eq_true hlong]; exact jt
    · rw [decide_eq_false hlong]
      obtain ⟨n, rfl⟩ := Int.eq_ofNat_of_zero_le (right_of h).1
      obtain ⟨_, hn, hll, _⟩ := right_of h
      have hE := arcs_in h
      obtain ⟨c, hc, hcev⟩ := loop_run h
      have hoev := order_run h
      refine Ev_unroll ?_
      simp only [bournelaw11_GraphOrders.j0]
      refine Ev_neg (by simp) (Ev.bind hoev (Ev.bind hcev ?_))
      rcases topo_all hE with ⟨r, e, hl, hi, ho, _⟩ | ⟨e, o, hl, hf⟩
      · have hc0 : c = [] := by
          rcases hc with ⟨hc, _⟩ | ⟨v, D, w, t, _, _, hcy⟩
          · exact hc
          · exact absurd (ordered_no_cycle hE hi ho hl v) hcy.is
        subst hc0
        rw [e]
        exact Ev_neg (by simp) (Ev_pos rfl (orders_l0 h hi ho hl n 0 (by omega)))
      · rcases hc with ⟨_, hno⟩ | ⟨v, D, w, t, hv, _, hcy⟩
        · exact absurd hno (stuck_cycle hE hl hf)
        · obtain ⟨h1, h2, h3, h4⟩ := cycle_arcs hv (by omega) hcy
          rw [e]
          refine Ev_neg ?_ (Ev_neg (by simp) (orders_l2 (by omega) h1 h2 h3 h4 c.length 0 (by omega)))
          have : ((c.length : Int) == 0) = false := by simp; intro hz; rw [hz] at h1; simp at h1
          rw [this]; simp
  · exact Ev_eq h (Ev_neg (by simp) jt)
end Go.Proofs.Ytibnodjlcaodeaa.Pure
