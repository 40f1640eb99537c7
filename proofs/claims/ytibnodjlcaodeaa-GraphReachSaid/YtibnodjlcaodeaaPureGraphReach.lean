/-
  GraphReach, in plain Lean.
-/
import Derived.Test.YtibnodjlcaodeaaA5
import Derived.Test.YtibnodjlcaodeaaK31
namespace Go.Proofs.Ytibnodjlcaodeaa.Pure
open Go.RowKit Go.Proofs.Ytibnodjlcaodeaa.G Go.Proofs.YtibnodjlcaodeaaW.PrintWords Go.Proofs.YtibnodjlcaodeaaW.PrintLast

theorem reach_l0 {l : List S31} {d u : List Int} (hs : d.Pairwise (· < ·)) (hb : d.length < 1000000000) (h1 : Ev (fun k => bournelaw11_GraphReach.l1 k l true d u 0) true) : ∀ (m i : Nat), 1 ≤ i → i + m = max 1 d.length → Ev (fun k => bournelaw11_GraphReach.l0 k l true d u (i : Int)) true := by
  intro m
  induction m with
  | zero =>
    intro i h0 hi
    refine Ev_unroll ?_
    simp only [bournelaw11_GraphReach.l0]
    exact Ev_neg (by omega) h1
  | succ m ih =>
    intro i h0 hi
    have hi' : i < d.length := by omega
    have hw : wrap64 ((i : Int) - 1) = ((i - 1 : Nat) : Int) := by rw [wrap_less (by omega) (by omega)]; omega
    have hlt : rd d ((i - 1 : Nat) : Int) < rd d (i : Int) := by
      rw [rd_get (List.getElem?_eq_getElem hi'), rd_get (List.getElem?_eq_getElem (show i - 1 < d.length by omega))]
      exact List.pairwise_iff_getElem.1 hs _ _ _ _ (by omega)
    refine Ev_unroll ?_
    simp only [bournelaw11_GraphReach.l0, hw]
    refine Ev_pos (by omega) (Ev_pos (by omega) (Ev_pos (by omega) (Ev_pos (by omega) (Ev_neg (by omega) ?_))))
    rw [wrap_le (by omega) (by omega)]
    exact ih (i + 1) (by omega) (by omega)

theorem reach_l1 {l : List S31} {d u : List Int} (hd : d.length < 1000000000) (hu : u.length < 1000000000) (hl : l.length < 1000000000) (h1 : ∀ x ∈ l, x.f0 ∈ d → x.f1 ∈ d) (h2 : ∀ x ∈ l, x.f1 ∈ u → x.f0 ∈ u) : ∀ (m i : Nat), i + m = l.length → Ev (fun k => bournelaw11_GraphReach.l1 k l true d u (i : Int)) true := by
  intro m
  induction m with
  | zero =>
    intro i hi
    refine Ev_unroll ?_
    simp only [bournelaw11_GraphReach.l1]
    exact Ev_neg (by omega) (Ev.now _)
  | succ m ih =>
    intro i hi
    have hm : rd_T31 l (i : Int) ∈ l := by
      unfold rd_T31
      rw [Int.toNat_natCast, List.getD_eq_getElem?_getD, List.getElem?_eq_getElem (by omega)]
      exact List.getElem_mem _
    generalize hx : rd_T31 l (i : Int) = x at hm
    have next : Ev (fun k => bournelaw11_GraphReach.l1 k l true d u (wrap64 ((i : Int) + 1))) true := by
      rw [wrap_le (by omega) (by omega)]
      exact ih (i + 1) (by omega)
    have rest : Ev (fun k => (bournelaw11_at.f k u x.f1).bind fun t504 => (if t504 ≥ 0 then ((bournelaw11_at.f k u x.f0).bind fun t506 => (if t506 < 0 then (some false) else (bournelaw11_GraphReach.l1 k l true d u (wrap64 ((i : Int) + 1))))) else (bournelaw11_GraphReach.l1 k l true d u (wrap64 ((i : Int) + 1))))) true := by
      refine Ev.bind (at_run u x.f1 hu) ?_
      by_cases e : x.f1 ∈ u
      · refine Ev_pos (atI_nonneg.2 e) (Ev.bind (at_run u x.f0 hu) (Ev_neg (fun h => atI_neg.1 h (h2 x hm e)) next))
      · exact Ev_neg (fun h => e (atI_nonneg.1 h)) next
    refine Ev_unroll ?_
    simp only [bournelaw11_GraphReach.l1, hx]
    refine Ev_pos (by omega) (Ev_pos (by omega) (Ev.bind (at_run d x.f0 hd) ?_))
    by_cases e : x.f0 ∈ d
    · exact Ev_pos (atI_nonneg.2 e) (Ev.bind (at_run d x.f1 hd) (Ev_neg (fun h => atI_neg.1 h (h1 x hm e)) rest))
    · exact Ev_neg (fun h => e (atI_nonneg.1 h)) rest

theorem reach_main {n : Nat} {l : List S31} {a b : Nat} (h : graph_Right.f n l = some true) (ha : a < n) (hb : b < n) : Ev (fun k => bournelaw11_GraphReach.j0 k n l a b true false) true := by
  obtain ⟨_, hn, hll, hin⟩ := right_of h
  have hE := arcs_in h
  obtain ⟨D, hD, hdown⟩ := down_run h ha
  obtain ⟨U, hU, hup⟩ := up_run h hb
  obtain ⟨T, r, hT, hpath⟩ := path_run h ha hb
  obtain rfl : U = T := hU.unique hT.tos
  have dl : (known n D).length < 1000000000 := by have := known_len n D; omega
  have ul : (known n U).length < 1000000000 := by have := known_len n U; omega
  have way : r.2 = decide (0 ≤ rd U a) := by
    by_cases h0 : rd U a < 0
    · rw [hT.no h0, decide_eq_false (by omega)]
    · obtain ⟨t, e, _⟩ := hT.yes (by omega)
      rw [e, decide_eq_true (by omega)]
  have reach : 0 ≤ rd U a ↔ 0 ≤ rd D b := by
    have walkD := hD.each b hb
    have walkU := hU.each a ha
    constructor
    · intro h0
      rcases walkU with ⟨h1, _⟩ | ⟨k, h1, h2, h3⟩
      · omega
      · rcases walkD with ⟨g1, g2⟩ | ⟨k', g1, _⟩
        · exact absurd (Wk_flip.1 h3.1) (g2 _)
        · omega
    · intro h0
      rcases walkD with ⟨h1, _⟩ | ⟨k, h1, h2, h3⟩
      · omega
      · rcases walkU with ⟨g1, g2⟩ | ⟨k', g1, _⟩
        · exact absurd (Wk_flip.2 h3.1) (g2 _)
        · omega
  have mD : ∀ w : Nat, w < n → ((w : Int) ∈ known n D ↔ 0 ≤ rd D w) := fun w hw => by
    rw [known_mem]
    exact ⟨fun ⟨x, e, _, h⟩ => by rw [e]; exact h, fun h => ⟨w, rfl, hw, h⟩⟩
  have mU : ∀ w : Nat, w < n → ((w : Int) ∈ known n U ↔ 0 ≤ rd U w) := fun w hw => by
    rw [known_mem]
    exact ⟨fun ⟨x, e, _, h⟩ => by rw [e]; exact h, fun h => ⟨w, rfl, hw, h⟩⟩
  have arc : ∀ x ∈ l, ∃ v w : Nat, x.f0 = v ∧ x.f1 = w ∧ v < n ∧ w < n ∧ arcB l v w = true := fun x hx => by
    have := hin x hx
    refine ⟨x.f0.toNat, x.f1.toNat, by omega, by omega, by omega, by omega, ?_⟩
    unfold arcB
    rw [List.any_eq_true]
    exact ⟨x, hx, by simp only [Bool.and_eq_true, decide_eq_true_eq]; omega⟩
  have c1 : ∀ x ∈ l, x.f0 ∈ known n D → x.f1 ∈ known n D := fun x hx hm => by
    obtain ⟨v, w, e1, e2, hv, hw, he⟩ := arc x hx
    rw [e1, mD v hv] at hm
    rw [e2, mD w hw]
    rcases hD.each v hv with ⟨h1, _⟩ | ⟨k, h1, h2, h3⟩
    · omega
    · rcases hD.each w hw with ⟨g1, g2⟩ | ⟨k', g1, _⟩
      · exact absurd (h3.1.snoc he) (g2 _)
      · omega
  have c2 : ∀ x ∈ l, x.f1 ∈ known n U → x.f0 ∈ known n U := fun x hx hm => by
    obtain ⟨v, w, e1, e2, hv, hw, he⟩ := arc x hx
    rw [e2, mU w hw] at hm
    rw [e1, mU v hv]
    exact (ToSpec.arc hU hv hw he hm).1
  have l0 := reach_l0 (u := known n U) (known_asc n D) dl (reach_l1 dl ul (by omega) c1 c2 l.length 0 (by omega)) (max 1 (known n D).length - 1) 1 (by omega) (by omega)
  have j1 : Ev (fun k => bournelaw11_GraphReach.j1 k l true (known n D) (known n U) false) true := by
    refine Ev_unroll ?_
    simp only [bournelaw11_GraphReach.j1]
    exact Ev_neg (by simp) l0
  refine Ev_unroll ?_
  simp only [bournelaw11_GraphReach.j0]
  refine Ev_neg (by simp) (Ev.bind hdown (Ev.bind hup (Ev.bind hpath (Ev.bind (at_run _ _ dl) (Ev_neg ?_ (Ev.bind (at_run _ _ ul) (Ev_neg ?_ (Ev.bind (at_run _ _ dl) (Ev_neg ?_ (Ev.bind (at_run _ _ ul) ?_))))))))))
  · rw [way, show decide (atI (known n D) (b : Int) ≥ 0) = decide (0 ≤ rd U a) from decide_eq_decide.2 (by rw [reach, ← mD b hb]; exact atI_nonneg)]
    simp
  · rw [way, show decide (atI (known n U) (a : Int) ≥ 0) = decide (0 ≤ rd U a) from decide_eq_decide.2 (by rw [← mU a ha]; exact atI_nonneg)]
    simp
  · rw [atI_neg, mD a ha]
    have := hD.src ha
    omega
  · rw [decide_eq_false (by rw [atI_neg, mU b hb]; have := FarSpec.src hU hb; omega)]
    exact j1

theorem GraphReach (a0 : Int) (l1 : List S31) (a2 a3 : Int) (w0 : (Lit.int .i64 a0).wf = true) (w1 : l1.length ≤ maxLen ∧ ∀ x ∈ l1, (Lit.int .i64 x.f0).wf = true ∧ (Lit.int .i64 x.f1).wf = true) (w2 : (Lit.int .i64 a2).wf = true) (w3 : (Lit.int .i64 a3).wf = true) : ∃ k, bournelaw11_GraphReach.f k a0 l1 a2 a3 = some true := by
  refine Ev.rounds ?_
  unfold bournelaw11_GraphReach.f
  refine Ev.bind small_run (Ev_eq (few_run a0 l1) ?_)
  have jt : Ev (fun k => bournelaw11_GraphReach.j0 k a0 l1 a2 a3 true true) true := by
    refine Ev_unroll ?_
    simp only [bournelaw11_GraphReach.j0]
    exact Ev_pos (by simp) (Ev.now _)
  by_cases hf : (decide (a0 ≤ 16) && decide ((l1.length : Int) ≤ 40)) = true
  · refine Ev_pos hf ?_
    rcases right_cases a0 l1 with hr | hr
    · refine Ev_eq hr (Ev_pos rfl ?_)
      by_cases h1 : a2 < 0
      · exact Ev_pos h1 jt
      refine Ev_neg h1 ?_
      by_cases h2 : a2 ≥ a0
      · exact Ev_pos h2 jt
      refine Ev_neg h2 ?_
      by_cases h3 : a3 < 0
      · exact Ev_pos h3 jt
      refine Ev_neg h3 ?_
      by_cases h4 : a3 ≥ a0
      · rw [decide_eq_true h4]; exact jt
      · rw [decide_eq_false h4]
        obtain ⟨n, rfl⟩ := Int.eq_ofNat_of_zero_le (show 0 ≤ a0 by omega)
        obtain ⟨a, rfl⟩ := Int.eq_ofNat_of_zero_le (show 0 ≤ a2 by omega)
        obtain ⟨b, rfl⟩ := Int.eq_ofNat_of_zero_le (show 0 ≤ a3 by omega)
        exact reach_main hr (by omega) (by omega)
    · exact Ev_eq hr (Ev_neg (by simp) jt)
  · exact Ev_neg hf jt
end Go.Proofs.Ytibnodjlcaodeaa.Pure
