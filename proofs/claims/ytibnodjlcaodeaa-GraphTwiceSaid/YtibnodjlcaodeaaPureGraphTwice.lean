/-
  GraphTwice, in plain Lean: all functions answer by the number of nodes and by which arcs there are.
-/
import Derived.Test.YtibnodjlcaodeaaA5
import Derived.Test.YtibnodjlcaodeaaA8
import Derived.Test.YtibnodjlcaodeaaK21
namespace Go.Proofs.Ytibnodjlcaodeaa.Pure
open Go.RowKit Go.Proofs.Ytibnodjlcaodeaa.G Go.Proofs.YtibnodjlcaodeaaW.PrintWords Go.Proofs.YtibnodjlcaodeaaW.PrintLast
set_option linter.unusedVariables false
set_option linter.unusedSimpArgs false

theorem two_order {n : Int} {l m : List S31} (hr : graph_Right.f n m = graph_Right.f n l) (he : arcB m = arcB l) : ∃ r, r.1.length < 1000000000 ∧ Ev (fun k => graph_Order.f k n l) r ∧ Ev (fun k => graph_Order.f k n m) r := by
  rcases right_cases n l with h | h
  · obtain ⟨k, rfl⟩ := Int.eq_ofNat_of_zero_le (right_of h).1
    have hn := (right_of h).2.1
    refine ⟨_, ?_, order_run h, ?_⟩
    · rcases topo_all (arcs_in h) with ⟨r, e, hl, _⟩ | ⟨e, _⟩
      · rw [e]; dsimp only; omega
      · rw [e]; simp
    · have := order_run (l := m) (hr.trans h)
      rw [he] at this
      exact this
  · exact ⟨_, by simp, order_none h, order_none (hr.trans h)⟩
theorem two_path {n : Int} {l m : List S31} {a b : Int} (hr : graph_Right.f n m = graph_Right.f n l) (he : arcB m = arcB l) : ∃ r, r.1.length < 1000000000 ∧ Ev (fun k => graph_Path.f k n l a b) r ∧ Ev (fun k => graph_Path.f k n m a b) r := by
  by_cases hok : graph_Right.f n l = some true ∧ 0 ≤ a ∧ a < n ∧ 0 ≤ b ∧ b < n
  · obtain ⟨h, h2, h3, h4, h5⟩ := hok
    obtain ⟨n, rfl⟩ := Int.eq_ofNat_of_zero_le (show 0 ≤ n by omega)
    obtain ⟨a, rfl⟩ := Int.eq_ofNat_of_zero_le h2
    obtain ⟨b, rfl⟩ := Int.eq_ofNat_of_zero_le h4
    have hn := (right_of h).2.1
    obtain ⟨D, r, hD, hev⟩ := path_run h (show a < n by omega) (show b < n by omega)
    obtain ⟨D', r', hD', hev'⟩ := path_run (l := m) (hr.trans h) (show a < n by omega) (show b < n by omega)
    rw [he] at hD'
    obtain rfl := hD'.unique hD
    refine ⟨_, ?_, hev, hev'⟩
    by_cases h0 : rd D a < 0
    · rw [hD.no h0]; simp
    · obtain ⟨t, rfl, ht⟩ := hD.yes (by omega)
      have := ht.len.1
      have := FarSpec.low hD.tos (show a < n by omega)
      simp only [List.length_cons]
      omega
  · have key : ∀ x : List S31, graph_Right.f n x = graph_Right.f n l → Ev (fun k => graph_Path.f k n x a b) ([], false) := fun x hx => path_none (by
      rcases right_cases n x with h | h
      · refine .inr (Classical.byContradiction fun hc => hok ⟨hx.symm.trans h, ?_⟩)
        omega
      · exact .inl h)
    exact ⟨_, by simp, key l rfl, key m hr⟩
theorem two_loop {n : Int} {l m : List S31} (hr : graph_Right.f n m = graph_Right.f n l) (he : arcB m = arcB l) : ∃ r : List Int, r.length < 1000000000 ∧ Ev (fun k => graph_Loop.f k n l) r ∧ Ev (fun k => graph_Loop.f k n m) r := by
  rcases right_cases n l with h | h
  · obtain ⟨n, rfl⟩ := Int.eq_ofNat_of_zero_le (right_of h).1
    have hn := (right_of h).2.1
    obtain ⟨c, hc, hev⟩ := loop_run h
    obtain ⟨c', hc', hev'⟩ := loop_run (l := m) (hr.trans h)
    rw [he] at hc'
    obtain rfl := hc'.unique hc
    refine ⟨_, ?_, hev, hev'⟩
    rcases hc with ⟨rfl, _⟩ | ⟨v, D, w, t, hv, _, hcy⟩
    · simp
    · rw [hcy.eq]
      have := hcy.walk.len.1
      have := FarSpec.low hcy.tos hcy.arc.1
      simp only [List.length_cons, List.length_dropLast]
      omega
  · exact ⟨_, by simp, loop_none h, loop_none (hr.trans h)⟩
theorem two_down {n : Int} {l m : List S31} {a : Int} (hr : graph_Right.f n m = graph_Right.f n l) (he : arcB m = arcB l) : ∃ r : List Int, r.length < 1000000000 ∧ Ev (fun k => graph_Down.f k n l a) r ∧ Ev (fun k => graph_Down.f k n m a) r := by
  by_cases hok : graph_Right.f n l = some true ∧ 0 ≤ a ∧ a < n
  · obtain ⟨h, h2, h3⟩ := hok
    obtain ⟨n, rfl⟩ := Int.eq_ofNat_of_zero_le (show 0 ≤ n by omega)
    obtain ⟨a, rfl⟩ := Int.eq_ofNat_of_zero_le h2
    have hn := (right_of h).2.1
    obtain ⟨D, hD, hev⟩ := down_run h (show a < n by omega)
    obtain ⟨D', hD', hev'⟩ := down_run (l := m) (hr.trans h) (show a < n by omega)
    rw [he] at hD'
    obtain rfl := hD'.unique hD
    exact ⟨_, by have := known_len n D'; omega, hev, hev'⟩
  · have key : ∀ x : List S31, graph_Right.f n x = graph_Right.f n l → Ev (fun k => graph_Down.f k n x a) [] := fun x hx => down_none (by
      rcases right_cases n x with h | h
      · refine .inr (Classical.byContradiction fun hc => hok ⟨hx.symm.trans h, ?_⟩)
        omega
      · exact .inl h)
    exact ⟨_, by simp, key l rfl, key m hr⟩

theorem twice_right {n : Int} {l : List S31} (h : l.length ≤ 40) : graph_Right.f n (l.reverse ++ l) = graph_Right.f n l := by
  unfold graph_Right.f
  rw [List.all_append, List.all_reverse, Bool.and_self, decide_eq_true (show (l.reverse ++ l).length ≤ 4096 by simp; omega), decide_eq_true (show l.length ≤ 4096 by omega)]
theorem twice_arcs (l : List S31) : arcB (l.reverse ++ l) = arcB l := by
  funext v w
  unfold arcB
  rw [List.any_append, List.any_reverse, Bool.or_self]

theorem twice_l0 {n a b : Int} {l : List S31} (hl : l.length ≤ 40) : ∀ (i : Nat), i ≤ l.length →
    Ev (fun k => bournelaw11_GraphTwice.l0 k n l a b true (l.drop i).reverse ((i : Int) - 1)) true := by
  intro i
  induction i with
  | zero =>
    intro _
    rw [List.drop_zero]
    obtain ⟨r1, b1, o1, o2⟩ := two_order (n := n) (l := l) (m := l.reverse ++ l) (twice_right hl) (twice_arcs l)
    obtain ⟨r2, b2, p1, p2⟩ := two_path (n := n) (l := l) (m := l.reverse ++ l) (a := a) (b := b) (twice_right hl) (twice_arcs l)
    obtain ⟨r3, b3, q1, q2⟩ := two_loop (n := n) (l := l) (m := l.reverse ++ l) (twice_right hl) (twice_arcs l)
    obtain ⟨r4, b4, d1, d2⟩ := two_down (n := n) (l := l) (m := l.reverse ++ l) (a := a) (twice_right hl) (twice_arcs l)
    refine Ev_unroll ?_
    simp only [bournelaw11_GraphTwice.l0]
    refine Ev_neg (by omega) (Ev_pos (by simp; omega) (Ev_some ?_))
    refine Ev.bind o1 (Ev.bind o2 (Ev.bind p1 (Ev.bind p2 (Ev_pos (by simp) (Ev_pos (by simp) (Ev_pos (by simp) ?_))))))
    refine Ev.bind (same_run _ b1) (Ev_pos rfl (Ev.bind (same_run _ b2) (Ev_pos rfl ?_)))
    refine Ev.bind q1 (Ev.bind q2 (Ev.bind (same_run _ b3) (Ev_pos rfl ?_)))
    exact Ev.bind d1 (Ev.bind d2 (Ev.bind (same_run _ b4) (Ev.now _)))
  | succ i ih =>
    intro hi
    have key := ih (by omega)
    have hlt : i < l.length := by omega
    have hx : rd_T31 l (i : Int) = l[i] := by
      unfold rd_T31
      rw [Int.toNat_natCast, List.getD_eq_getElem?_getD, List.getElem?_eq_getElem hlt]; rfl
    rw [List.drop_eq_getElem_cons hlt, List.reverse_cons] at key
    have e : (((i + 1 : Nat) : Int) - 1) = (i : Int) := by omega
    have ew : wrap64 ((i : Int) - 1) = (i : Int) - 1 := by unfold wrap64; omega
    rw [e]
    refine Ev_unroll ?_
    simp only [bournelaw11_GraphTwice.l0, hx, ew]
    refine Ev_pos (by omega) (Ev_pos (by omega) (Ev_pos (by omega) (Ev_pos (by simp; omega) ?_)))
    exact key

theorem GraphTwice (a0 : Int) (l1 : List S31) (a2 a3 : Int) (w0 : (Lit.int .i64 a0).wf = true) (w1 : l1.length ≤ maxLen ∧ ∀ x ∈ l1, (Lit.int .i64 x.f0).wf = true ∧ (Lit.int .i64 x.f1).wf = true) (w2 : (Lit.int .i64 a2).wf = true) (w3 : (Lit.int .i64 a3).wf = true) : ∃ k, bournelaw11_GraphTwice.f k a0 l1 a2 a3 = some true := by
  refine Ev.rounds ?_
  unfold bournelaw11_GraphTwice.f
  refine Ev.bind small_run (Ev_eq (few_run a0 l1) ?_)
  by_cases hf : (decide (a0 ≤ 16) && decide ((l1.length : Int) ≤ 40)) = true
  · refine Ev_pos hf ?_
    simp only [Bool.and_eq_true, decide_eq_true_eq] at hf
    have hl : l1.length ≤ 40 := by omega
    have key := twice_l0 (n := a0) (a := a2) (b := a3) hl l1.length (Nat.le_refl _)
    have ew : wrap64 ((l1.length : Int) - 1) = (l1.length : Int) - 1 := by unfold wrap64; omega
    rw [List.drop_length, List.reverse_nil] at key
    rw [ew]
    exact key
  · exact Ev_neg hf (Ev.now _)
end Go.Proofs.Ytibnodjlcaodeaa.Pure
