/-
  graph.Path, graph.Down, graph.Up: by distances.
-/
import Derived.Test.YtibnodjlcaodeaaTA3
import Derived.Test.YtibnodjlcaodeaaTK10
import Derived.Test.YtibnodjlcaodeaaTK12
namespace Go.Proofs.Ytibnodjlcaodeaa.G
open Go.RowKit Go.Proofs.YtibnodjlcaodeaaW.PrintWords Go.Proofs.YtibnodjlcaodeaaW.PrintLast Go.Proofs.YtibnodjlcaodeaaW.PrintMore
set_option linter.unusedVariables false
set_option linter.unusedSimpArgs false

/-- D tells the lengths of the shortest walks to b. -/
def ToSpec (n : Nat) (E : Nat → Nat → Bool) (b : Nat) (D : List Int) : Prop := FarSpec n (flip E) b D
theorem FarSpec.unique {n : Nat} {E : Nat → Nat → Bool} {s : Nat} {D D' : List Int} (h : FarSpec n E s D) (h' : FarSpec n E s D') : D = D' := by
  refine List.ext_getElem (by rw [h.len, h'.len]) (fun w h1 h2 => ?_)
  have hw : w < n := by rw [← h.len]; exact h1
  have e : rd D w = rd D' w := by
    rcases h.each w hw with ⟨a1, a2⟩ | ⟨k, a1, a2, a3⟩ <;> rcases h'.each w hw with ⟨b1, b2⟩ | ⟨j, b1, b2, b3⟩
    · rw [a1, b1]
    · exact absurd b3.1 (a2 _)
    · exact absurd a3.1 (b2 _)
    · have := a3.2 j b3.1
      have := b3.2 k a3.1
      omega
  rwa [rd_get (List.getElem?_eq_getElem h1), rd_get (List.getElem?_eq_getElem h2)] at e
theorem FarSpec.src {n : Nat} {E : Nat → Nat → Bool} {s : Nat} {D : List Int} (h : FarSpec n E s D) (hs : s < n) : rd D s = 0 := by
  rcases h.each s hs with ⟨_, a2⟩ | ⟨k, a1, a2, a3⟩
  · exact absurd (show Wk E 0 s s from rfl) (a2 0)
  · have := a3.2 0 rfl
    omega
theorem FarSpec.zero {n : Nat} {E : Nat → Nat → Bool} {s w : Nat} {D : List Int} (h : FarSpec n E s D) (hw : w < n) (h0 : rd D w = 0) : w = s := by
  rcases h.each w hw with ⟨a1, _⟩ | ⟨k, a1, a2, a3⟩
  · omega
  · have : k = 0 := by omega
    subst this
    exact Eq.symm a3.1
theorem ToSpec.arc {n : Nat} {E : Nat → Nat → Bool} {b v w : Nat} {D : List Int} (h : ToSpec n E b D) (hv : v < n) (hw : w < n) (he : E v w = true) (h0 : 0 ≤ rd D w) : 0 ≤ rd D v ∧ rd D v ≤ rd D w + 1 := by
  rcases h.each w hw with ⟨a1, _⟩ | ⟨k, a1, a2, a3⟩
  · omega
  · have hk : Wk (flip E) (k + 1) b v := a3.1.snoc he
    rcases h.each v hv with ⟨_, b2⟩ | ⟨j, b1, b2, b3⟩
    · exact absurd hk (b2 _)
    · have := b3.2 _ hk
      omega
theorem ToSpec.next {n : Nat} {E : Nat → Nat → Bool} {b v : Nat} {D : List Int} (hE : ∀ v w, E v w = true → v < n ∧ w < n) (h : ToSpec n E b D) (hv : v < n) (h0 : 0 < rd D v) : ∃ w, w < n ∧ E v w = true ∧ rd D w = rd D v - 1 := by
  rcases h.each v hv with ⟨a1, _⟩ | ⟨k, a1, a2, a3⟩
  · omega
  · match k, a1, a3 with
    | 0, a1, a3 => omega
    | k + 1, a1, a3 =>
      obtain ⟨w, h1, h2⟩ := Wk.unsnoc a3.1
      have hw := (hE v w h2).2
      refine ⟨w, hw, h2, ?_⟩
      rcases h.each w hw with ⟨_, b2⟩ | ⟨j, b1, b2, b3⟩
      · exact absurd h1 (b2 _)
      · have := b3.2 _ h1
        have := a3.2 _ (b3.1.snoc h2)
        omega
theorem FarSpec.low {n : Nat} {E : Nat → Nat → Bool} {s w : Nat} {D : List Int} (h : FarSpec n E s D) (hw : w < n) : -1 ≤ rd D w ∧ rd D w ≤ n := by
  rcases h.each w hw with ⟨a1, _⟩ | ⟨k, a1, a2, a3⟩ <;> omega

/-- What follows v on the way that takes the least node that is one step closer. -/
inductive Greedy (n : Nat) (E : Nat → Nat → Bool) (D : List Int) : Nat → Nat → List Int → Prop
  | nil (v : Nat) : rd D v = 0 → Greedy n E D 0 v []
  | cons {d v w : Nat} {t : List Int} : rd D v = d + 1 → w < n → E v w = true → rd D w = d → (∀ x : Nat, x < n → E v x = true → rd D x = d → w ≤ x) → Greedy n E D d w t → Greedy n E D (d + 1) v ((w : Int) :: t)

theorem Greedy.len {n : Nat} {E : Nat → Nat → Bool} {D : List Int} {d v : Nat} {t : List Int} (h : Greedy n E D d v t) : t.length = d ∧ rd D v = d := by
  induction h with
  | nil v h => exact ⟨rfl, h⟩
  | cons h _ _ _ _ _ ih => exact ⟨by simp [ih.1], by omega⟩
theorem Greedy.unique {n : Nat} {E : Nat → Nat → Bool} {D : List Int} {d v : Nat} {t t' : List Int} (h : Greedy n E D d v t) (h' : Greedy n E D d v t') : t = t' := by
  induction h generalizing t' with
  | nil v h => cases h'; rfl
  | @cons d v w t h1 h2 h3 h4 h5 h6 ih =>
    cases h' with
    | @cons _ _ w' t' g1 g2 g3 g4 g5 g6 =>
      have a := h5 w' g2 g3 g4
      have b := g5 w h2 h3 h4
      have : w = w' := by omega
      subst this
      rw [ih g6]

theorem find_row {n : Nat} {E : Nat → Nat → Bool} {v w : Nat} {p : Int → Bool} (hw : w < n) (he : E v w = true) (hp : p w = true) : ∃ x : Nat, x < n ∧ E v x = true ∧ p x = true ∧ (∀ y : Nat, y < n → E v y = true → p y = true → x ≤ y) ∧ (rowOf n E v).find? p = some (x : Int) := by
  cases hf : (rowOf n E v).find? p with
  | none =>
    have := List.find?_eq_none.1 hf (w : Int) (rowOf_mem.2 ⟨w, rfl, hw, he⟩)
    exact absurd hp this
  | some z =>
    obtain ⟨hz, us, ws, hs, hno⟩ := List.find?_eq_some_iff_append.1 hf
    obtain ⟨x, rfl, hx, hex⟩ := rowOf_mem.1 (show z ∈ rowOf n E v by rw [hs]; simp)
    refine ⟨x, hx, hex, hz, fun y hy hey hpy => ?_, rfl⟩
    have hm : (y : Int) ∈ rowOf n E v := rowOf_mem.2 ⟨y, rfl, hy, hey⟩
    rw [hs] at hm
    have hsort : (rowOf n E v).Pairwise (· < ·) := by
      unfold rowOf
      rw [List.pairwise_map]
      exact (List.pairwise_lt_range.filter _).imp (fun h => by omega)
    rw [hs] at hsort
    rcases List.mem_append.1 hm with hm | hm
    · have := hno _ hm
      rw [hpy] at this; simp at this
    · rcases List.mem_cons.1 hm with hm | hm
      · omega
      · have := (List.pairwise_cons.1 (List.pairwise_append.1 hsort).2.1).1 _ hm
        omega

theorem wrap_less {i : Int} (h0 : 0 < i) (h : i < 9223372036854775807) : wrap64 (i - 1) = i - 1 := by unfold wrap64; omega

theorem walk_run {n : Nat} {E : Nat → Nat → Bool} {b : Nat} {D : List Int} (hE : ∀ v w, E v w = true → v < n ∧ w < n) (hn : n ≤ 256) (h : ToSpec n E b D) : ∀ (d v : Nat) (out : List Int), v < n → rd D v = d → out.length + d < 1000000 →
    ∃ t, Greedy n E D d v t ∧ Ev (fun k => graph_walk.l0 k (rows n E) D (v : Int) out) (out ++ t) := by
  have hl := h.len
  intro d
  induction d with
  | zero =>
    intro v out hv hd _
    refine ⟨[], .nil v hd, Ev.step (fun k => ?_) (Ev.now _)⟩
    simp only [graph_walk.l0]
    rw [if_pos ⟨by omega, by omega, by rw [rows_len]; omega⟩, if_neg (by omega), List.append_nil]
  | succ d ih =>
    intro v out hv hd hb
    obtain ⟨w, hw, he, hwd⟩ := h.next hE hv (by omega)
    have hlow := (h.low hv).2
    have hwr : wrap64 (rd D v - 1) = (d : Int) := by rw [wrap_less (by omega) (by omega)]; omega
    obtain ⟨x, hx, hex, hpx, hleast, hf⟩ := find_row (p := fun y => rd D y == wrap64 (rd D v - 1)) hw he (by simp only [hwr, beq_iff_eq]; omega)
    simp only [hwr, beq_iff_eq] at hpx hleast
    obtain ⟨t, ht, hev⟩ := ih x (out ++ [(x : Int)]) hx (by omega) (by simp; omega)
    refine ⟨(x : Int) :: t, .cons (by omega) hx hex hpx hleast ht, Ev.step (fun k => ?_) (Ev.congr (fun k => rfl) (by simpa using hev))⟩
    have hall : (rowOf n E v).all (fun x => decide (0 ≤ x) && decide (x < (D.length : Int))) = true := List.all_eq_true.2 (fun y hy => by
      obtain ⟨z, rfl, hz, _⟩ := rowOf_mem.1 hy
      simp only [Bool.and_eq_true, decide_eq_true_eq]
      omega)
    simp only [graph_walk.l0]
    rw [if_pos ⟨by omega, by omega, by rw [rows_len]; omega⟩, if_pos (by omega), rd_rows (by omega) (by omega), Int.toNat_natCast, if_pos ⟨hall, by omega⟩, hf, Option.bind_some]


/-- The answer of Path. -/
structure PathSpec (n : Nat) (E : Nat → Nat → Bool) (a b : Nat) (D : List Int) (r : List Int × Bool) : Prop where
  tos : ToSpec n E b D
  no : rd D a < 0 → r = ([], false)
  yes : 0 ≤ rd D a → ∃ t, r = ((a : Int) :: t, true) ∧ Greedy n E D (rd D a).toNat a t
theorem PathSpec.unique {n : Nat} {E : Nat → Nat → Bool} {a b : Nat} {D D' : List Int} {r r' : List Int × Bool} (h : PathSpec n E a b D r) (h' : PathSpec n E a b D' r') : r = r' := by
  obtain rfl : D = D' := h.tos.unique h'.tos
  by_cases h0 : rd D a < 0
  · rw [h.no h0, h'.no h0]
  · obtain ⟨t, rfl, ht⟩ := h.yes (by omega)
    obtain ⟨t', rfl, ht'⟩ := h'.yes (by omega)
    rw [ht.unique ht']

theorem flip_in {n : Nat} {E : Nat → Nat → Bool} (hE : ∀ v w, E v w = true → v < n ∧ w < n) : ∀ v w, flip E v w = true → v < n ∧ w < n := fun v w h => (hE w v h).symm

theorem to_run {n : Nat} {E : Nat → Nat → Bool} {b : Nat} (hE : ∀ v w, E v w = true → v < n ∧ w < n) (hn : n ≤ 256) (hb : b < n) : ∃ D, ToSpec n E b D ∧ Ev (fun k => graph_far.f k (n : Int) (rows n (flip E)) [(b : Int)]) D := far_run (flip_in hE) hn hb

theorem path_run {n : Nat} {l : List S31} {a b : Nat} (h : graph_Right.f n l = some true) (ha : a < n) (hb : b < n) : ∃ D r, PathSpec n (arcB l) a b D r ∧ Ev (fun k => graph_Path.f k n l a b) r := by
  obtain ⟨_, hn, hll, _⟩ := right_of h
  have hE := arcs_in h
  obtain ⟨D, hD, hev⟩ := to_run hE (by omega) hb
  have hl := hD.len
  have e0 : ∀ k, graph_Path.f k n l a b = graph_Path.j0 k n l a b false := fun k => by
    unfold graph_Path.f
    rw [h]
    rw [Option.bind_some, if_pos rfl, if_neg (by omega), if_neg (by omega), if_neg (by omega), decide_eq_false (by omega)]
  have ht := turned_run l (by omega)
  by_cases h0 : rd D a < 0
  · refine ⟨D, ([], false), ⟨hD, fun _ => rfl, fun h => absurd h (by omega)⟩, ?_⟩
    refine Ev.congr e0 (Ev_unroll ?_)
    simp only [graph_Path.j0]
    refine Ev_neg (by simp) (Ev.bind ht (Ev_eq (links_rows_turned h) (Ev.bind hev ?_)))
    exact Ev_pos (by omega) (Ev_pos (by omega) (Ev_pos h0 (Ev.now _)))
  · obtain ⟨t, hg, hw⟩ := walk_run hE (by omega) hD (rd D a).toNat a [(a : Int)] ha (by omega) (by have := hD.low ha; simp; omega)
    refine ⟨D, ((a : Int) :: t, true), ⟨hD, fun h => absurd h h0, fun _ => ⟨t, rfl, hg⟩⟩, ?_⟩
    refine Ev.congr e0 (Ev_unroll ?_)
    simp only [graph_Path.j0]
    refine Ev_neg (by simp) (Ev.bind ht (Ev_eq (links_rows_turned h) (Ev.bind hev ?_)))
    exact Ev_pos (by omega) (Ev_pos (by omega) (Ev_neg h0 (Ev_eq (links_rows h) (Ev.bind hw (Ev.now _)))))
/-- .. and where it has nothing to say. -/
theorem path_none {n : Int} {l : List S31} {a b : Int} (h : graph_Right.f n l = some false ∨ a < 0 ∨ n ≤ a ∨ b < 0 ∨ n ≤ b) : Ev (fun k => graph_Path.f k n l a b) ([], false) := by
  have key : Ev (fun k => graph_Path.j0 k n l a b true) ([], false) := Ev.step (fun k => by simp only [graph_Path.j0]; rfl) (Ev.now _)
  refine Ev.congr (fun k => ?_) key
  unfold graph_Path.f
  rcases right_cases n l with hr | hr
  · rw [hr]
    rw [Option.bind_some, if_pos rfl]
    split
    · rfl
    split
    · rfl
    split
    · rfl
    rw [decide_eq_true]
    rcases h with h | h | h | h | h
    · rw [hr] at h; simp at h
    all_goals omega
  · rw [hr]
    rw [Option.bind_some, if_neg (by simp)]

/-- The nodes with a number, ascending. -/
def known (n : Nat) (D : List Int) : List Int := ((List.range n).filter fun w : Nat => decide (0 ≤ rd D w)).map fun w : Nat => (w : Int)
theorem known_mem {n : Nat} {D : List Int} {x : Int} : x ∈ known n D ↔ ∃ w : Nat, x = w ∧ w < n ∧ 0 ≤ rd D w := by
  unfold known
  simp only [List.mem_map, List.mem_filter, List.mem_range, decide_eq_true_eq]
  constructor
  · rintro ⟨w, ⟨h1, h2⟩, rfl⟩; exact ⟨w, rfl, h1, h2⟩
  · rintro ⟨w, rfl, h1, h2⟩; exact ⟨w, ⟨h1, h2⟩, rfl⟩
theorem known_asc (n : Nat) (D : List Int) : (known n D).Pairwise (· < ·) := by
  unfold known
  rw [List.pairwise_map]
  exact (List.pairwise_lt_range.filter _).imp (fun h => by omega)
theorem known_len (n : Nat) (D : List Int) : (known n D).length ≤ n := by
  unfold known
  rw [List.length_map]
  exact Nat.le_trans (List.length_filter_le _ _) (by simp)
theorem known_succ (n : Nat) (D : List Int) : known (n + 1) D = known n D ++ (if 0 ≤ rd D n then [(n : Int)] else []) := by
  unfold known
  rw [List.range_succ, List.filter_append, List.map_append]
  congr 1
  by_cases h : 0 ≤ rd D n
  · simp [h]
  · simp [h]
theorem down_l0 {n : Nat} {D : List Int} (hn : n ≤ 256) (hl : D.length = n) : ∀ (d i : Nat), i + d = n → Ev (fun k => graph_Down.l0 k (known i D) D (D.length : Int) (i : Int)) (known n D) := by
  intro d
  induction d with
  | zero =>
    intro i hi
    obtain rfl : i = n := by omega
    refine Ev.step (fun k => ?_) (Ev.now _)
    simp only [graph_Down.l0]
    rw [if_neg (by omega)]
  | succ d ih =>
    intro i hi
    have hkl := known_len i D
    refine Ev.step (fun k => ?_) (ih (i + 1) (by omega))
    simp only [graph_Down.l0]
    rw [if_pos (by omega), if_pos (by omega), if_pos (by omega), wrap_le (by omega) (by omega), known_succ]
    by_cases h : 0 ≤ rd D i
    · rw [if_pos h, if_pos (by omega), if_pos h]; rfl
    · rw [if_neg (by omega), if_neg h, List.append_nil]; rfl
theorem down_run {n : Nat} {l : List S31} {a : Nat} (h : graph_Right.f n l = some true) (ha : a < n) : ∃ D, FarSpec n (arcB l) a D ∧ Ev (fun k => graph_Down.f k n l a) (known n D) := by
  obtain ⟨_, hn, hll, _⟩ := right_of h
  obtain ⟨D, hD, hev⟩ := far_run (arcs_in h) (by omega) ha
  have e0 : ∀ k, graph_Down.f k n l a = graph_Down.j0 k n l a false := fun k => by
    unfold graph_Down.f
    rw [h]
    rw [Option.bind_some, if_pos rfl, if_neg (by omega), decide_eq_false (by omega)]
  refine ⟨D, hD, Ev.congr e0 (Ev_unroll ?_)⟩
  simp only [graph_Down.j0]
  exact Ev_neg (by simp) (Ev_eq (links_rows h) (Ev.bind hev (down_l0 (by omega) hD.len n 0 (by omega))))
theorem down_none {n : Int} {l : List S31} {a : Int} (h : graph_Right.f n l = some false ∨ a < 0 ∨ n ≤ a) : Ev (fun k => graph_Down.f k n l a) [] := by
  have key : Ev (fun k => graph_Down.j0 k n l a true) [] := Ev.step (fun k => by simp only [graph_Down.j0]; rfl) (Ev.now _)
  refine Ev.congr (fun k => ?_) key
  unfold graph_Down.f
  rcases right_cases n l with hr | hr
  · rw [hr]
    rw [Option.bind_some, if_pos rfl]
    split
    · rfl
    rw [decide_eq_true]
    rcases h with h | h | h
    · rw [hr] at h; simp at h
    all_goals omega
  · rw [hr]
    rw [Option.bind_some, if_neg (by simp)]
end Go.Proofs.Ytibnodjlcaodeaa.G
