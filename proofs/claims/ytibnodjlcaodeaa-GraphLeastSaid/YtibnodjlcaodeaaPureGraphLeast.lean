/-
  GraphLeast, in plain Lean: no order that always takes a node that may come next is smaller than the one that takes the least.
-/
import Derived.Test.YtibnodjlcaodeaaA3
import Derived.Test.YtibnodjlcaodeaaK4
import Derived.Test.YtibnodjlcaodeaaA4
import Derived.Test.YtibnodjlcaodeaaK9
import Derived.Test.YtibnodjlcaodeaaA5
import Derived.Test.YtibnodjlcaodeaaK19
/-
  graph.Order: always the least node all of whose predecessors are out.
-/
namespace Go.Proofs.Ytibnodjlcaodeaa.G
open Go.RowKit Go.Proofs.YtibnodjlcaodeaaW.PrintWords Go.Proofs.YtibnodjlcaodeaaW.PrintLast Go.Proofs.YtibnodjlcaodeaaW.PrintMore
set_option linter.unusedVariables false
set_option linter.unusedSimpArgs false

def ofF (n : Nat) (f : Nat → Int) : List Int := (List.range n).map f
theorem ofF_len (n : Nat) (f : Nat → Int) : (ofF n f).length = n := by simp [ofF]
theorem ofF_get {n : Nat} {f : Nat → Int} {v : Nat} (h : v < n) : (ofF n f)[v]? = some (f v) := by simp [ofF, h]
theorem rd_ofF {n : Nat} {f : Nat → Int} {v : Nat} (h : v < n) : rd (ofF n f) v = f v := rd_get (ofF_get h)
theorem ofF_congr {n : Nat} {f g : Nat → Int} (h : ∀ v, v < n → f v = g v) : ofF n f = ofF n g := List.map_congr_left (fun v hv => h v (List.mem_range.1 hv))
theorem ofF_set {n : Nat} {f : Nat → Int} {v : Nat} {x : Int} : (ofF n f).set v x = ofF n (fun w => if w = v then x else f w) := by
  refine List.ext_getElem? (fun w => ?_)
  rw [List.getElem?_set]
  by_cases hw : w < n
  · rw [ofF_get hw, ofF_len]
    by_cases e : v = w
    · subst e; rw [if_pos rfl, if_pos hw, ofF_get hw]; simp
    · rw [if_neg e, ofF_get hw, if_neg (Ne.symm e)]
  · have h1 : (ofF n f)[w]? = none := by rw [List.getElem?_eq_none]; rw [ofF_len]; omega
    have h2 : (ofF n (fun w => if w = v then x else f w))[w]? = none := by rw [List.getElem?_eq_none]; rw [ofF_len]; omega
    rw [h1, h2, ofF_len]
    split
    · rw [if_neg (by omega)]
    · rfl
theorem ofF_zero (n : Nat) : List.replicate n (0 : Int) = ofF n (fun _ => 0) := by
  unfold ofF
  rw [List.map_const', List.length_range]
theorem atI_ofF (n : Nat) (f : Nat → Int) : (((List.range n).find? fun v => decide (f v = 0)) = none ∧ atI (ofF n f) 0 = -1) ∨ ∃ v : Nat, v < n ∧ f v = 0 ∧ (∀ u, u < v → f u ≠ 0) ∧ ((List.range n).find? fun v => decide (f v = 0)) = some v ∧ atI (ofF n f) 0 = v := by
  rcases atI_cases (ofF n f) 0 with ⟨h1, h2⟩ | ⟨i, h1, h2, h3⟩
  · refine .inl ⟨?_, h2⟩
    rw [List.find?_eq_none]
    intro v hv hd
    exact h1 (List.mem_of_getElem? (i := v) (by rw [ofF_get (List.mem_range.1 hv)]; simpa using hd))
  · have hi : i < n := by
      have := (List.getElem?_eq_some_iff.1 h2).1
      rwa [ofF_len] at this
    rw [ofF_get hi] at h2
    have h0 : f i = 0 := Option.some.inj h2
    have hl : ∀ u, u < i → f u ≠ 0 := fun u hu e => h3 u hu (by rw [ofF_get (by omega), e])
    refine .inr ⟨i, hi, h0, hl, ?_, h1⟩
    rw [List.find?_eq_some_iff_getElem]
    exact ⟨by simpa using h0, i, by simpa using hi, by simp, fun j hj => by simpa using hl j hj⟩

def ctr (i : Nat) (E : Nat → Nat → Bool) (v : Nat) : Nat := (List.range i).countP fun u => E u v
theorem ctr_succ (i : Nat) (E : Nat → Nat → Bool) (v : Nat) : ctr (i + 1) E v = ctr i E v + if E i v then 1 else 0 := by
  unfold ctr
  rw [List.range_succ, List.countP_append]
  simp [List.countP_cons]
theorem ctr_le (i : Nat) (E : Nat → Nat → Bool) (v : Nat) : ctr i E v ≤ i := Nat.le_trans List.countP_le_length (by simp)

theorem rowOf_in {n : Nat} {E : Nat → Nat → Bool} {u v : Nat} (hv : v < n) : ((v : Int) ∈ rowOf n E u) = (E u v = true) := by
  refine propext ⟨fun h => ?_, fun h => rowOf_mem.2 ⟨v, rfl, hv, h⟩⟩
  obtain ⟨w, e, _, h⟩ := rowOf_mem.1 h
  have : v = w := by omega
  rw [this]; exact h
theorem rowOf_nodup (n : Nat) (E : Nat → Nat → Bool) (u : Nat) : (rowOf n E u).Nodup := by
  unfold rowOf
  refine List.Pairwise.map _ (fun a b h => by omega) ((List.nodup_range (n := n)).filter _)

theorem order_l1 {n : Nat} {E : Nat → Nat → Bool} (hn : n ≤ 256) (X X' : List (List Int)) (g : Nat → Int) (hg : ∀ v, 0 ≤ g v ∧ g v ≤ 1000) (c i : Int) (u : Nat) (r : List Int × Bool) (next : Ev (fun k => graph_Order.l0 k n X (ofF n (fun v => g v + if (v : Int) ∈ rowOf n E u then 1 else 0)) X' c (wrap64 (i + 1))) r) : ∀ (rest pre : List Int), rowOf n E u = pre ++ rest →
    Ev (fun k => graph_Order.l1 k n X (ofF n (fun v => g v + if (v : Int) ∈ pre then 1 else 0)) X' c i (rowOf n E u) ((rowOf n E u).length : Int) (pre.length : Int)) r := by
  intro rest
  induction rest with
  | nil =>
    intro pre h
    rw [List.append_nil] at h
    rw [← h]
    refine Ev_unroll ?_
    simp only [graph_Order.l1]
    exact Ev_neg (by omega) next
  | cons x rest ih =>
    intro pre h
    obtain ⟨w, rfl, hw, he⟩ := rowOf_mem.1 (show x ∈ rowOf n E u by rw [h]; simp)
    have hlen : (rowOf n E u).length = pre.length + (rest.length + 1) := by rw [h]; simp
    have hrl := rowOf_len n E u
    have hrd : rd (rowOf n E u) (pre.length : Int) = w := by rw [h]; exact rd_mid pre rest w
    have hnd := rowOf_nodup n E u
    rw [h] at hnd
    have hnp : (w : Int) ∉ pre := fun hm => (List.nodup_append.1 hnd).2.2 _ hm _ (by simp) rfl
    have key := ih (pre ++ [(w : Int)]) (by rw [h]; simp)
    have hgw := hg w
    refine Ev_unroll ?_
    simp only [graph_Order.l1, hrd, rd_ofF hw, if_neg hnp, Int.toNat_natCast, ofF_set]
    refine Ev_pos (by omega) (Ev_pos (by omega) (Ev_pos (by omega) (Ev_pos (by omega) (Ev_pos (by rw [ofF_len]; omega) ?_))))
    rw [wrap_le (i := (pre.length : Int)) (by omega) (by omega), Int.add_zero, wrap_le (by omega) (by omega)]
    rw [ofF_congr (g := fun v => g v + if (v : Int) ∈ pre ++ [(w : Int)] then 1 else 0) (fun v hv => ?_)]
    · simpa using key
    · by_cases e : v = w
      · subst e; simp
      · rw [if_neg e]
        have : (v : Int) ≠ w := by omega
        simp [this]

theorem order_l0 {n : Nat} {E : Nat → Nat → Bool} (hn : n ≤ 256) (r : List Int × Bool) (next : Ev (fun k => graph_Order.l2 k n (rows n E) (ofF n (fun v => (ctr n E v : Int))) []) r) : ∀ (d i : Nat), i + d = n →
    Ev (fun k => graph_Order.l0 k n (rows n E) (ofF n (fun v => (ctr i E v : Int))) (rows n E) ((rows n E).length : Int) (i : Int)) r := by
  intro d
  induction d with
  | zero =>
    intro i hi
    obtain rfl : i = n := by omega
    refine Ev_unroll ?_
    simp only [graph_Order.l0]
    exact Ev_neg (by rw [rows_len]; omega) next
  | succ d ih =>
    intro i hi
    have key := ih (i + 1) (by omega)
    have hi' : (wrap64 ((i : Int) + 1)) = ((i + 1 : Nat) : Int) := by rw [wrap_le (by omega) (by omega)]; omega
    refine Ev_unroll ?_
    simp only [graph_Order.l0]
    refine Ev_pos (by rw [rows_len]; omega) (Ev_pos (by omega) (Ev_pos (by rw [rows_len]; omega) ?_))
    rw [rd_rows (by omega) (by omega), Int.toNat_natCast]
    have := order_l1 (E := E) hn (rows n E) (rows n E) (fun v => (ctr i E v : Int)) (fun v => by have := ctr_le i E v; omega) ((rows n E).length : Int) (i : Int) i r (by
      rw [hi']
      rw [ofF_congr (g := fun v => (ctr (i + 1) E v : Int)) (fun v hv => ?_)]
      · exact key
      · rw [ctr_succ]
        simp only [rowOf_in hv]
        split <;> simp) (rowOf n E i) [] rfl
    simpa using this

/-- What waits is told by: -1 where the node is out, else how many predecessors are not out. -/
def wt (n : Nat) (E : Nat → Nat → Bool) (o : List Int) (v : Nat) : Int := if (v : Int) ∈ o then -1 else ((List.range n).countP fun u => E u v && decide ((u : Int) ∉ o) : Nat)
def free? (n : Nat) (E : Nat → Nat → Bool) (o : List Int) : Option Nat := (List.range n).find? fun v => decide (wt n E o v = 0)
def topo (n : Nat) (E : Nat → Nat → Bool) : Nat → List Int → List Int × Bool
  | 0, o => (o, true)
  | d + 1, o => match free? n E o with
    | none => ([], false)
    | some v => topo n E d (o ++ [(v : Int)])

theorem wt_free {n : Nat} {E : Nat → Nat → Bool} (hE : ∀ v w, E v w = true → v < n ∧ w < n) {o : List Int} {v : Nat} : wt n E o v = 0 ↔ (v : Int) ∉ o ∧ ∀ u, E u v = true → (u : Int) ∈ o := by
  unfold wt
  by_cases h : (v : Int) ∈ o
  · rw [if_pos h]; exact ⟨fun h => by omega, fun h2 => absurd h h2.1⟩
  · rw [if_neg h]
    constructor
    · intro h0
      refine ⟨h, fun u hu => Decidable.byContradiction fun hn => ?_⟩
      have := List.countP_eq_zero.1 (show (List.range n).countP (fun u => E u v && decide ((u : Int) ∉ o)) = 0 by omega) u (List.mem_range.2 (hE u v hu).1)
      simp [hu, hn] at this
    · intro ⟨_, h2⟩
      have : (List.range n).countP (fun u => E u v && decide ((u : Int) ∉ o)) = 0 := List.countP_eq_zero.2 (fun u _ hu => by
        simp only [Bool.and_eq_true, decide_eq_true_eq] at hu
        exact hu.2 (h2 u hu.1))
      omega
theorem wt_bound (n : Nat) (E : Nat → Nat → Bool) (o : List Int) (v : Nat) : -1 ≤ wt n E o v ∧ wt n E o v ≤ n := by
  unfold wt
  split
  · omega
  · have : (List.range n).countP (fun u => E u v && decide ((u : Int) ∉ o)) ≤ n := Nat.le_trans List.countP_le_length (by simp)
    omega

structure Inv (n : Nat) (E : Nat → Nat → Bool) (o : List Int) : Prop where
  nodup : o.Nodup
  mem : ∀ x ∈ o, ∃ v : Nat, x = v ∧ v < n
  closed : ∀ w : Nat, (w : Int) ∈ o → ∀ u, E u w = true → (u : Int) ∈ o
theorem Inv.nil (n : Nat) (E : Nat → Nat → Bool) : Inv n E [] := ⟨List.nodup_nil, by simp, by simp⟩
theorem Inv.snoc {n : Nat} {E : Nat → Nat → Bool} (hE : ∀ v w, E v w = true → v < n ∧ w < n) {o : List Int} {v : Nat} (h : Inv n E o) (hv : v < n) (hf : wt n E o v = 0) : Inv n E (o ++ [(v : Int)]) := by
  obtain ⟨h1, h2⟩ := (wt_free hE).1 hf
  refine ⟨?_, fun x hx => ?_, fun w hw u hu => ?_⟩
  · rw [List.nodup_append]
    refine ⟨h.nodup, by simp, fun a ha b hb e => ?_⟩
    subst e
    exact h1 (by rw [List.mem_singleton.1 hb] at ha; exact ha)
  · rcases List.mem_append.1 hx with hx | hx
    · exact h.mem x hx
    · exact ⟨v, List.mem_singleton.1 hx, hv⟩
  · rcases List.mem_append.1 hw with hw | hw
    · exact List.mem_append_left _ (h.closed w hw u hu)
    · have : w = v := by have := List.mem_singleton.1 hw; omega
      subst this
      exact List.mem_append_left _ (h2 u hu)
theorem free_some {n : Nat} {E : Nat → Nat → Bool} {o : List Int} {v : Nat} (h : free? n E o = some v) : v < n ∧ wt n E o v = 0 ∧ ∀ u, u < v → wt n E o u ≠ 0 := by
  unfold free? at h
  rcases atI_ofF n (wt n E o) with ⟨h1, _⟩ | ⟨w, h1, h2, h3, h4, _⟩
  · rw [h1] at h; cases h
  · rw [h4] at h
    obtain rfl := Option.some.inj h
    exact ⟨h1, h2, h3⟩
theorem wt_snoc {n : Nat} {E : Nat → Nat → Bool} (hE : ∀ v w, E v w = true → v < n ∧ w < n) {o : List Int} {v : Nat} (h : Inv n E o) (hv : v < n) (hf : wt n E o v = 0) {x : Nat} (hx : x < n) : (if x = v then -1 else wt n E o x) + (if (x : Int) ∈ rowOf n E v then -1 else 0) = wt n E (o ++ [(v : Int)]) x := by
  obtain ⟨h1, h2⟩ := (wt_free hE).1 hf
  simp only [rowOf_in hx]
  by_cases e : x = v
  · subst e
    have : ¬ E x x = true := fun he => h1 (h2 x he)
    rw [if_pos rfl, if_neg this]
    unfold wt
    rw [if_pos (by simp)]; rfl
  · rw [if_neg e]
    by_cases hm : (x : Int) ∈ o
    · have : ¬ E v x = true := fun he => h1 (h.closed x hm v he)
      rw [if_neg this]
      unfold wt
      rw [if_pos hm, if_pos (by simp [hm])]; rfl
    · have hm2 : (x : Int) ∉ o ++ [(v : Int)] := by simp only [List.mem_append, List.mem_singleton, not_or]; exact ⟨hm, by omega⟩
      unfold wt
      rw [if_neg hm, if_neg hm2]
      by_cases he : E v x = true
      · rw [if_pos he]
        have := countP_one (n := n) (w := v) (p := fun u => E u x && decide ((u : Int) ∉ o)) (q := fun u => E u x && decide ((u : Int) ∉ o ++ [(v : Int)])) hv (by simp [he, h1]) (by simp) (fun u hu hne => by
          have : (u : Int) ≠ v := by omega
          simp [this])
        omega
      · rw [if_neg he]
        have : (List.range n).countP (fun u => E u x && decide ((u : Int) ∉ o)) = (List.range n).countP (fun u => E u x && decide ((u : Int) ∉ o ++ [(v : Int)])) := List.countP_congr (fun u hu => by
          by_cases e2 : u = v
          · subst e2; simp [he]
          · have : (u : Int) ≠ v := by omega
            simp [this])
        omega

theorem order_l3 {n : Nat} {E : Nat → Nat → Bool} (hn : n ≤ 256) (X : List (List Int)) (o : List Int) (g : Nat → Int) (hg : ∀ v, -1 ≤ g v ∧ g v ≤ 1000) (u : Nat) (r : List Int × Bool) (next : Ev (fun k => graph_Order.l2 k n X (ofF n (fun v => g v + if (v : Int) ∈ rowOf n E u then -1 else 0)) o) r) : ∀ (rest pre : List Int), rowOf n E u = pre ++ rest →
    Ev (fun k => graph_Order.l3 k n X (ofF n (fun v => g v + if (v : Int) ∈ pre then -1 else 0)) o (rowOf n E u) ((rowOf n E u).length : Int) (pre.length : Int)) r := by
  intro rest
  induction rest with
  | nil =>
    intro pre h
    rw [List.append_nil] at h
    rw [← h]
    refine Ev_unroll ?_
    simp only [graph_Order.l3]
    exact Ev_neg (by omega) next
  | cons x rest ih =>
    intro pre h
    obtain ⟨w, rfl, hw, he⟩ := rowOf_mem.1 (show x ∈ rowOf n E u by rw [h]; simp)
    have hlen : (rowOf n E u).length = pre.length + (rest.length + 1) := by rw [h]; simp
    have hrl := rowOf_len n E u
    have hrd : rd (rowOf n E u) (pre.length : Int) = w := by rw [h]; exact rd_mid pre rest w
    have hnd := rowOf_nodup n E u
    rw [h] at hnd
    have hnp : (w : Int) ∉ pre := fun hm => (List.nodup_append.1 hnd).2.2 _ hm _ (by simp) rfl
    have key := ih (pre ++ [(w : Int)]) (by rw [h]; simp)
    have hgw := hg w
    have hwr : wrap64 (g w + 0 - 1) = g w - 1 := by unfold wrap64; omega
    refine Ev_unroll ?_
    simp only [graph_Order.l3, hrd, rd_ofF hw, if_neg hnp, Int.toNat_natCast, ofF_set, hwr]
    refine Ev_pos (by omega) (Ev_pos (by omega) (Ev_pos (by omega) (Ev_pos (by omega) (Ev_pos (by rw [ofF_len]; omega) ?_))))
    rw [wrap_le (i := (pre.length : Int)) (by omega) (by omega)]
    rw [ofF_congr (g := fun v => g v + if (v : Int) ∈ pre ++ [(w : Int)] then -1 else 0) (fun v hv => ?_)]
    · simpa using key
    · by_cases e : v = w
      · subst e; simp; omega
      · rw [if_neg e]
        have : (v : Int) ≠ w := by omega
        simp [this]

theorem order_l2 {n : Nat} {E : Nat → Nat → Bool} (hE : ∀ v w, E v w = true → v < n ∧ w < n) (hn : n ≤ 256) : ∀ (d : Nat) (o : List Int), o.length + d = n → Inv n E o →
    Ev (fun k => graph_Order.l2 k n (rows n E) (ofF n (wt n E o)) o) (topo n E d o) := by
  intro d
  induction d with
  | zero =>
    intro o hl hi
    refine Ev_unroll ?_
    simp only [graph_Order.l2]
    exact Ev_neg (by omega) (Ev.now _)
  | succ d ih =>
    intro o hl hi
    have hix := index_run (ofF n (wt n E o)) 0 (by rw [ofF_len]; omega)
    refine Ev_unroll ?_
    simp only [graph_Order.l2]
    refine Ev_pos (by omega) (Ev.bind hix ?_)
    rcases atI_ofF n (wt n E o) with ⟨h1, h2⟩ | ⟨v, hv, hf, _, h1, h2⟩
    · rw [h2]
      have : topo n E (d + 1) o = ([], false) := by simp only [topo, free?, h1]
      rw [this]
      exact Ev_pos (by omega) (Ev.now _)
    · rw [h2]
      have : topo n E (d + 1) o = topo n E d (o ++ [(v : Int)]) := by simp only [topo, free?, h1]
      rw [this]
      refine Ev_neg (by omega) (Ev_pos (by omega) (Ev_pos (by rw [ofF_len]; omega) (Ev_pos (by omega) (Ev_pos (by rw [rows_len]; omega) ?_))))
      rw [rd_rows (by omega) (by omega), Int.toNat_natCast, ofF_set]
      have key := ih (o ++ [(v : Int)]) (by simp; omega) (hi.snoc hE hv hf)
      have := order_l3 (E := E) hn (rows n E) (o ++ [(v : Int)]) (fun w => if w = v then -1 else wt n E o w) (fun w => by have := wt_bound n E o w; split <;> omega) v (topo n E d (o ++ [(v : Int)])) (by
        rw [ofF_congr (fun x hx => wt_snoc hE hi hv hf hx)]
        exact key) (rowOf n E v) [] rfl
      simpa using this

theorem order_run {n : Nat} {l : List S31} (h : graph_Right.f n l = some true) : Ev (fun k => graph_Order.f k n l) (topo n (arcB l) n []) := by
  obtain ⟨_, hn, hll, _⟩ := right_of h
  have hE := arcs_in h
  have key := order_l2 hE (by omega) n [] (by simp) (Inv.nil _ _)
  have h0 := order_l0 (n := n) (E := arcB l) (by omega) (topo n (arcB l) n []) (by
    rw [ofF_congr (g := wt n (arcB l) []) (fun v hv => by simp [wt, ctr])]
    exact key) n 0 (by omega)
  unfold graph_Order.f
  refine Ev_eq h (Ev_pos rfl (Ev_eq (links_rows h) (Ev_pos (by omega) (Ev_pos (by omega) ?_))))
  rw [Int.toNat_natCast, ofF_zero]
  exact h0
theorem order_none {n : Int} {l : List S31} (h : graph_Right.f n l = some false) : Ev (fun k => graph_Order.f k n l) ([], false) := by
  unfold graph_Order.f
  exact Ev_eq h (Ev_neg (by simp) (Ev.now _))
end Go.Proofs.Ytibnodjlcaodeaa.G

/-
  graph.Loop: a cycle through the least node that lies on one.
-/
namespace Go.Proofs.Ytibnodjlcaodeaa.G
open Go.RowKit Go.Proofs.YtibnodjlcaodeaaW.PrintWords Go.Proofs.YtibnodjlcaodeaaW.PrintLast Go.Proofs.YtibnodjlcaodeaaW.PrintMore
set_option linter.unusedVariables false
set_option linter.unusedSimpArgs false

def NoCycleAt (E : Nat → Nat → Bool) (v : Nat) : Prop := ∀ w k, E v w = true → ¬ Wk E k w v
/-- w is the nearest of some nodes, and the least of those. -/
structure Best (D : List Int) (p : Int → Prop) (w : Nat) : Prop where
  mem : p w
  ok : 0 ≤ rd D w
  min : ∀ x, p x → 0 ≤ rd D x → rd D w ≤ rd D x
  least : ∀ x, p x → rd D x = rd D w → (w : Int) ≤ x
structure CycleAt (n : Nat) (E : Nat → Nat → Bool) (v : Nat) (D : List Int) (w : Nat) (t : List Int) (c : List Int) : Prop where
  tos : ToSpec n E v D
  arc : w < n ∧ E v w = true
  best : Best D (fun x => x ∈ rowOf n E v) w
  walk : Greedy n E D (rd D w).toNat w t
  eq : c = (v : Int) :: ((w : Int) :: t).dropLast
def LoopRes (n : Nat) (E : Nat → Nat → Bool) (c : List Int) : Prop :=
  (c = [] ∧ ∀ v, v < n → NoCycleAt E v) ∨ ∃ v D w t, v < n ∧ (∀ u, u < v → NoCycleAt E u) ∧ CycleAt n E v D w t c

theorem Best.unique {D : List Int} {p : Int → Prop} {w w' : Nat} (h : Best D p w) (h' : Best D p w') : w = w' := by
  have a := h.min w' h'.mem h'.ok
  have b := h'.min w h.mem h.ok
  have e : rd D w = rd D w' := by omega
  have c := h.least w' h'.mem e.symm
  have d := h'.least w h.mem e
  omega
theorem CycleAt.unique {n : Nat} {E : Nat → Nat → Bool} {v : Nat} {D D' : List Int} {w w' : Nat} {t t' c c' : List Int} (h : CycleAt n E v D w t c) (h' : CycleAt n E v D' w' t' c') : c = c' := by
  obtain rfl : D = D' := h.tos.unique h'.tos
  obtain rfl := h.best.unique h'.best
  rw [h.eq, h'.eq, h.walk.unique h'.walk]
theorem CycleAt.is {n : Nat} {E : Nat → Nat → Bool} {v : Nat} {D : List Int} {w : Nat} {t c : List Int} (h : CycleAt n E v D w t c) : ¬ NoCycleAt E v := by
  intro hn
  rcases FarSpec.each h.tos w h.arc.1 with ⟨h1, _⟩ | ⟨k, h1, h2, h3⟩
  · have := h.best.ok; omega
  · exact hn w k h.arc.2 (Wk_flip.1 h3.1)
theorem LoopRes.unique {n : Nat} {E : Nat → Nat → Bool} {c c' : List Int} (h : LoopRes n E c) (h' : LoopRes n E c') : c = c' := by
  rcases h with ⟨rfl, h⟩ | ⟨v, D, w, t, hv, hu, hc⟩ <;> rcases h' with ⟨rfl, h'⟩ | ⟨v', D', w', t', hv', hu', hc'⟩
  · rfl
  · exact absurd (h v' hv') hc'.is
  · exact absurd (h' v hv) hc.is
  · rcases Nat.lt_trichotomy v v' with hlt | rfl | hlt
    · exact absurd (hu' v hlt) hc.is
    · exact hc.unique hc'
    · exact absurd (hu v' hlt) hc'.is

theorem noCycle_iff {n : Nat} {E : Nat → Nat → Bool} (hE : ∀ v w, E v w = true → v < n ∧ w < n) {v : Nat} {D : List Int} (h : ToSpec n E v D) (hn : ∀ x ∈ rowOf n E v, rd D x < 0) : NoCycleAt E v := by
  intro w k he hk
  have hw := (hE v w he).2
  have := hn w (rowOf_mem.2 ⟨w, rfl, hw, he⟩)
  rcases FarSpec.each h w hw with ⟨_, h2⟩ | ⟨j, h1, _⟩
  · exact h2 k hk.flip
  · omega

theorem loop_l1 {n : Nat} {E : Nat → Nat → Bool} (hn : n ≤ 256) {v : Nat} {D : List Int} (hl : D.length = n) (X Y : List (List Int)) (r : List Int)
    (fin : ∀ best : Int, (best = -1 ∧ ∀ x ∈ rowOf n E v, rd D x < 0) ∨ (∃ w : Nat, best = w ∧ Best D (fun x => x ∈ rowOf n E v) w) →
      Ev (fun k => graph_Loop.l1 k n X Y v D best n v (rowOf n E v) ((rowOf n E v).length : Int) ((rowOf n E v).length : Int)) r) :
    ∀ (rest pre : List Int) (best : Int), rowOf n E v = pre ++ rest → ((best = -1 ∧ ∀ x ∈ pre, rd D x < 0) ∨ (∃ w : Nat, best = w ∧ w < n ∧ Best D (fun x => x ∈ pre) w)) →
      Ev (fun k => graph_Loop.l1 k n X Y v D best n v (rowOf n E v) ((rowOf n E v).length : Int) (pre.length : Int)) r := by
  intro rest
  induction rest with
  | nil =>
    intro pre best h hb
    rw [List.append_nil] at h
    have := fin best (hb.imp (fun h2 => by rw [h]; exact h2) (fun ⟨w, h1, _, h2⟩ => ⟨w, h1, by rw [h]; exact h2⟩))
    rw [← h]
    exact this
  | cons x rest ih =>
    intro pre best h hb
    obtain ⟨w, rfl, hw, he⟩ := rowOf_mem.1 (show x ∈ rowOf n E v by rw [h]; simp)
    have hlen : (rowOf n E v).length = pre.length + (rest.length + 1) := by rw [h]; simp
    have hrl := rowOf_len n E v
    have hrd : rd (rowOf n E v) (pre.length : Int) = w := by rw [h]; exact rd_mid pre rest w
    have hsort : (rowOf n E v).Pairwise (· < ·) := by
      unfold rowOf
      rw [List.pairwise_map]
      exact (List.pairwise_lt_range.filter _).imp (fun h => by omega)
    have hless : ∀ y ∈ pre, y < (w : Int) := by
      rw [h] at hsort
      exact fun y hy => (List.pairwise_append.1 hsort).2.2 y hy w (by simp)
    have hi : wrap64 ((pre.length : Int) + 1) = ((pre ++ [(w : Int)]).length : Int) := by rw [wrap_le (by omega) (by omega)]; simp
    have go := fun best => ih (pre ++ [(w : Int)]) best (by rw [h]; simp)
    refine Ev_unroll ?_
    simp only [graph_Loop.l1, hrd, hi]
    refine Ev_pos (by omega) (Ev_pos (by omega) (Ev_pos (by omega) (Ev_pos (by omega) (Ev_pos (by omega) ?_))))
    by_cases h0 : rd D w ≥ 0
    · refine Ev_pos h0 ?_
      rcases hb with ⟨rfl, hb⟩ | ⟨u, rfl, hu, hb⟩
      · refine Ev_pos (by omega) (go _ (.inr ⟨w, rfl, hw, by simp, h0, fun y hy hy0 => ?_, fun y hy hye => ?_⟩))
        · rcases List.mem_append.1 hy with hy | hy
          · have := hb y hy; omega
          · rw [List.mem_singleton.1 hy]; exact Int.le_refl _
        · rcases List.mem_append.1 hy with hy | hy
          · have := hb y hy; omega
          · rw [List.mem_singleton.1 hy]; exact Int.le_refl _
      · refine Ev_neg (by omega) (Ev_pos (by omega) (Ev_pos (by omega) ?_))
        by_cases hlt : rd D w < rd D u
        · refine Ev_pos hlt (go _ (.inr ⟨w, rfl, hw, by simp, h0, fun y hy hy0 => ?_, fun y hy hye => ?_⟩))
          · rcases List.mem_append.1 hy with hy | hy
            · have := hb.min y hy hy0; omega
            · rw [List.mem_singleton.1 hy]; exact Int.le_refl _
          · rcases List.mem_append.1 hy with hy | hy
            · have := hb.min y hy (by omega); omega
            · rw [List.mem_singleton.1 hy]; exact Int.le_refl _
        · refine Ev_neg hlt (go _ (.inr ⟨u, rfl, hu, by simp [hb.mem], hb.ok, fun y hy hy0 => ?_, fun y hy hye => ?_⟩))
          · rcases List.mem_append.1 hy with hy | hy
            · exact hb.min y hy hy0
            · rw [List.mem_singleton.1 hy]; omega
          · rcases List.mem_append.1 hy with hy | hy
            · exact hb.least y hy hye
            · rw [List.mem_singleton.1 hy]; exact Int.le_of_lt (hless _ hb.mem)
    · refine Ev_neg h0 (go _ ?_)
      rcases hb with ⟨rfl, hb⟩ | ⟨u, rfl, hu, hb⟩
      · refine .inl ⟨rfl, fun y hy => ?_⟩
        rcases List.mem_append.1 hy with hy | hy
        · exact hb y hy
        · rw [List.mem_singleton.1 hy]; omega
      · refine .inr ⟨u, rfl, hu, by simp [hb.mem], hb.ok, fun y hy hy0 => ?_, fun y hy hye => ?_⟩
        · rcases List.mem_append.1 hy with hy | hy
          · exact hb.min y hy hy0
          · rw [List.mem_singleton.1 hy] at hy0; omega
        · rcases List.mem_append.1 hy with hy | hy
          · exact hb.least y hy hye
          · rw [List.mem_singleton.1 hy]; exact Int.le_of_lt (hless _ hb.mem)

theorem loop_l0 {n : Nat} {E : Nat → Nat → Bool} (hE : ∀ v w, E v w = true → v < n ∧ w < n) (hn : n ≤ 256) : ∀ (d i : Nat), i + d = n → (∀ u, u < i → NoCycleAt E u) →
    ∃ c, LoopRes n E c ∧ Ev (fun k => graph_Loop.l0 k n (rows n E) (rows n (flip E)) n i) c := by
  intro d
  induction d with
  | zero =>
    intro i hi hu
    obtain rfl : i = n := by omega
    refine ⟨[], .inl ⟨rfl, hu⟩, Ev_unroll ?_⟩
    simp only [graph_Loop.l0]
    exact Ev_neg (by omega) (Ev.now _)
  | succ d ih =>
    intro i hi hu
    have hin : i < n := by omega
    obtain ⟨D, hD, hev⟩ := to_run hE hn hin
    have hl := FarSpec.len hD
    have hrl := rowOf_len n E i
    have start : ∀ r, (∀ best : Int, (best = -1 ∧ ∀ x ∈ rowOf n E i, rd D x < 0) ∨ (∃ w : Nat, best = w ∧ Best D (fun x => x ∈ rowOf n E i) w) →
      Ev (fun k => graph_Loop.l1 k n (rows n E) (rows n (flip E)) i D best n i (rowOf n E i) ((rowOf n E i).length : Int) ((rowOf n E i).length : Int)) r) → Ev (fun k => graph_Loop.l0 k n (rows n E) (rows n (flip E)) n i) r := fun r fin => by
      refine Ev_unroll ?_
      simp only [graph_Loop.l0]
      refine Ev_pos (by omega) (Ev.bind hev (Ev_pos (by omega) (Ev_pos (by rw [rows_len]; omega) ?_)))
      rw [rd_rows (by omega) (by omega), Int.toNat_natCast]
      exact loop_l1 hn hl _ _ r fin (rowOf n E i) [] (-1) rfl (.inl ⟨rfl, by simp⟩)
    by_cases hno : ∀ x ∈ rowOf n E i, rd D x < 0
    · obtain ⟨c, hc, hcev⟩ := ih (i + 1) (by omega) (fun u hui => by
        rcases Nat.lt_or_ge u i with h | h
        · exact hu u h
        · obtain rfl : u = i := by omega
          exact noCycle_iff hE hD hno)
      refine ⟨c, hc, start c (fun best hb => ?_)⟩
      rcases hb with ⟨rfl, _⟩ | ⟨w, rfl, hb⟩
      · refine Ev_unroll ?_
        simp only [graph_Loop.l1]
        refine Ev_neg (by omega) (Ev_neg (by omega) (Ev_neg (by omega) ?_))
        rw [wrap_le (by omega) (by omega)]
        exact hcev
      · have := hno _ hb.mem
        have := hb.ok
        omega
    · have hw : ∃ w : Nat, Best D (fun x => x ∈ rowOf n E i) w := by
        refine Classical.byContradiction fun hc => hno ?_
        refine Classical.byContradiction fun hno' => ?_
        have key : ∀ (rest pre : List Int), rowOf n E i = pre ++ rest → (∃ w : Nat, Best D (fun x => x ∈ pre) w) ∨ ∀ x ∈ pre, rd D x < 0 := by
          intro rest
          have main : ∀ (xs : List Int), (∀ x ∈ xs, ∃ w : Nat, x = w) → (∃ w : Nat, Best D (fun x => x ∈ xs) w) ∨ ∀ x ∈ xs, rd D x < 0 := by
            intro xs
            induction xs with
            | nil => intro _; exact .inr (by simp)
            | cons y ys ih2 =>
              intro hx
              obtain ⟨w, rfl⟩ := hx y (by simp)
              rcases ih2 (fun x h => hx x (by simp [h])) with ⟨u, hu⟩ | hall
              · by_cases hb : 0 ≤ rd D w ∧ (rd D w < rd D u ∨ rd D w = rd D u ∧ w ≤ u)
                · refine .inl ⟨w, by simp, hb.1, fun x hx h0 => ?_, fun x hx h0 => ?_⟩
                  · rcases List.mem_cons.1 hx with rfl | hx
                    · exact Int.le_refl _
                    · have := hu.min x hx h0; omega
                  · rcases List.mem_cons.1 hx with rfl | hx
                    · exact Int.le_refl _
                    · have := hu.min x hx (by omega)
                      have := hu.least x hx
                      omega
                · refine .inl ⟨u, by simp [hu.mem], hu.ok, fun x hx h0 => ?_, fun x hx h0 => ?_⟩
                  · rcases List.mem_cons.1 hx with rfl | hx
                    · omega
                    · exact hu.min x hx h0
                  · rcases List.mem_cons.1 hx with rfl | hx
                    · have := hu.ok; omega
                    · exact hu.least x hx h0
              · by_cases h0 : 0 ≤ rd D w
                · refine .inl ⟨w, by simp, h0, fun x hx h1 => ?_, fun x hx h1 => ?_⟩
                  · rcases List.mem_cons.1 hx with rfl | hx
                    · exact Int.le_refl _
                    · have := hall x hx; omega
                  · rcases List.mem_cons.1 hx with rfl | hx
                    · exact Int.le_refl _
                    · have := hall x hx; omega
                · refine .inr (fun x hx => ?_)
                  rcases List.mem_cons.1 hx with rfl | hx
                  · omega
                  · exact hall x hx
          intro pre hp
          exact main pre (fun x hx => by
            obtain ⟨w, e, _⟩ := rowOf_mem.1 (show x ∈ rowOf n E i by rw [hp]; simp [hx])
            exact ⟨w, e⟩)
        rcases key [] (rowOf n E i) (by simp) with h | h
        · exact hc h
        · exact hno h
      obtain ⟨w, hb⟩ := hw
      obtain ⟨w', e, hwn, hwe⟩ := rowOf_mem.1 hb.mem
      obtain rfl : w = w' := by omega
      have hok := hb.ok
      obtain ⟨t, ht, hwev⟩ := walk_run hE hn hD (rd D w).toNat w [(w : Int)] hwn (by omega) (by have := FarSpec.low hD hwn; simp; omega)
      have htl := ht.len.1
      have hlow := FarSpec.low hD hwn
      refine ⟨(i : Int) :: ((w : Int) :: t).dropLast, .inr ⟨i, D, w, t, hin, hu, hD, ⟨hwn, hwe⟩, hb, ht, rfl⟩, start _ (fun best hb' => ?_)⟩
      rcases hb' with ⟨_, hno'⟩ | ⟨w', rfl, hb'⟩
      · exact absurd hno' hno
      · obtain rfl := hb.unique hb'
        refine Ev_unroll ?_
        simp only [graph_Loop.l1]
        refine Ev_neg (by omega) ?_
        by_cases e : w = i
        · subst e
          have h0 := FarSpec.src hD hin
          have : t = [] := List.eq_nil_of_length_eq_zero (by omega)
          subst this
          exact Ev_pos rfl (Ev.now _)
        · refine Ev_neg (by omega) (Ev_pos (by omega) (Ev.bind hwev (Ev_some ?_)))
          have hsz : (([(w : Int)] ++ t).length : Int) = t.length + 1 := by simp
          have hwr : wrap64 ((([(w : Int)] ++ t).length : Int) - 1) = (t.length : Int) := by rw [hsz, wrap_less (by omega) (by omega)]; omega
          rw [hwr, hsz]
          refine Ev_pos (by omega) (Ev_pos (by omega) (Ev_some (Ev_pos ?_ ?_)))
          · simp; omega
          · have : ([(i : Int)] ++ ([(w : Int)] ++ t).take ((t.length : Int)).toNat) = (i : Int) :: ((w : Int) :: t).dropLast := by
              rw [Int.toNat_natCast, List.dropLast_eq_take]; simp
            rw [this]
            exact Ev.now _

theorem loop_run {n : Nat} {l : List S31} (h : graph_Right.f n l = some true) : ∃ c, LoopRes n (arcB l) c ∧ Ev (fun k => graph_Loop.f k n l) c := by
  obtain ⟨_, hn, hll, _⟩ := right_of h
  obtain ⟨c, hc, hev⟩ := loop_l0 (arcs_in h) (by omega) n 0 (by omega) (fun u hu => by omega)
  refine ⟨c, hc, ?_⟩
  unfold graph_Loop.f
  exact Ev_eq h (Ev_pos rfl (Ev_eq (links_rows h) (Ev.bind (turned_run l (by omega)) (Ev_eq (links_rows_turned h) hev))))
theorem loop_none {n : Int} {l : List S31} (h : graph_Right.f n l = some false) : Ev (fun k => graph_Loop.f k n l) [] := by
  unfold graph_Loop.f
  exact Ev_eq h (Ev_neg (by simp) (Ev.now _))
end Go.Proofs.Ytibnodjlcaodeaa.G

/-
  Orders and cycles: an order comes out exactly where there is no cycle; each node in it is the least one that may come next.
-/
namespace Go.Proofs.Ytibnodjlcaodeaa.G
open Go.RowKit Go.Proofs.YtibnodjlcaodeaaW.PrintWords Go.Proofs.YtibnodjlcaodeaaW.PrintLast Go.Proofs.YtibnodjlcaodeaaW.PrintMore
set_option linter.unusedVariables false
set_option linter.unusedSimpArgs false

theorem atI_left {xs ys : List Int} {x : Int} (h : x ∈ xs) : atI (xs ++ ys) x = atI xs x := by
  induction xs with
  | nil => cases h
  | cons y xs ih =>
    by_cases e : y = x
    · simp [atI, e]
    · have hx : x ∈ xs := by
        rcases List.mem_cons.1 h with h | h
        · exact absurd h.symm e
        · exact h
      simp only [List.cons_append, atI, if_neg e, ih hx]

theorem few_inside : ∀ (n : Nat) (o : List Int), o.Nodup → (∀ x ∈ o, ∃ v : Nat, x = v ∧ v < n) → o.length ≤ n
  | 0, o, _, h => by
    match o, h with
    | [], _ => simp
    | x :: xs, h => obtain ⟨v, _, hv⟩ := h x (by simp); omega
  | n + 1, o, hd, h => by
    have h1 := few_inside n (o.erase (n : Int)) (hd.erase _) (fun x hx => by
      have hx' := (hd.mem_erase_iff).1 hx
      obtain ⟨v, e, hv⟩ := h x hx'.2
      exact ⟨v, e, by omega⟩)
    rw [List.length_erase] at h1
    split at h1 <;> omega
theorem many_inside : ∀ (n : Nat) (o : List Int), (∀ v : Nat, v < n → (v : Int) ∈ o) → n ≤ o.length
  | 0, o, _ => by omega
  | n + 1, o, h => by
    have h1 := many_inside n (o.erase (n : Int)) (fun v hv => (List.mem_erase_of_ne (by omega)).2 (h v (by omega)))
    rw [List.length_erase_of_mem (h n (by omega))] at h1
    have := List.length_pos_of_mem (h n (by omega))
    omega
theorem Inv.all {n : Nat} {E : Nat → Nat → Bool} {o : List Int} (h : Inv n E o) (hl : o.length = n) {v : Nat} (hv : v < n) : (v : Int) ∈ o := by
  refine Decidable.byContradiction fun hn => ?_
  have := few_inside n ((v : Int) :: o) (List.nodup_cons.2 ⟨hn, h.nodup⟩) (fun x hx => by
    rcases List.mem_cons.1 hx with rfl | hx
    · exact ⟨v, rfl, hv⟩
    · exact h.mem x hx)
  simp only [List.length_cons] at this
  omega

def Ord (E : Nat → Nat → Bool) (o : List Int) : Prop := ∀ u w : Nat, (w : Int) ∈ o → E u w = true → atI o u < atI o w
def GoodL (n : Nat) (E : Nat → Nat → Bool) (o : List Int) : Prop := ∀ (p : List Int) (y : Int) (s : List Int), o = p ++ y :: s → ∃ v : Nat, y = v ∧ free? n E p = some v

theorem Ord.snoc {n : Nat} {E : Nat → Nat → Bool} (hE : ∀ v w, E v w = true → v < n ∧ w < n) {o : List Int} {v : Nat} (hi : Inv n E o) (h : Ord E o) (hf : wt n E o v = 0) : Ord E (o ++ [(v : Int)]) := by
  obtain ⟨h1, h2⟩ := (wt_free hE).1 hf
  intro u w hw he
  rcases List.mem_append.1 hw with hw | hw
  · have hu := hi.closed w hw u he
    rw [atI_left hu, atI_left hw]
    exact h u w hw he
  · have : w = v := by have := List.mem_singleton.1 hw; omega
    subst this
    have hu := h2 u he
    rw [atI_left hu, atI_app h1 (by simp)]
    have := (atI_lt o u).1
    simp [atI]; omega
theorem GoodL.snoc {n : Nat} {E : Nat → Nat → Bool} {o : List Int} {v : Nat} (h : GoodL n E o) (hf : free? n E o = some v) : GoodL n E (o ++ [(v : Int)]) := by
  intro p y s e
  rcases List.eq_nil_or_concat s with rfl | ⟨s', z, rfl⟩
  · have e2 := List.append_inj' e rfl
    obtain ⟨rfl, e3⟩ := e2
    exact ⟨v, by simpa using e3.symm, hf⟩
  · have e' : o ++ [(v : Int)] = (p ++ y :: s') ++ [z] := by rw [e]; simp
    exact h p y s' (List.append_inj' e' rfl).1

theorem topo_cases {n : Nat} {E : Nat → Nat → Bool} (hE : ∀ v w, E v w = true → v < n ∧ w < n) : ∀ (d : Nat) (o : List Int), o.length + d = n → Inv n E o → Ord E o → GoodL n E o →
    (∃ r, topo n E d o = (r, true) ∧ r.length = n ∧ Inv n E r ∧ Ord E r ∧ GoodL n E r) ∨ (topo n E d o = ([], false) ∧ ∃ o', o'.length < n ∧ free? n E o' = none) := by
  intro d
  induction d with
  | zero => exact fun o hl hi ho hg => .inl ⟨o, rfl, by omega, hi, ho, hg⟩
  | succ d ih =>
    intro o hl hi ho hg
    cases hf : free? n E o with
    | none => exact .inr ⟨by simp only [topo, hf], o, by omega, hf⟩
    | some v =>
      obtain ⟨hv, h0, _⟩ := free_some hf
      have : topo n E (d + 1) o = topo n E d (o ++ [(v : Int)]) := by simp only [topo, hf]
      rw [this]
      exact ih _ (by simp; omega) (hi.snoc hE hv h0) (Ord.snoc hE hi ho h0) (hg.snoc hf)
theorem topo_all {n : Nat} {E : Nat → Nat → Bool} (hE : ∀ v w, E v w = true → v < n ∧ w < n) :
    (∃ r, topo n E n [] = (r, true) ∧ r.length = n ∧ Inv n E r ∧ Ord E r ∧ GoodL n E r) ∨ (topo n E n [] = ([], false) ∧ ∃ o', o'.length < n ∧ free? n E o' = none) :=
  topo_cases hE n [] (by simp) (Inv.nil _ _) (fun u w h => by simp at h) (fun p y s h => by simp at h)
theorem free_none {n : Nat} {E : Nat → Nat → Bool} {o : List Int} (h : free? n E o = none) {v : Nat} (hv : v < n) : wt n E o v ≠ 0 := by
  have := List.find?_eq_none.1 h v (List.mem_range.2 hv)
  simpa using this

theorem Ord.walk {E : Nat → Nat → Bool} {o : List Int} (h : Ord E o) (hall : ∀ a b : Nat, E a b = true → (b : Int) ∈ o) : ∀ {k a b : Nat}, Wk E k a b → atI o a ≤ atI o b
  | 0, a, b, e => by obtain rfl : a = b := e; exact Int.le_refl _
  | k + 1, a, b, ⟨c, h1, h2⟩ => by
    have := h a c (hall a c h1) h1
    have := Ord.walk h hall h2
    omega
theorem ordered_no_cycle {n : Nat} {E : Nat → Nat → Bool} (hE : ∀ v w, E v w = true → v < n ∧ w < n) {o : List Int} (hi : Inv n E o) (ho : Ord E o) (hl : o.length = n) (v : Nat) : NoCycleAt E v := by
  intro w k he hk
  have hall : ∀ a b : Nat, E a b = true → (b : Int) ∈ o := fun a b h => hi.all hl (hE a b h).2
  have := ho v w (hall v w he) he
  have := ho.walk hall hk
  omega

theorem countP_lt {n w : Nat} {p q : Nat → Bool} (hw : w < n) (hp : p w = false) (hq : q w = true) (h : ∀ v, v < n → p v = true → q v = true) : (List.range n).countP p < (List.range n).countP q := by
  have h1 := countP_one (n := n) (w := w) (p := q) (q := fun v => q v && decide (v ≠ w)) hw hq (by simp) (fun v _ hne => by simp [hne])
  have h2 : (List.range n).countP p ≤ (List.range n).countP (fun v => q v && decide (v ≠ w)) := List.countP_mono_left (fun v hv hpv => by
    have hne : v ≠ w := by rintro rfl; rw [hp] at hpv; cases hpv
    simp [h v (List.mem_range.1 hv) hpv, hne])
  omega

open Classical in
theorem stuck_cycle {n : Nat} {E : Nat → Nat → Bool} (hE : ∀ v w, E v w = true → v < n ∧ w < n) {o : List Int} (hl : o.length < n) (hf : free? n E o = none) : ¬ ∀ v, v < n → NoCycleAt E v := by
  intro hno
  have key : ∀ m v, v < n → (v : Int) ∉ o → (List.range n).countP (fun u => decide (∃ k, Wk E (k + 1) u v)) = m → False := by
    intro m
    induction m using Nat.strongRecOn with
    | _ m ih =>
      intro v hv hvo hm
      have hne := free_none hf hv
      rw [ne_eq, wt_free hE] at hne
      have : ∃ u, E u v = true ∧ (u : Int) ∉ o := Classical.byContradiction fun hc => hne ⟨hvo, fun u hu => Classical.byContradiction fun hn => hc ⟨u, hu, hn⟩⟩
      obtain ⟨u, hu, huo⟩ := this
      have hun := (hE u v hu).1
      refine ih _ ?_ u hun huo rfl
      rw [← hm]
      refine countP_lt hun ?_ ?_ (fun x _ hx => ?_)
      · refine decide_eq_false ?_
        rintro ⟨k, c, h1, h2⟩
        exact hno u hun c k h1 h2
      · exact decide_eq_true ⟨0, v, hu, rfl⟩
      · obtain ⟨k, hk⟩ := of_decide_eq_true hx
        exact decide_eq_true ⟨k + 1, hk.snoc hu⟩
  have : ∃ v, v < n ∧ (v : Int) ∉ o := Classical.byContradiction fun hc => by
    have := many_inside n o (fun v hv => Classical.byContradiction fun hn => hc ⟨v, hv, hn⟩)
    omega
  obtain ⟨v, hv, hvo⟩ := this
  exact key _ v hv hvo rfl

theorem Greedy.get {n : Nat} {E : Nat → Nat → Bool} {D : List Int} {d v : Nat} {t : List Int} (h : Greedy n E D d v t) (hv : v < n) : ∀ i, i ≤ d → ∃ u : Nat, ((v : Int) :: t)[i]? = some (u : Int) ∧ u < n ∧ rd D u + i = d := by
  induction h with
  | nil v h0 =>
    intro i hi
    obtain rfl : i = 0 := by omega
    exact ⟨v, rfl, hv, by omega⟩
  | @cons d v w t h1 h2 h3 h4 h5 h6 ih =>
    intro i hi
    cases i with
    | zero => exact ⟨v, rfl, hv, by omega⟩
    | succ i =>
      obtain ⟨u, e, hu, hd⟩ := ih h2 i (by omega)
      exact ⟨u, by simpa using e, hu, by omega⟩
theorem Greedy.arc {n : Nat} {E : Nat → Nat → Bool} {D : List Int} {d v : Nat} {t : List Int} (h : Greedy n E D d v t) : ∀ i, i < d → ∃ u w : Nat, ((v : Int) :: t)[i]? = some (u : Int) ∧ ((v : Int) :: t)[i + 1]? = some (w : Int) ∧ E u w = true := by
  induction h with
  | nil v h0 => intro i hi; omega
  | @cons d v w t h1 h2 h3 h4 h5 h6 ih =>
    intro i hi
    cases i with
    | zero => exact ⟨v, w, rfl, rfl, h3⟩
    | succ i =>
      obtain ⟨u, x, e1, e2, e3⟩ := ih i (by omega)
      exact ⟨u, x, by simpa using e1, by simpa using e2, e3⟩
end Go.Proofs.Ytibnodjlcaodeaa.G

/-
  GraphLeast, in plain Lean: no order that always takes a node that may come next is smaller than the one that takes the least.
-/
namespace Go.Proofs.Ytibnodjlcaodeaa.Pure
open Go.RowKit Go.Proofs.Ytibnodjlcaodeaa.G Go.Proofs.YtibnodjlcaodeaaW.PrintWords Go.Proofs.YtibnodjlcaodeaaW.PrintLast
set_option linter.unusedVariables false
set_option linter.unusedSimpArgs false

theorem rd_arc {l : List S31} {i : Nat} (hi : i < l.length) : rd_T31 l (i : Int) ∈ l := by
  unfold rd_T31
  rw [Int.toNat_natCast, List.getD_eq_getElem?_getD, List.getElem?_eq_getElem hi]
  exact List.getElem_mem _

/-- Each node of o may come where it comes. -/
def FreeSeq (n : Nat) (E : Nat → Nat → Bool) (o : List Int) : Prop := ∀ (p : List Int) (y : Int) (s : List Int), o = p ++ y :: s → ∃ v : Nat, y = v ∧ v < n ∧ wt n E p v = 0
theorem FreeSeq.snoc {n : Nat} {E : Nat → Nat → Bool} {o : List Int} {v : Nat} (h : FreeSeq n E o) (hv : v < n) (hf : wt n E o v = 0) : FreeSeq n E (o ++ [(v : Int)]) := by
  intro p y s e
  rcases List.eq_nil_or_concat s with rfl | ⟨s', z, rfl⟩
  · obtain ⟨rfl, e3⟩ := List.append_inj' e rfl
    exact ⟨v, by simpa using e3.symm, hv, hf⟩
  · have e' : o ++ [(v : Int)] = (p ++ y :: s') ++ [z] := by rw [e]; simp
    exact h p y s' (List.append_inj' e' rfl).1

theorem less_run {n : Nat} {E : Nat → Nat → Bool} {o r : List Int} (hlen : o.length = r.length) (hb : o.length < 1000000) (ho : FreeSeq n E o) (hr : GoodL n E r) : ∀ (rest rest' pre : List Int), o = pre ++ rest → r = pre ++ rest' →
    Ev (fun k => bourneref11_Less.l0 k o r (pre.length : Int)) false := by
  intro rest
  induction rest with
  | nil =>
    intro rest' pre e1 e2
    rw [List.append_nil] at e1
    refine Ev_unroll ?_
    simp only [bourneref11_Less.l0]
    exact Ev_neg (by rw [e1]; omega) (Ev.now _)
  | cons x rest ih =>
    intro rest' pre e1 e2
    match rest', e2 with
    | [], e2 =>
      rw [e1, e2] at hlen
      simp at hlen
    | y :: rest', e2 =>
      have hl1 : o.length = pre.length + (rest.length + 1) := by rw [e1]; simp
      have hx : rd o (pre.length : Int) = x := by rw [e1]; exact rd_mid _ _ _
      have hy : rd r (pre.length : Int) = y := by rw [e2]; exact rd_mid _ _ _
      refine Ev_unroll ?_
      simp only [bourneref11_Less.l0, hx, hy]
      refine Ev_pos (by omega) (Ev_pos (by omega) (Ev_pos (by omega) ?_))
      by_cases e : x = y
      · subst e
        refine Ev_pos rfl ?_
        rw [wrap_le (by omega) (by omega)]
        have := ih rest' (pre ++ [x]) (by rw [e1]; simp) (by rw [e2]; simp)
        simpa using this
      · refine Ev_neg e ?_
        obtain ⟨v, rfl, hv, h0⟩ := ho pre x rest e1
        obtain ⟨w, rfl, hw⟩ := hr pre y rest' e2
        obtain ⟨_, _, hleast⟩ := free_some hw
        have : ¬ (v : Int) < (w : Int) := fun hlt => hleast v (by omega) h0
        rw [decide_eq_false this]
        exact Ev.now _

theorem some_free {n : Nat} {E : Nat → Nat → Bool} (hE : ∀ v w, E v w = true → v < n ∧ w < n) {r o : List Int} (hi : Inv n E r) (hl : r.length = n) (hg : GoodL n E r) (hol : o.length < n) : ∃ v, v < n ∧ wt n E o v = 0 := by
  have h1 : ∃ v, v < n ∧ (v : Int) ∉ o := Classical.byContradiction fun hc => by
    have := many_inside n o (fun v hv => Classical.byContradiction fun hn => hc ⟨v, hv, hn⟩)
    omega
  obtain ⟨u, hu, huo⟩ := h1
  cases hf : r.find? (fun x => decide (x ∉ o)) with
  | none =>
    have := List.find?_eq_none.1 hf (u : Int) (hi.all hl hu)
    simp [huo] at this
  | some y =>
    obtain ⟨hy, p, s, e, hno⟩ := List.find?_eq_some_iff_append.1 hf
    obtain ⟨v, rfl, hv⟩ := hg p y s e
    obtain ⟨hvn, h0, _⟩ := free_some hv
    refine ⟨v, hvn, (wt_free hE).2 ⟨by simpa using hy, fun x hx => ?_⟩⟩
    have := hno x (((wt_free hE).1 h0).2 x hx)
    simpa using this

/-- May v come next, as far as the arcs of index below i tell? -/
theorem least_l2 {n : Nat} {l : List S31} {liked r o : List Int} (h : graph_Right.f n l = some true) (ho : o.length < 1000000) (hlk : n ≤ liked.length) {best : Int} {v : Nat} (hv : v < n) (hbest : best = -1 ∨ 0 ≤ best ∧ best < n)
    (yes : wt n (arcB l) o v = 0 → ∀ b : Int, (b = v ∨ b = best ∧ best ≠ -1) → Ev (fun k => bournelaw11_GraphLeast.l1 k n l liked true r o b (wrap64 ((v : Int) + 1))) true)
    (no : wt n (arcB l) o v ≠ 0 → Ev (fun k => bournelaw11_GraphLeast.l1 k n l liked true r o best (wrap64 ((v : Int) + 1))) true) : ∀ (m i : Nat) (fr : Bool), i + m = l.length →
      (fr = true ↔ (v : Int) ∉ o ∧ ∀ j, j < i → ∀ x, l[j]? = some x → x.f1 = (v : Int) → x.f0 ∈ o) →
      Ev (fun k => bournelaw11_GraphLeast.l2 k n l liked true r o best (v : Int) fr (i : Int)) true := by
  obtain ⟨_, hn, hll, hin⟩ := right_of h
  have hE := arcs_in h
  intro m
  induction m with
  | zero =>
    intro i fr hi hfr
    obtain rfl : i = l.length := by omega
    have hw : fr = true ↔ wt n (arcB l) o v = 0 := by
      rw [hfr, wt_free hE]
      refine and_congr_right fun _ => ⟨fun hh u hu => ?_, fun hh j hj x hx hx1 => ?_⟩
      · unfold arcB at hu
        simp only [List.any_eq_true, Bool.and_eq_true, decide_eq_true_eq] at hu
        obtain ⟨x, hx, e1, e2⟩ := hu
        obtain ⟨j, hj, hjx⟩ := List.getElem_of_mem hx
        have := hh j hj x (by rw [List.getElem?_eq_getElem hj, hjx]) e2
        rwa [e1] at this
      · have hx' := List.mem_of_getElem? hx
        have := hin x hx'
        have hux : x.f0 = ((x.f0.toNat : Nat) : Int) := by omega
        rw [hux]
        refine hh _ ?_
        unfold arcB
        rw [List.any_eq_true]
        exact ⟨x, hx', by simp only [Bool.and_eq_true, decide_eq_true_eq]; omega⟩
    refine Ev_unroll ?_
    simp only [bournelaw11_GraphLeast.l2]
    refine Ev_neg (by omega) ?_
    by_cases hf : fr = true
    · have h0 := hw.1 hf
      refine Ev_pos hf ?_
      by_cases hb : best < 0
      · exact Ev_pos hb (yes h0 _ (.inl rfl))
      · refine Ev_neg hb (Ev_pos (by omega) (Ev_pos (by omega) (Ev_pos (by omega) (Ev_pos (by omega) ?_))))
        by_cases hgt : rd liked (v : Int) > rd liked best
        · exact Ev_pos hgt (yes h0 _ (.inl rfl))
        · exact Ev_neg hgt (yes h0 _ (.inr ⟨rfl, by omega⟩))
    · exact Ev_neg hf (no (fun h0 => hf (hw.2 h0)))
  | succ m ih =>
    intro i fr hi hfr
    have hlt : i < l.length := by omega
    have hx : rd_T31 l (i : Int) = l[i] := by
      unfold rd_T31
      rw [Int.toNat_natCast, List.getD_eq_getElem?_getD, List.getElem?_eq_getElem hlt]; rfl
    have hwr : wrap64 ((i : Int) + 1) = ((i + 1 : Nat) : Int) := by rw [wrap_le (by omega) (by omega)]; omega
    have hstep : ∀ fr', (fr' = true ↔ fr = true ∧ (l[i].f1 = (v : Int) → l[i].f0 ∈ o)) → Ev (fun k => bournelaw11_GraphLeast.l2 k n l liked true r o best (v : Int) fr' ((i + 1 : Nat) : Int)) true := fun fr' hfr' => by
      refine ih (i + 1) fr' (by omega) ?_
      rw [hfr', hfr]
      constructor
      · rintro ⟨⟨g1, g2⟩, g3⟩
        refine ⟨g1, fun j hj x hxj => ?_⟩
        rcases Nat.lt_or_ge j i with hji | hji
        · exact g2 j hji x hxj
        · obtain rfl : j = i := by omega
          rw [List.getElem?_eq_getElem hlt] at hxj
          obtain rfl := Option.some.inj hxj
          exact g3
      · rintro ⟨g1, g2⟩
        exact ⟨⟨g1, fun j hj => g2 j (by omega)⟩, g2 i (by omega) _ (List.getElem?_eq_getElem hlt)⟩
    refine Ev_unroll ?_
    simp only [bournelaw11_GraphLeast.l2, hx, hwr]
    refine Ev_pos (by omega) (Ev_pos (by omega) ?_)
    by_cases e : l[i].f1 = (v : Int)
    · refine Ev_pos e (Ev.bind (at_run _ _ (by omega)) ?_)
      by_cases hm : l[i].f0 ∈ o
      · exact Ev_neg (fun hh => atI_neg.1 hh hm) (hstep fr (by simp [hm]))
      · exact Ev_pos (atI_neg.2 hm) (hstep false (by simp [hm, e]))
    · exact Ev_neg e (hstep fr (by simp [e]))

theorem least_l1 {n : Nat} {l : List S31} {liked r o : List Int} (h : graph_Right.f n l = some true) (ho : o.length < 1000000) (hlk : n ≤ liked.length) (hex : ∃ v, v < n ∧ wt n (arcB l) o v = 0)
    (next : ∀ v : Nat, v < n → wt n (arcB l) o v = 0 → Ev (fun k => bournelaw11_GraphLeast.l0 k n l liked true r (o ++ [(v : Int)])) true) : ∀ (m i : Nat) (best : Int), i + m = n →
      ((best = -1 ∧ ∀ u, u < i → wt n (arcB l) o u ≠ 0) ∨ ∃ u : Nat, best = u ∧ u < n ∧ wt n (arcB l) o u = 0) →
      Ev (fun k => bournelaw11_GraphLeast.l1 k n l liked true r o best (i : Int)) true := by
  obtain ⟨_, hn, hll, hin⟩ := right_of h
  intro m
  induction m with
  | zero =>
    intro i best hi hb
    obtain rfl : i = n := by omega
    refine Ev_unroll ?_
    simp only [bournelaw11_GraphLeast.l1]
    refine Ev_neg (by omega) ?_
    rcases hb with ⟨_, hno⟩ | ⟨u, rfl, hu, h0⟩
    · obtain ⟨v, hv, h0⟩ := hex
      exact absurd h0 (hno v hv)
    · exact Ev_neg (by omega) (Ev_pos (by omega) (next u hu h0))
  | succ m ih =>
    intro i best hi hb
    have hin' : i < n := by omega
    have hwr : wrap64 ((i : Int) + 1) = ((i + 1 : Nat) : Int) := by rw [wrap_le (by omega) (by omega)]; omega
    refine Ev_unroll ?_
    simp only [bournelaw11_GraphLeast.l1]
    refine Ev_pos (by omega) (Ev.bind (at_run _ _ (by omega)) ?_)
    refine least_l2 h ho hlk hin' ?_ (fun h0 b hbb => ?_) (fun h0 => ?_) l.length 0 _ (by omega) ?_
    · rcases hb with ⟨rfl, _⟩ | ⟨u, rfl, hu, _⟩
      · exact .inl rfl
      · exact .inr (by omega)
    · rw [hwr]
      refine ih (i + 1) b (by omega) (.inr ?_)
      rcases hbb with rfl | ⟨rfl, hne⟩
      · exact ⟨i, rfl, hin', h0⟩
      · rcases hb with ⟨hb, _⟩ | hb
        · exact absurd hb hne
        · exact hb
    · rw [hwr]
      refine ih (i + 1) best (by omega) (hb.imp (fun ⟨e, hno⟩ => ⟨e, fun u hu => ?_⟩) (fun hb => hb))
      rcases Nat.lt_or_ge u i with hlt | hge
      · exact hno u hlt
      · obtain rfl : u = i := by omega
        exact h0
    · rw [decide_eq_true_eq, atI_neg]
      exact ⟨fun hh => ⟨hh, fun j hj => by omega⟩, fun hh => hh.1⟩

theorem least_l0 {n : Nat} {l : List S31} {liked r : List Int} (h : graph_Right.f n l = some true) (hlk : n ≤ liked.length) (hi : Inv n (arcB l) r) (hl : r.length = n) (hg : GoodL n (arcB l) r) : ∀ (d : Nat) (o : List Int), o.length + d = n → FreeSeq n (arcB l) o →
    Ev (fun k => bournelaw11_GraphLeast.l0 k n l liked true r o) true := by
  obtain ⟨_, hn, hll, hin⟩ := right_of h
  intro d
  induction d with
  | zero =>
    intro o hd hs
    refine Ev_unroll ?_
    simp only [bournelaw11_GraphLeast.l0]
    refine Ev_neg (by omega) (Ev_pos (by simp) (Ev.bind (less_run (by omega) (by omega) hs hg o r [] rfl rfl) (Ev.now _)))
  | succ d ih =>
    intro o hd hs
    refine Ev_unroll ?_
    simp only [bournelaw11_GraphLeast.l0]
    exact Ev_pos (by omega) (least_l1 h (by omega) hlk (some_free (arcs_in h) hi hl hg (by omega)) (fun v hv h0 => ih _ (by simp; omega) (hs.snoc hv h0)) n 0 (-1) (by omega) (.inl ⟨rfl, fun u hu => by omega⟩))

theorem GraphLeast (a0 : Int) (l1 : List S31) (l2 : List Int) (w0 : (Lit.int .i64 a0).wf = true) (w1 : l1.length ≤ maxLen ∧ ∀ x ∈ l1, (Lit.int .i64 x.f0).wf = true ∧ (Lit.int .i64 x.f1).wf = true) (w2 : l2.length ≤ maxLen ∧ ∀ x ∈ l2, (Lit.int .i64 x).wf = true) : ∃ k, bournelaw11_GraphLeast.f k a0 l1 l2 = some true := by
  refine Ev.rounds ?_
  unfold bournelaw11_GraphLeast.f
  refine Ev.bind small_run ?_
  have jt : ∀ o, Ev (fun k => bournelaw11_GraphLeast.j0 k a0 l1 l2 true o true) true := fun o => by
    refine Ev_unroll ?_
    simp only [bournelaw11_GraphLeast.j0]
    exact Ev_pos (by simp) (Ev.now _)
  rcases right_cases a0 l1 with h | h
  · obtain ⟨n, rfl⟩ := Int.eq_ofNat_of_zero_le (right_of h).1
    refine Ev.bind (order_run h) (Ev_eq (few_run _ l1) ?_)
    rcases topo_all (arcs_in h) with ⟨r, e, hl, hi, ho, hg⟩ | ⟨e, _⟩
    · rw [e]
      refine Ev_pos rfl ?_
      by_cases hf : (decide ((n : Int) ≤ 16) && decide ((l1.length : Int) ≤ 40)) = true
      · refine Ev_pos hf ?_
        by_cases hk : (l2.length : Int) < n
        · rw [decide_eq_true hk]; exact jt _
        · rw [decide_eq_false hk]
          refine Ev_unroll ?_
          simp only [bournelaw11_GraphLeast.j0]
          exact Ev_neg (by simp) (least_l0 h (by omega) hi hl hg n [] (by simp) (fun p y s hh => by simp at hh))
      · exact Ev_neg hf (jt _)
    · rw [e]
      exact Ev_neg (by simp) (jt _)
  · refine Ev.bind (order_none h) (Ev_eq (few_run _ l1) (Ev_neg (by simp) (jt _)))
end Go.Proofs.Ytibnodjlcaodeaa.Pure
