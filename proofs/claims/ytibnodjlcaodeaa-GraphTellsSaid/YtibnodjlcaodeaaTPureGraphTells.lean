/-
  GraphTells, in plain Lean: all functions return what the reference returns.
-/
import Derived.Test.YtibnodjlcaodeaaTA3
import Derived.Test.YtibnodjlcaodeaaTK4
import Derived.Test.YtibnodjlcaodeaaTA4
import Derived.Test.YtibnodjlcaodeaaTK9
import Derived.Test.YtibnodjlcaodeaaTK22
import Derived.Test.YtibnodjlcaodeaaTK24
import Derived.Test.YtibnodjlcaodeaaTK25
import Derived.Test.YtibnodjlcaodeaaTK26
import Derived.Test.YtibnodjlcaodeaaTK28
import Derived.Test.YtibnodjlcaodeaaTK23
import Derived.Test.YtibnodjlcaodeaaTHRefLoop
import Derived.Test.YtibnodjlcaodeaaTA5
import Derived.Test.YtibnodjlcaodeaaTK30
/-
  graph.Order: always the least node all of whose predecessors are out.
-/
namespace Go.Proofs.Ytibnodjlcaodeaa.G
open Go.RowKit Go.Proofs.YtibnodjlcaodeaaW.PrintWords Go.Proofs.YtibnodjlcaodeaaW.PrintLast Go.Proofs.YtibnodjlcaodeaaW.PrintMore
set_option linter.unusedVariables false
set_option linter.unusedSimpArgs false

def ofF (n : Nat) (f : Nat → Int) : List Int := (List.range n).map f
theorem ofF_len (n : Nat) (f : Nat → Int) : (ofF n f).length = n := by simp [ofF]
theorem ofF_get {n : Nat} {f : Nat → Int} {v : Nat} (h : v < n) : (ofF n f)[v]? = some (f v) := by simp [ofF, h]
theorem rd_ofF {n : Nat} {f : Nat → Int} {v : Nat} (h : v < n) : rd (ofF n f) v = f v := rd_get (ofF_get h)
theorem ofF_congr {n : Nat} {f g : Nat → Int} (h : ∀ v, v < n → f v = g v) : ofF n f = ofF n g := List.map_congr_left (fun v hv => h v (List.mem_range.1 hv))
theorem ofF_set {n : Nat} {f : Nat → Int} {v : Nat} {x : Int} : (ofF n f).set v x = ofF n (fun w => if w = v then x else f w) := by
  refine List.ext_getElem? (fun w => ?_)
  rw [List.getElem?_set]
  by_cases hw : w < n
  · rw [ofF_get hw, ofF_len]
    by_cases e : v = w
    · subst e; rw [if_pos rfl, if_pos hw, ofF_get hw]; simp
    · rw [if_neg e, ofF_get hw, if_neg (Ne.symm e)]
  · have h1 : (ofF n f)[w]? = none := by rw [List.getElem?_eq_none]; rw [ofF_len]; omega
    have h2 : (ofF n (fun w => if w = v then x else f w))[w]? = none := by rw [List.getElem?_eq_none]; rw [ofF_len]; omega
    rw [h1, h2, ofF_len]
    split
    · rw [if_neg (by omega)]
    · rfl
theorem ofF_zero (n : Nat) : List.replicate n (0 : Int) = ofF n (fun _ => 0) := by
  unfold ofF
  rw [List.map_const', List.length_range]
theorem atI_ofF (n : Nat) (f : Nat → Int) : (((List.range n).find? fun v => decide (f v = 0)) = none ∧ atI (ofF n f) 0 = -1) ∨ ∃ v : Nat, v < n ∧ f v = 0 ∧ (∀ u, u < v → f u ≠ 0) ∧ ((List.range n).find? fun v => decide (f v = 0)) = some v ∧ atI (ofF n f) 0 = v := by
  rcases atI_cases (ofF n f) 0 with ⟨h1, h2⟩ | ⟨i, h1, h2, h3⟩
  · refine .inl ⟨?_, h2⟩
    rw [List.find?_eq_none]
    intro v hv hd
    exact h1 (List.mem_of_getElem? (i := v) (by rw [ofF_get (List.mem_range.1 hv)]; simpa using hd))
  · have hi : i < n := by
      have := (List.getElem?_eq_some_iff.1 h2).1
      rwa [ofF_len] at this
    rw [ofF_get hi] at h2
    have h0 : f i = 0 := Option.some.inj h2
    have hl : ∀ u, u < i → f u ≠ 0 := fun u hu e => h3 u hu (by rw [ofF_get (by omega), e])
    refine .inr ⟨i, hi, h0, hl, ?_, h1⟩
    rw [List.find?_eq_some_iff_getElem]
    exact ⟨by simpa using h0, i, by simpa using hi, by simp, fun j hj => by simpa using hl j hj⟩

def ctr (i : Nat) (E : Nat → Nat → Bool) (v : Nat) : Nat := (List.range i).countP fun u => E u v
theorem ctr_succ (i : Nat) (E : Nat → Nat → Bool) (v : Nat) : ctr (i + 1) E v = ctr i E v + if E i v then 1 else 0 := by
  unfold ctr
  rw [List.range_succ, List.countP_append]
  simp [List.countP_cons]
theorem ctr_le (i : Nat) (E : Nat → Nat → Bool) (v : Nat) : ctr i E v ≤ i := Nat.le_trans List.countP_le_length (by simp)

theorem rowOf_in {n : Nat} {E : Nat → Nat → Bool} {u v : Nat} (hv : v < n) : ((v : Int) ∈ rowOf n E u) = (E u v = true) := by
  refine propext ⟨fun h => ?_, fun h => rowOf_mem.2 ⟨v, rfl, hv, h⟩⟩
  obtain ⟨w, e, _, h⟩ := rowOf_mem.1 h
  have : v = w := by omega
  rw [this]; exact h
theorem rowOf_nodup (n : Nat) (E : Nat → Nat → Bool) (u : Nat) : (rowOf n E u).Nodup := by
  unfold rowOf
  refine List.Pairwise.map _ (fun a b h => by omega) ((List.nodup_range (n := n)).filter _)

theorem order_l1 {n : Nat} {E : Nat → Nat → Bool} (hn : n ≤ 256) (X X' : List (List Int)) (g : Nat → Int) (hg : ∀ v, 0 ≤ g v ∧ g v ≤ 1000) (c i : Int) (u : Nat) (r : List Int × Bool) (next : Ev (fun k => graph_Order.l0 k n X (ofF n (fun v => g v + if (v : Int) ∈ rowOf n E u then 1 else 0)) X' c (wrap64 (i + 1))) r) : ∀ (rest pre : List Int), rowOf n E u = pre ++ rest →
    Ev (fun k => graph_Order.l1 k n X (ofF n (fun v => g v + if (v : Int) ∈ pre then 1 else 0)) X' c i (rowOf n E u) ((rowOf n E u).length : Int) (pre.length : Int)) r := by
  intro rest
  induction rest with
  | nil =>
    intro pre h
    rw [List.append_nil] at h
    rw [← h]
    refine Ev_unroll ?_
    simp only [graph_Order.l1]
    exact Ev_neg (by omega) next
  | cons x rest ih =>
    intro pre h
    obtain ⟨w, rfl, hw, he⟩ := rowOf_mem.1 (show x ∈ rowOf n E u by rw [h]; simp)
    have hlen : (rowOf n E u).length = pre.length + (rest.length + 1) := by rw [h]; simp
    have hrl := rowOf_len n E u
    have hrd : rd (rowOf n E u) (pre.length : Int) = w := by rw [h]; exact rd_mid pre rest w
    have hnd := rowOf_nodup n E u
    rw [h] at hnd
    have hnp : (w : Int) ∉ pre := fun hm => (List.nodup_append.1 hnd).2.2 _ hm _ (by simp) rfl
    have key := ih (pre ++ [(w : Int)]) (by rw [h]; simp)
    have hgw := hg w
    refine Ev_unroll ?_
    simp only [graph_Order.l1, hrd, rd_ofF hw, if_neg hnp, Int.toNat_natCast, ofF_set]
    refine Ev_pos (by omega) (Ev_pos (by omega) (Ev_pos (by omega) (Ev_pos (by omega) (Ev_pos (by rw [ofF_len]; omega) ?_))))
    rw [wrap_le (i := (pre.length : Int)) (by omega) (by omega), Int.add_zero, wrap_le (by omega) (by omega)]
    rw [ofF_congr (g := fun v => g v + if (v : Int) ∈ pre ++ [(w : Int)] then 1 else 0) (fun v hv => ?_)]
    · simpa using key
    · by_cases e : v = w
      · subst e; simp
      · rw [if_neg e]
        have : (v : Int) ≠ w := by omega
        simp [this]

theorem order_l0 {n : Nat} {E : Nat → Nat → Bool} (hn : n ≤ 256) (r : List Int × Bool) (next : Ev (fun k => graph_Order.l2 k n (rows n E) (ofF n (fun v => (ctr n E v : Int))) []) r) : ∀ (d i : Nat), i + d = n →
    Ev (fun k => graph_Order.l0 k n (rows n E) (ofF n (fun v => (ctr i E v : Int))) (rows n E) ((rows n E).length : Int) (i : Int)) r := by
  intro d
  induction d with
  | zero =>
    intro i hi
    obtain rfl : i = n := by omega
    refine Ev_unroll ?_
    simp only [graph_Order.l0]
    exact Ev_neg (by rw [rows_len]; omega) next
  | succ d ih =>
    intro i hi
    have key := ih (i + 1) (by omega)
    have hi' : (wrap64 ((i : Int) + 1)) = ((i + 1 : Nat) : Int) := by rw [wrap_le (by omega) (by omega)]; omega
    refine Ev_unroll ?_
    simp only [graph_Order.l0]
    refine Ev_pos (by rw [rows_len]; omega) (Ev_pos (by omega) (Ev_pos (by rw [rows_len]; omega) ?_))
    rw [rd_rows (by omega) (by omega), Int.toNat_natCast]
    have := order_l1 (E := E) hn (rows n E) (rows n E) (fun v => (ctr i E v : Int)) (fun v => by have := ctr_le i E v; omega) ((rows n E).length : Int) (i : Int) i r (by
      rw [hi']
      rw [ofF_congr (g := fun v => (ctr (i + 1) E v : Int)) (fun v hv => ?_)]
      · exact key
      · rw [ctr_succ]
        simp only [rowOf_in hv]
        split <;> simp) (rowOf n E i) [] rfl
    simpa using this

/-- What waits is told by: -1 where the node is out, else how many predecessors are not out. -/
def wt (n : Nat) (E : Nat → Nat → Bool) (o : List Int) (v : Nat) : Int := if (v : Int) ∈ o then -1 else ((List.range n).countP fun u => E u v && decide ((u : Int) ∉ o) : Nat)
def free? (n : Nat) (E : Nat → Nat → Bool) (o : List Int) : Option Nat := (List.range n).find? fun v => decide (wt n E o v = 0)
def topo (n : Nat) (E : Nat → Nat → Bool) : Nat → List Int → List Int × Bool
  | 0, o => (o, true)
  | d + 1, o => match free? n E o with
    | none => ([], false)
    | some v => topo n E d (o ++ [(v : Int)])

theorem wt_free {n : Nat} {E : Nat → Nat → Bool} (hE : ∀ v w, E v w = true → v < n ∧ w < n) {o : List Int} {v : Nat} : wt n E o v = 0 ↔ (v : Int) ∉ o ∧ ∀ u, E u v = true → (u : Int) ∈ o := by
  unfold wt
  by_cases h : (v : Int) ∈ o
  · rw [if_pos h]; exact ⟨fun h => by omega, fun h2 => absurd h h2.1⟩
  · rw [if_neg h]
    constructor
    · intro h0
      refine ⟨h, fun u hu => Decidable.byContradiction fun hn => ?_⟩
      have := List.countP_eq_zero.1 (show (List.range n).countP (fun u => E u v && decide ((u : Int) ∉ o)) = 0 by omega) u (List.mem_range.2 (hE u v hu).1)
      simp [hu, hn] at this
    · intro ⟨_, h2⟩
      have : (List.range n).countP (fun u => E u v && decide ((u : Int) ∉ o)) = 0 := List.countP_eq_zero.2 (fun u _ hu => by
        simp only [Bool.and_eq_true, decide_eq_true_eq] at hu
        exact hu.2 (h2 u hu.1))
      omega
theorem wt_bound (n : Nat) (E : Nat → Nat → Bool) (o : List Int) (v : Nat) : -1 ≤ wt n E o v ∧ wt n E o v ≤ n := by
  unfold wt
  split
  · omega
  · have : (List.range n).countP (fun u => E u v && decide ((u : Int) ∉ o)) ≤ n := Nat.le_trans List.countP_le_length (by simp)
    omega

structure Inv (n : Nat) (E : Nat → Nat → Bool) (o : List Int) : Prop where
  nodup : o.Nodup
  mem : ∀ x ∈ o, ∃ v : Nat, x = v ∧ v < n
  closed : ∀ w : Nat, (w : Int) ∈ o → ∀ u, E u w = true → (u : Int) ∈ o
theorem Inv.nil (n : Nat) (E : Nat → Nat → Bool) : Inv n E [] := ⟨List.nodup_nil, by simp, by simp⟩
theorem Inv.snoc {n : Nat} {E : Nat → Nat → Bool} (hE : ∀ v w, E v w = true → v < n ∧ w < n) {o : List Int} {v : Nat} (h : Inv n E o) (hv : v < n) (hf : wt n E o v = 0) : Inv n E (o ++ [(v : Int)]) := by
  obtain ⟨h1, h2⟩ := (wt_free hE).1 hf
  refine ⟨?_, fun x hx => ?_, fun w hw u hu => ?_⟩
  · rw [List.nodup_append]
    refine ⟨h.nodup, by simp, fun a ha b hb e => ?_⟩
    subst e
    exact h1 (by rw [List.mem_singleton.1 hb] at ha; exact ha)
  · rcases List.mem_append.1 hx with hx | hx
    · exact h.mem x hx
    · exact ⟨v, List.mem_singleton.1 hx, hv⟩
  · rcases List.mem_append.1 hw with hw | hw
    · exact List.mem_append_left _ (h.closed w hw u hu)
    · have : w = v := by have := List.mem_singleton.1 hw; omega
      subst this
      exact List.mem_append_left _ (h2 u hu)
theorem free_some {n : Nat} {E : Nat → Nat → Bool} {o : List Int} {v : Nat} (h : free? n E o = some v) : v < n ∧ wt n E o v = 0 ∧ ∀ u, u < v → wt n E o u ≠ 0 := by
  unfold free? at h
  rcases atI_ofF n (wt n E o) with ⟨h1, _⟩ | ⟨w, h1, h2, h3, h4, _⟩
  · rw [h1] at h; cases h
  · rw [h4] at h
    obtain rfl := Option.some.inj h
    exact ⟨h1, h2, h3⟩
theorem wt_snoc {n : Nat} {E : Nat → Nat → Bool} (hE : ∀ v w, E v w = true → v < n ∧ w < n) {o : List Int} {v : Nat} (h : Inv n E o) (hv : v < n) (hf : wt n E o v = 0) {x : Nat} (hx : x < n) : (if x = v then -1 else wt n E o x) + (if (x : Int) ∈ rowOf n E v then -1 else 0) = wt n E (o ++ [(v : Int)]) x := by
  obtain ⟨h1, h2⟩ := (wt_free hE).1 hf
  simp only [rowOf_in hx]
  by_cases e : x = v
  · subst e
    have : ¬ E x x = true := fun he => h1 (h2 x he)
    rw [if_pos rfl, if_neg this]
    unfold wt
    rw [if_pos (by simp)]; rfl
  · rw [if_neg e]
    by_cases hm : (x : Int) ∈ o
    · have : ¬ E v x = true := fun he => h1 (h.closed x hm v he)
      rw [if_neg this]
      unfold wt
      rw [if_pos hm, if_pos (by simp [hm])]; rfl
    · have hm2 : (x : Int) ∉ o ++ [(v : Int)] := by simp only [List.mem_append, List.mem_singleton, not_or]; exact ⟨hm, by omega⟩
      unfold wt
      rw [if_neg hm, if_neg hm2]
      by_cases he : E v x = true
      · rw [if_pos he]
        have := countP_one (n := n) (w := v) (p := fun u => E u x && decide ((u : Int) ∉ o)) (q := fun u => E u x && decide ((u : Int) ∉ o ++ [(v : Int)])) hv (by simp [he, h1]) (by simp) (fun u hu hne => by
          have : (u : Int) ≠ v := by omega
          simp [this])
        omega
      · rw [if_neg he]
        have : (List.range n).countP (fun u => E u x && decide ((u : Int) ∉ o)) = (List.range n).countP (fun u => E u x && decide ((u : Int) ∉ o ++ [(v : Int)])) := List.countP_congr (fun u hu => by
          by_cases e2 : u = v
          · subst e2; simp [he]
          · have : (u : Int) ≠ v := by omega
            simp [this])
        omega

theorem order_l3 {n : Nat} {E : Nat → Nat → Bool} (hn : n ≤ 256) (X : List (List Int)) (o : List Int) (g : Nat → Int) (hg : ∀ v, -1 ≤ g v ∧ g v ≤ 1000) (u : Nat) (r : List Int × Bool) (next : Ev (fun k => graph_Order.l2 k n X (ofF n (fun v => g v + if (v : Int) ∈ rowOf n E u then -1 else 0)) o) r) : ∀ (rest pre : List Int), rowOf n E u = pre ++ rest →
    Ev (fun k => graph_Order.l3 k n X (ofF n (fun v => g v + if (v : Int) ∈ pre then -1 else 0)) o (rowOf n E u) ((rowOf n E u).length : Int) (pre.length : Int)) r := by
  intro rest
  induction rest with
  | nil =>
    intro pre h
    rw [List.append_nil] at h
    rw [← h]
    refine Ev_unroll ?_
    simp only [graph_Order.l3]
    exact Ev_neg (by omega) next
  | cons x rest ih =>
    intro pre h
    obtain ⟨w, rfl, hw, he⟩ := rowOf_mem.1 (show x ∈ rowOf n E u by rw [h]; simp)
    have hlen : (rowOf n E u).length = pre.length + (rest.length + 1) := by rw [h]; simp
    have hrl := rowOf_len n E u
    have hrd : rd (rowOf n E u) (pre.length : Int) = w := by rw [h]; exact rd_mid pre rest w
    have hnd := rowOf_nodup n E u
    rw [h] at hnd
    have hnp : (w : Int) ∉ pre := fun hm => (List.nodup_append.1 hnd).2.2 _ hm _ (by simp) rfl
    have key := ih (pre ++ [(w : Int)]) (by rw [h]; simp)
    have hgw := hg w
    have hwr : wrap64 (g w + 0 - 1) = g w - 1 := by unfold wrap64; omega
    refine Ev_unroll ?_
    simp only [graph_Order.l3, hrd, rd_ofF hw, if_neg hnp, Int.toNat_natCast, ofF_set, hwr]
    refine Ev_pos (by omega) (Ev_pos (by omega) (Ev_pos (by omega) (Ev_pos (by omega) (Ev_pos (by rw [ofF_len]; omega) ?_))))
    rw [wrap_le (i := (pre.length : Int)) (by omega) (by omega)]
    rw [ofF_congr (g := fun v => g v + if (v : Int) ∈ pre ++ [(w : Int)] then -1 else 0) (fun v hv => ?_)]
    · simpa using key
    · by_cases e : v = w
      · subst e; simp; omega
      · rw [if_neg e]
        have : (v : Int) ≠ w := by omega
        simp [this]

theorem order_l2 {n : Nat} {E : Nat → Nat → Bool} (hE : ∀ v w, E v w = true → v < n ∧ w < n) (hn : n ≤ 256) : ∀ (d : Nat) (o : List Int), o.length + d = n → Inv n E o →
    Ev (fun k => graph_Order.l2 k n (rows n E) (ofF n (wt n E o)) o) (topo n E d o) := by
  intro d
  induction d with
  | zero =>
    intro o hl hi
    refine Ev_unroll ?_
    simp only [graph_Order.l2]
    exact Ev_neg (by omega) (Ev.now _)
  | succ d ih =>
    intro o hl hi
    have hix := index_run (ofF n (wt n E o)) 0 (by rw [ofF_len]; omega)
    refine Ev_unroll ?_
    simp only [graph_Order.l2]
    refine Ev_pos (by omega) (Ev.bind hix ?_)
    rcases atI_ofF n (wt n E o) with ⟨h1, h2⟩ | ⟨v, hv, hf, _, h1, h2⟩
    · rw [h2]
      have : topo n E (d + 1) o = ([], false) := by simp only [topo, free?, h1]
      rw [this]
      exact Ev_pos (by omega) (Ev.now _)
    · rw [h2]
      have : topo n E (d + 1) o = topo n E d (o ++ [(v : Int)]) := by simp only [topo, free?, h1]
      rw [this]
      refine Ev_neg (by omega) (Ev_pos (by omega) (Ev_pos (by rw [ofF_len]; omega) (Ev_pos (by omega) (Ev_pos (by rw [rows_len]; omega) ?_))))
      rw [rd_rows (by omega) (by omega), Int.toNat_natCast, ofF_set]
      have key := ih (o ++ [(v : Int)]) (by simp; omega) (hi.snoc hE hv hf)
      have := order_l3 (E := E) hn (rows n E) (o ++ [(v : Int)]) (fun w => if w = v then -1 else wt n E o w) (fun w => by have := wt_bound n E o w; split <;> omega) v (topo n E d (o ++ [(v : Int)])) (by
        rw [ofF_congr (fun x hx => wt_snoc hE hi hv hf hx)]
        exact key) (rowOf n E v) [] rfl
      simpa using this

theorem order_run {n : Nat} {l : List S31} (h : graph_Right.f n l = some true) : Ev (fun k => graph_Order.f k n l) (topo n (arcB l) n []) := by
  obtain ⟨_, hn, hll, _⟩ := right_of h
  have hE := arcs_in h
  have key := order_l2 hE (by omega) n [] (by simp) (Inv.nil _ _)
  have h0 := order_l0 (n := n) (E := arcB l) (by omega) (topo n (arcB l) n []) (by
    rw [ofF_congr (g := wt n (arcB l) []) (fun v hv => by simp [wt, ctr])]
    exact key) n 0 (by omega)
  unfold graph_Order.f
  refine Ev_eq h (Ev_pos rfl (Ev_eq (links_rows h) (Ev_pos (by omega) (Ev_pos (by omega) ?_))))
  rw [Int.toNat_natCast, ofF_zero]
  exact h0
theorem order_none {n : Int} {l : List S31} (h : graph_Right.f n l = some false) : Ev (fun k => graph_Order.f k n l) ([], false) := by
  unfold graph_Order.f
  exact Ev_eq h (Ev_neg (by simp) (Ev.now _))
end Go.Proofs.Ytibnodjlcaodeaa.G

/-
  graph.Loop: a cycle through the least node that lies on one.
-/
namespace Go.Proofs.Ytibnodjlcaodeaa.G
open Go.RowKit Go.Proofs.YtibnodjlcaodeaaW.PrintWords Go.Proofs.YtibnodjlcaodeaaW.PrintLast Go.Proofs.YtibnodjlcaodeaaW.PrintMore
set_option linter.unusedVariables false
set_option linter.unusedSimpArgs false

def NoCycleAt (E : Nat → Nat → Bool) (v : Nat) : Prop := ∀ w k, E v w = true → ¬ Wk E k w v
/-- w is the nearest of some nodes, and the least of those. -/
structure Best (D : List Int) (p : Int → Prop) (w : Nat) : Prop where
  mem : p w
  ok : 0 ≤ rd D w
  min : ∀ x, p x → 0 ≤ rd D x → rd D w ≤ rd D x
  least : ∀ x, p x → rd D x = rd D w → (w : Int) ≤ x
structure CycleAt (n : Nat) (E : Nat → Nat → Bool) (v : Nat) (D : List Int) (w : Nat) (t : List Int) (c : List Int) : Prop where
  tos : ToSpec n E v D
  arc : w < n ∧ E v w = true
  best : Best D (fun x => x ∈ rowOf n E v) w
  walk : Greedy n E D (rd D w).toNat w t
  eq : c = (v : Int) :: ((w : Int) :: t).dropLast
def LoopRes (n : Nat) (E : Nat → Nat → Bool) (c : List Int) : Prop :=
  (c = [] ∧ ∀ v, v < n → NoCycleAt E v) ∨ ∃ v D w t, v < n ∧ (∀ u, u < v → NoCycleAt E u) ∧ CycleAt n E v D w t c

theorem Best.unique {D : List Int} {p : Int → Prop} {w w' : Nat} (h : Best D p w) (h' : Best D p w') : w = w' := by
  have a := h.min w' h'.mem h'.ok
  have b := h'.min w h.mem h.ok
  have e : rd D w = rd D w' := by omega
  have c := h.least w' h'.mem e.symm
  have d := h'.least w h.mem e
  omega
theorem CycleAt.unique {n : Nat} {E : Nat → Nat → Bool} {v : Nat} {D D' : List Int} {w w' : Nat} {t t' c c' : List Int} (h : CycleAt n E v D w t c) (h' : CycleAt n E v D' w' t' c') : c = c' := by
  obtain rfl : D = D' := h.tos.unique h'.tos
  obtain rfl := h.best.unique h'.best
  rw [h.eq, h'.eq, h.walk.unique h'.walk]
theorem CycleAt.is {n : Nat} {E : Nat → Nat → Bool} {v : Nat} {D : List Int} {w : Nat} {t c : List Int} (h : CycleAt n E v D w t c) : ¬ NoCycleAt E v := by
  intro hn
  rcases FarSpec.each h.tos w h.arc.1 with ⟨h1, _⟩ | ⟨k, h1, h2, h3⟩
  · have := h.best.ok; omega
  · exact hn w k h.arc.2 (Wk_flip.1 h3.1)
theorem LoopRes.unique {n : Nat} {E : Nat → Nat → Bool} {c c' : List Int} (h : LoopRes n E c) (h' : LoopRes n E c') : c = c' := by
  rcases h with ⟨rfl, h⟩ | ⟨v, D, w, t, hv, hu, hc⟩ <;> rcases h' with ⟨rfl, h'⟩ | ⟨v', D', w', t', hv', hu', hc'⟩
  · rfl
  · exact absurd (h v' hv') hc'.is
  · exact absurd (h' v hv) hc.is
  · rcases Nat.lt_trichotomy v v' with hlt | rfl | hlt
    · exact absurd (hu' v hlt) hc.is
    · exact hc.unique hc'
    · exact absurd (hu v' hlt) hc'.is

theorem noCycle_iff {n : Nat} {E : Nat → Nat → Bool} (hE : ∀ v w, E v w = true → v < n ∧ w < n) {v : Nat} {D : List Int} (h : ToSpec n E v D) (hn : ∀ x ∈ rowOf n E v, rd D x < 0) : NoCycleAt E v := by
  intro w k he hk
  have hw := (hE v w he).2
  have := hn w (rowOf_mem.2 ⟨w, rfl, hw, he⟩)
  rcases FarSpec.each h w hw with ⟨_, h2⟩ | ⟨j, h1, _⟩
  · exact h2 k hk.flip
  · omega

theorem loop_l1 {n : Nat} {E : Nat → Nat → Bool} (hn : n ≤ 256) {v : Nat} {D : List Int} (hl : D.length = n) (X Y : List (List Int)) (r : List Int)
    (fin : ∀ best : Int, (best = -1 ∧ ∀ x ∈ rowOf n E v, rd D x < 0) ∨ (∃ w : Nat, best = w ∧ Best D (fun x => x ∈ rowOf n E v) w) →
      Ev (fun k => graph_Loop.l1 k n X Y v D best n v (rowOf n E v) ((rowOf n E v).length : Int) ((rowOf n E v).length : Int)) r) :
    ∀ (rest pre : List Int) (best : Int), rowOf n E v = pre ++ rest → ((best = -1 ∧ ∀ x ∈ pre, rd D x < 0) ∨ (∃ w : Nat, best = w ∧ w < n ∧ Best D (fun x => x ∈ pre) w)) →
      Ev (fun k => graph_Loop.l1 k n X Y v D best n v (rowOf n E v) ((rowOf n E v).length : Int) (pre.length : Int)) r := by
  intro rest
  induction rest with
  | nil =>
    intro pre best h hb
    rw [List.append_nil] at h
    have := fin best (hb.imp (fun h2 => by rw [h]; exact h2) (fun ⟨w, h1, _, h2⟩ => ⟨w, h1, by rw [h]; exact h2⟩))
    rw [← h]
    exact this
  | cons x rest ih =>
    intro pre best h hb
    obtain ⟨w, rfl, hw, he⟩ := rowOf_mem.1 (show x ∈ rowOf n E v by rw [h]; simp)
    have hlen : (rowOf n E v).length = pre.length + (rest.length + 1) := by rw [h]; simp
    have hrl := rowOf_len n E v
    have hrd : rd (rowOf n E v) (pre.length : Int) = w := by rw [h]; exact rd_mid pre rest w
    have hsort : (rowOf n E v).Pairwise (· < ·) := by
      unfold rowOf
      rw [List.pairwise_map]
      exact (List.pairwise_lt_range.filter _).imp (fun h => by omega)
    have hless : ∀ y ∈ pre, y < (w : Int) := by
      rw [h] at hsort
      exact fun y hy => (List.pairwise_append.1 hsort).2.2 y hy w (by simp)
    have hi : wrap64 ((pre.length : Int) + 1) = ((pre ++ [(w : Int)]).length : Int) := by rw [wrap_le (by omega) (by omega)]; simp
    have go := fun best => ih (pre ++ [(w : Int)]) best (by rw [h]; simp)
    refine Ev_unroll ?_
    simp only [graph_Loop.l1, hrd, hi]
    refine Ev_pos (by omega) (Ev_pos (by omega) (Ev_pos (by omega) (Ev_pos (by omega) (Ev_pos (by omega) ?_))))
    by_cases h0 : rd D w ≥ 0
    · refine Ev_pos h0 ?_
      rcases hb with ⟨rfl, hb⟩ | ⟨u, rfl, hu, hb⟩
      · refine Ev_pos (by omega) (go _ (.inr ⟨w, rfl, hw, by simp, h0, fun y hy hy0 => ?_, fun y hy hye => ?_⟩))
        · rcases List.mem_append.1 hy with hy | hy
          · have := hb y hy; omega
          · rw [List.mem_singleton.1 hy]; exact Int.le_refl _
        · rcases List.mem_append.1 hy with hy | hy
          · have := hb y hy; omega
          · rw [List.mem_singleton.1 hy]; exact Int.le_refl _
      · refine Ev_neg (by omega) (Ev_pos (by omega) (Ev_pos (by omega) ?_))
        by_cases hlt : rd D w < rd D u
        · refine Ev_pos hlt (go _ (.inr ⟨w, rfl, hw, by simp, h0, fun y hy hy0 => ?_, fun y hy hye => ?_⟩))
          · rcases List.mem_append.1 hy with hy | hy
            · have := hb.min y hy hy0; omega
            · rw [List.mem_singleton.1 hy]; exact Int.le_refl _
          · rcases List.mem_append.1 hy with hy | hy
            · have := hb.min y hy (by omega); omega
            · rw [List.mem_singleton.1 hy]; exact Int.le_refl _
        · refine Ev_neg hlt (go _ (.inr ⟨u, rfl, hu, by simp [hb.mem], hb.ok, fun y hy hy0 => ?_, fun y hy hye => ?_⟩))
          · rcases List.mem_append.1 hy with hy | hy
            · exact hb.min y hy hy0
            · rw [List.mem_singleton.1 hy]; omega
          · rcases List.mem_append.1 hy with hy | hy
            · exact hb.least y hy hye
            · rw [List.mem_singleton.1 hy]; exact Int.le_of_lt (hless _ hb.mem)
    · refine Ev_neg h0 (go _ ?_)
      rcases hb with ⟨rfl, hb⟩ | ⟨u, rfl, hu, hb⟩
      · refine .inl ⟨rfl, fun y hy => ?_⟩
        rcases List.mem_append.1 hy with hy | hy
        · exact hb y hy
        · rw [List.mem_singleton.1 hy]; omega
      · refine .inr ⟨u, rfl, hu, by simp [hb.mem], hb.ok, fun y hy hy0 => ?_, fun y hy hye => ?_⟩
        · rcases List.mem_append.1 hy with hy | hy
          · exact hb.min y hy hy0
          · rw [List.mem_singleton.1 hy] at hy0; omega
        · rcases List.mem_append.1 hy with hy | hy
          · exact hb.least y hy hye
          · rw [List.mem_singleton.1 hy]; exact Int.le_of_lt (hless _ hb.mem)

theorem loop_l0 {n : Nat} {E : Nat → Nat → Bool} (hE : ∀ v w, E v w = true → v < n ∧ w < n) (hn : n ≤ 256) : ∀ (d i : Nat), i + d = n → (∀ u, u < i → NoCycleAt E u) →
    ∃ c, LoopRes n E c ∧ Ev (fun k => graph_Loop.l0 k n (rows n E) (rows n (flip E)) n i) c := by
  intro d
  induction d with
  | zero =>
    intro i hi hu
    obtain rfl : i = n := by omega
    refine ⟨[], .inl ⟨rfl, hu⟩, Ev_unroll ?_⟩
    simp only [graph_Loop.l0]
    exact Ev_neg (by omega) (Ev.now _)
  | succ d ih =>
    intro i hi hu
    have hin : i < n := by omega
    obtain ⟨D, hD, hev⟩ := to_run hE hn hin
    have hl := FarSpec.len hD
    have hrl := rowOf_len n E i
    have start : ∀ r, (∀ best : Int, (best = -1 ∧ ∀ x ∈ rowOf n E i, rd D x < 0) ∨ (∃ w : Nat, best = w ∧ Best D (fun x => x ∈ rowOf n E i) w) →
      Ev (fun k => graph_Loop.l1 k n (rows n E) (rows n (flip E)) i D best n i (rowOf n E i) ((rowOf n E i).length : Int) ((rowOf n E i).length : Int)) r) → Ev (fun k => graph_Loop.l0 k n (rows n E) (rows n (flip E)) n i) r := fun r fin => by
      refine Ev_unroll ?_
      simp only [graph_Loop.l0]
      refine Ev_pos (by omega) (Ev.bind hev (Ev_pos (by omega) (Ev_pos (by rw [rows_len]; omega) ?_)))
      rw [rd_rows (by omega) (by omega), Int.toNat_natCast]
      exact loop_l1 hn hl _ _ r fin (rowOf n E i) [] (-1) rfl (.inl ⟨rfl, by simp⟩)
    by_cases hno : ∀ x ∈ rowOf n E i, rd D x < 0
    · obtain ⟨c, hc, hcev⟩ := ih (i + 1) (by omega) (fun u hui => by
        rcases Nat.lt_or_ge u i with h | h
        · exact hu u h
        · obtain rfl : u = i := by omega
          exact noCycle_iff hE hD hno)
      refine ⟨c, hc, start c (fun best hb => ?_)⟩
      rcases hb with ⟨rfl, _⟩ | ⟨w, rfl, hb⟩
      · refine Ev_unroll ?_
        simp only [graph_Loop.l1]
        refine Ev_neg (by omega) (Ev_neg (by omega) (Ev_neg (by omega) ?_))
        rw [wrap_le (by omega) (by omega)]
        exact hcev
      · have := hno _ hb.mem
        have := hb.ok
        omega
    · have hw : ∃ w : Nat, Best D (fun x => x ∈ rowOf n E i) w := by
        refine Classical.byContradiction fun hc => hno ?_
        refine Classical.byContradiction fun hno' => ?_
        have key : ∀ (rest pre : List Int), rowOf n E i = pre ++ rest → (∃ w : Nat, Best D (fun x => x ∈ pre) w) ∨ ∀ x ∈ pre, rd D x < 0 := by
          intro rest
          have main : ∀ (xs : List Int), (∀ x ∈ xs, ∃ w : Nat, x = w) → (∃ w : Nat, Best D (fun x => x ∈ xs) w) ∨ ∀ x ∈ xs, rd D x < 0 := by
            intro xs
            induction xs with
            | nil => intro _; exact .inr (by simp)
            | cons y ys ih2 =>
              intro hx
              obtain ⟨w, rfl⟩ := hx y (by simp)
              rcases ih2 (fun x h => hx x (by simp [h])) with ⟨u, hu⟩ | hall
              · by_cases hb : 0 ≤ rd D w ∧ (rd D w < rd D u ∨ rd D w = rd D u ∧ w ≤ u)
                · refine .inl ⟨w, by simp, hb.1, fun x hx h0 => ?_, fun x hx h0 => ?_⟩
                  · rcases List.mem_cons.1 hx with rfl | hx
                    · exact Int.le_refl _
                    · have := hu.min x hx h0; omega
                  · rcases List.mem_cons.1 hx with rfl | hx
                    · exact Int.le_refl _
                    · have := hu.min x hx (by omega)
                      have := hu.least x hx
                      omega
                · refine .inl ⟨u, by simp [hu.mem], hu.ok, fun x hx h0 => ?_, fun x hx h0 => ?_⟩
                  · rcases List.mem_cons.1 hx with rfl | hx
                    · omega
                    · exact hu.min x hx h0
                  · rcases List.mem_cons.1 hx with rfl | hx
                    · have := hu.ok; omega
                    · exact hu.least x hx h0
              · by_cases h0 : 0 ≤ rd D w
                · refine .inl ⟨w, by simp, h0, fun x hx h1 => ?_, fun x hx h1 => ?_⟩
                  · rcases List.mem_cons.1 hx with rfl | hx
                    · exact Int.le_refl _
                    · have := hall x hx; omega
                  · rcases List.mem_cons.1 hx with rfl | hx
                    · exact Int.le_refl _
                    · have := hall x hx; omega
                · refine .inr (fun x hx => ?_)
                  rcases List.mem_cons.1 hx with rfl | hx
                  · omega
                  · exact hall x hx
          intro pre hp
          exact main pre (fun x hx => by
            obtain ⟨w, e, _⟩ := rowOf_mem.1 (show x ∈ rowOf n E i by rw [hp]; simp [hx])
            exact ⟨w, e⟩)
        rcases key [] (rowOf n E i) (by simp) with h | h
        · exact hc h
        · exact hno h
      obtain ⟨w, hb⟩ := hw
      obtain ⟨w', e, hwn, hwe⟩ := rowOf_mem.1 hb.mem
      obtain rfl : w = w' := by omega
      have hok := hb.ok
      obtain ⟨t, ht, hwev⟩ := walk_run hE hn hD (rd D w).toNat w [(w : Int)] hwn (by omega) (by have := FarSpec.low hD hwn; simp; omega)
      have htl := ht.len.1
      have hlow := FarSpec.low hD hwn
      refine ⟨(i : Int) :: ((w : Int) :: t).dropLast, .inr ⟨i, D, w, t, hin, hu, hD, ⟨hwn, hwe⟩, hb, ht, rfl⟩, start _ (fun best hb' => ?_)⟩
      rcases hb' with ⟨_, hno'⟩ | ⟨w', rfl, hb'⟩
      · exact absurd hno' hno
      · obtain rfl := hb.unique hb'
        refine Ev_unroll ?_
        simp only [graph_Loop.l1]
        refine Ev_neg (by omega) ?_
        by_cases e : w = i
        · subst e
          have h0 := FarSpec.src hD hin
          have : t = [] := List.eq_nil_of_length_eq_zero (by omega)
          subst this
          exact Ev_pos rfl (Ev.now _)
        · refine Ev_neg (by omega) (Ev_pos (by omega) (Ev.bind hwev (Ev_some ?_)))
          have hsz : (([(w : Int)] ++ t).length : Int) = t.length + 1 := by simp
          have hwr : wrap64 ((([(w : Int)] ++ t).length : Int) - 1) = (t.length : Int) := by rw [hsz, wrap_less (by omega) (by omega)]; omega
          rw [hwr, hsz]
          refine Ev_pos (by omega) (Ev_pos (by omega) (Ev_some (Ev_pos ?_ ?_)))
          · simp; omega
          · have : ([(i : Int)] ++ ([(w : Int)] ++ t).take ((t.length : Int)).toNat) = (i : Int) :: ((w : Int) :: t).dropLast := by
              rw [Int.toNat_natCast, List.dropLast_eq_take]; simp
            rw [this]
            exact Ev.now _

theorem loop_run {n : Nat} {l : List S31} (h : graph_Right.f n l = some true) : ∃ c, LoopRes n (arcB l) c ∧ Ev (fun k => graph_Loop.f k n l) c := by
  obtain ⟨_, hn, hll, _⟩ := right_of h
  obtain ⟨c, hc, hev⟩ := loop_l0 (arcs_in h) (by omega) n 0 (by omega) (fun u hu => by omega)
  refine ⟨c, hc, ?_⟩
  unfold graph_Loop.f
  exact Ev_eq h (Ev_pos rfl (Ev_eq (links_rows h) (Ev.bind (turned_run l (by omega)) (Ev_eq (links_rows_turned h) hev))))
theorem loop_none {n : Int} {l : List S31} (h : graph_Right.f n l = some false) : Ev (fun k => graph_Loop.f k n l) [] := by
  unfold graph_Loop.f
  exact Ev_eq h (Ev_neg (by simp) (Ev.now _))
end Go.Proofs.Ytibnodjlcaodeaa.G

/-
  Orders and cycles: an order comes out exactly where there is no cycle; each node in it is the least one that may come next.
-/
namespace Go.Proofs.Ytibnodjlcaodeaa.G
open Go.RowKit Go.Proofs.YtibnodjlcaodeaaW.PrintWords Go.Proofs.YtibnodjlcaodeaaW.PrintLast Go.Proofs.YtibnodjlcaodeaaW.PrintMore
set_option linter.unusedVariables false
set_option linter.unusedSimpArgs false

theorem atI_left {xs ys : List Int} {x : Int} (h : x ∈ xs) : atI (xs ++ ys) x = atI xs x := by
  induction xs with
  | nil => cases h
  | cons y xs ih =>
    by_cases e : y = x
    · simp [atI, e]
    · have hx : x ∈ xs := by
        rcases List.mem_cons.1 h with h | h
        · exact absurd h.symm e
        · exact h
      simp only [List.cons_append, atI, if_neg e, ih hx]

theorem few_inside : ∀ (n : Nat) (o : List Int), o.Nodup → (∀ x ∈ o, ∃ v : Nat, x = v ∧ v < n) → o.length ≤ n
  | 0, o, _, h => by
    match o, h with
    | [], _ => simp
    | x :: xs, h => obtain ⟨v, _, hv⟩ := h x (by simp); omega
  | n + 1, o, hd, h => by
    have h1 := few_inside n (o.erase (n : Int)) (hd.erase _) (fun x hx => by
      have hx' := (hd.mem_erase_iff).1 hx
      obtain ⟨v, e, hv⟩ := h x hx'.2
      exact ⟨v, e, by omega⟩)
    rw [List.length_erase] at h1
    split at h1 <;> omega
theorem many_inside : ∀ (n : Nat) (o : List Int), (∀ v : Nat, v < n → (v : Int) ∈ o) → n ≤ o.length
  | 0, o, _ => by omega
  | n + 1, o, h => by
    have h1 := many_inside n (o.erase (n : Int)) (fun v hv => (List.mem_erase_of_ne (by omega)).2 (h v (by omega)))
    rw [List.length_erase_of_mem (h n (by omega))] at h1
    have := List.length_pos_of_mem (h n (by omega))
    omega
theorem Inv.all {n : Nat} {E : Nat → Nat → Bool} {o : List Int} (h : Inv n E o) (hl : o.length = n) {v : Nat} (hv : v < n) : (v : Int) ∈ o := by
  refine Decidable.byContradiction fun hn => ?_
  have := few_inside n ((v : Int) :: o) (List.nodup_cons.2 ⟨hn, h.nodup⟩) (fun x hx => by
    rcases List.mem_cons.1 hx with rfl | hx
    · exact ⟨v, rfl, hv⟩
    · exact h.mem x hx)
  simp only [List.length_cons] at this
  omega

def Ord (E : Nat → Nat → Bool) (o : List Int) : Prop := ∀ u w : Nat, (w : Int) ∈ o → E u w = true → atI o u < atI o w
def GoodL (n : Nat) (E : Nat → Nat → Bool) (o : List Int) : Prop := ∀ (p : List Int) (y : Int) (s : List Int), o = p ++ y :: s → ∃ v : Nat, y = v ∧ free? n E p = some v

theorem Ord.snoc {n : Nat} {E : Nat → Nat → Bool} (hE : ∀ v w, E v w = true → v < n ∧ w < n) {o : List Int} {v : Nat} (hi : Inv n E o) (h : Ord E o) (hf : wt n E o v = 0) : Ord E (o ++ [(v : Int)]) := by
  obtain ⟨h1, h2⟩ := (wt_free hE).1 hf
  intro u w hw he
  rcases List.mem_append.1 hw with hw | hw
  · have hu := hi.closed w hw u he
    rw [atI_left hu, atI_left hw]
    exact h u w hw he
  · have : w = v := by have := List.mem_singleton.1 hw; omega
    subst this
    have hu := h2 u he
    rw [atI_left hu, atI_app h1 (by simp)]
    have := (atI_lt o u).1
    simp [atI]; omega
theorem GoodL.snoc {n : Nat} {E : Nat → Nat → Bool} {o : List Int} {v : Nat} (h : GoodL n E o) (hf : free? n E o = some v) : GoodL n E (o ++ [(v : Int)]) := by
  intro p y s e
  rcases List.eq_nil_or_concat s with rfl | ⟨s', z, rfl⟩
  · have e2 := List.append_inj' e rfl
    obtain ⟨rfl, e3⟩ := e2
    exact ⟨v, by simpa using e3.symm, hf⟩
  · have e' : o ++ [(v : Int)] = (p ++ y :: s') ++ [z] := by rw [e]; simp
    exact h p y s' (List.append_inj' e' rfl).1

theorem topo_cases {n : Nat} {E : Nat → Nat → Bool} (hE : ∀ v w, E v w = true → v < n ∧ w < n) : ∀ (d : Nat) (o : List Int), o.length + d = n → Inv n E o → Ord E o → GoodL n E o →
    (∃ r, topo n E d o = (r, true) ∧ r.length = n ∧ Inv n E r ∧ Ord E r ∧ GoodL n E r) ∨ (topo n E d o = ([], false) ∧ ∃ o', o'.length < n ∧ free? n E o' = none) := by
  intro d
  induction d with
  | zero => exact fun o hl hi ho hg => .inl ⟨o, rfl, by omega, hi, ho, hg⟩
  | succ d ih =>
    intro o hl hi ho hg
    cases hf : free? n E o with
    | none => exact .inr ⟨by simp only [topo, hf], o, by omega, hf⟩
    | some v =>
      obtain ⟨hv, h0, _⟩ := free_some hf
      have : topo n E (d + 1) o = topo n E d (o ++ [(v : Int)]) := by simp only [topo, hf]
      rw [this]
      exact ih _ (by simp; omega) (hi.snoc hE hv h0) (Ord.snoc hE hi ho h0) (hg.snoc hf)
theorem topo_all {n : Nat} {E : Nat → Nat → Bool} (hE : ∀ v w, E v w = true → v < n ∧ w < n) :
    (∃ r, topo n E n [] = (r, true) ∧ r.length = n ∧ Inv n E r ∧ Ord E r ∧ GoodL n E r) ∨ (topo n E n [] = ([], false) ∧ ∃ o', o'.length < n ∧ free? n E o' = none) :=
  topo_cases hE n [] (by simp) (Inv.nil _ _) (fun u w h => by simp at h) (fun p y s h => by simp at h)
theorem free_none {n : Nat} {E : Nat → Nat → Bool} {o : List Int} (h : free? n E o = none) {v : Nat} (hv : v < n) : wt n E o v ≠ 0 := by
  have := List.find?_eq_none.1 h v (List.mem_range.2 hv)
  simpa using this

theorem Ord.walk {E : Nat → Nat → Bool} {o : List Int} (h : Ord E o) (hall : ∀ a b : Nat, E a b = true → (b : Int) ∈ o) : ∀ {k a b : Nat}, Wk E k a b → atI o a ≤ atI o b
  | 0, a, b, e => by obtain rfl : a = b := e; exact Int.le_refl _
  | k + 1, a, b, ⟨c, h1, h2⟩ => by
    have := h a c (hall a c h1) h1
    have := Ord.walk h hall h2
    omega
theorem ordered_no_cycle {n : Nat} {E : Nat → Nat → Bool} (hE : ∀ v w, E v w = true → v < n ∧ w < n) {o : List Int} (hi : Inv n E o) (ho : Ord E o) (hl : o.length = n) (v : Nat) : NoCycleAt E v := by
  intro w k he hk
  have hall : ∀ a b : Nat, E a b = true → (b : Int) ∈ o := fun a b h => hi.all hl (hE a b h).2
  have := ho v w (hall v w he) he
  have := ho.walk hall hk
  omega

theorem countP_lt {n w : Nat} {p q : Nat → Bool} (hw : w < n) (hp : p w = false) (hq : q w = true) (h : ∀ v, v < n → p v = true → q v = true) : (List.range n).countP p < (List.range n).countP q := by
  have h1 := countP_one (n := n) (w := w) (p := q) (q := fun v => q v && decide (v ≠ w)) hw hq (by simp) (fun v _ hne => by simp [hne])
  have h2 : (List.range n).countP p ≤ (List.range n).countP (fun v => q v && decide (v ≠ w)) := List.countP_mono_left (fun v hv hpv => by
    have hne : v ≠ w := by rintro rfl; rw [hp] at hpv; cases hpv
    simp [h v (List.mem_range.1 hv) hpv, hne])
  omega

open Classical in
theorem stuck_cycle {n : Nat} {E : Nat → Nat → Bool} (hE : ∀ v w, E v w = true → v < n ∧ w < n) {o : List Int} (hl : o.length < n) (hf : free? n E o = none) : ¬ ∀ v, v < n → NoCycleAt E v := by
  intro hno
  have key : ∀ m v, v < n → (v : Int) ∉ o → (List.range n).countP (fun u => decide (∃ k, Wk E (k + 1) u v)) = m → False := by
    intro m
    induction m using Nat.strongRecOn with
    | _ m ih =>
      intro v hv hvo hm
      have hne := free_none hf hv
      rw [ne_eq, wt_free hE] at hne
      have : ∃ u, E u v = true ∧ (u : Int) ∉ o := Classical.byContradiction fun hc => hne ⟨hvo, fun u hu => Classical.byContradiction fun hn => hc ⟨u, hu, hn⟩⟩
      obtain ⟨u, hu, huo⟩ := this
      have hun := (hE u v hu).1
      refine ih _ ?_ u hun huo rfl
      rw [← hm]
      refine countP_lt hun ?_ ?_ (fun x _ hx => ?_)
      · refine decide_eq_false ?_
        rintro ⟨k, c, h1, h2⟩
        exact hno u hun c k h1 h2
      · exact decide_eq_true ⟨0, v, hu, rfl⟩
      · obtain ⟨k, hk⟩ := of_decide_eq_true hx
        exact decide_eq_true ⟨k + 1, hk.snoc hu⟩
  have : ∃ v, v < n ∧ (v : Int) ∉ o := Classical.byContradiction fun hc => by
    have := many_inside n o (fun v hv => Classical.byContradiction fun hn => hc ⟨v, hv, hn⟩)
    omega
  obtain ⟨v, hv, hvo⟩ := this
  exact key _ v hv hvo rfl

theorem Greedy.get {n : Nat} {E : Nat → Nat → Bool} {D : List Int} {d v : Nat} {t : List Int} (h : Greedy n E D d v t) (hv : v < n) : ∀ i, i ≤ d → ∃ u : Nat, ((v : Int) :: t)[i]? = some (u : Int) ∧ u < n ∧ rd D u + i = d := by
  induction h with
  | nil v h0 =>
    intro i hi
    obtain rfl : i = 0 := by omega
    exact ⟨v, rfl, hv, by omega⟩
  | @cons d v w t h1 h2 h3 h4 h5 h6 ih =>
    intro i hi
    cases i with
    | zero => exact ⟨v, rfl, hv, by omega⟩
    | succ i =>
      obtain ⟨u, e, hu, hd⟩ := ih h2 i (by omega)
      exact ⟨u, by simpa using e, hu, by omega⟩
theorem Greedy.arc {n : Nat} {E : Nat → Nat → Bool} {D : List Int} {d v : Nat} {t : List Int} (h : Greedy n E D d v t) : ∀ i, i < d → ∃ u w : Nat, ((v : Int) :: t)[i]? = some (u : Int) ∧ ((v : Int) :: t)[i + 1]? = some (w : Int) ∧ E u w = true := by
  induction h with
  | nil v h0 => intro i hi; omega
  | @cons d v w t h1 h2 h3 h4 h5 h6 ih =>
    intro i hi
    cases i with
    | zero => exact ⟨v, w, rfl, rfl, h3⟩
    | succ i =>
      obtain ⟨u, x, e1, e2, e3⟩ := ih i (by omega)
      exact ⟨u, x, by simpa using e1, by simpa using e2, e3⟩
end Go.Proofs.Ytibnodjlcaodeaa.G

/-
  The reference: Right, Steps (the shortest ways by repeating), Path, Up, Down.
-/
namespace Go.Proofs.Ytibnodjlcaodeaa.G
open Go.RowKit Go.Proofs.YtibnodjlcaodeaaW.PrintWords Go.Proofs.YtibnodjlcaodeaaW.PrintLast Go.Proofs.YtibnodjlcaodeaaW.PrintMore
set_option linter.unusedVariables false
set_option linter.unusedSimpArgs false

theorem ref_right_l0 {n : Int} (l : List S31) (hb : l.length < 1000000000) : ∀ (d : Nat) (pre ys : List S31), l = pre ++ ys → ys.length = d → Ev (fun k => bourneref11_Right.l0 k n l (pre.length : Int)) (ys.all (arcIn n)) := by
  intro d
  induction d with
  | zero =>
    intro pre ys h hd
    obtain rfl := List.eq_nil_of_length_eq_zero hd
    rw [List.append_nil] at h
    subst h
    refine Ev_unroll ?_
    simp only [bourneref11_Right.l0]
    exact Ev_neg (by omega) (Ev.now _)
  | succ d ih =>
    intro pre ys h hd
    match ys, hd with
    | y :: ys, hd =>
      have hl : l.length = pre.length + (ys.length + 1) := by rw [h]; simp
      have hr : rd_T31 l (pre.length : Int) = y := by rw [h]; exact rd_T31_mid _ _ _
      have key := ih (pre ++ [y]) ys (by rw [h]; simp) (by simpa using hd)
      have hlen : ((pre ++ [y]).length : Int) = (pre.length : Int) + 1 := by simp
      rw [hlen] at key
      refine Ev_unroll ?_
      simp only [bourneref11_Right.l0, hr]
      rw [wrap_le (by omega) (by omega)]
      refine Ev_pos (by omega) (Ev_pos (by omega) ?_)
      have hall : ∀ b : Bool, arcIn n y = b → (y :: ys).all (arcIn n) = (b && ys.all (arcIn n)) := fun b hb' => by rw [List.all_cons, hb']
      by_cases h1 : y.f0 < 0
      · rw [hall false (by simp [arcIn, nodeIn]; omega)]; exact Ev_pos h1 (Ev.now _)
      refine Ev_neg h1 ?_
      by_cases h2 : y.f0 ≥ n
      · rw [hall false (by simp [arcIn, nodeIn]; omega)]; exact Ev_pos h2 (Ev.now _)
      refine Ev_neg h2 ?_
      by_cases h3 : y.f1 < 0
      · rw [hall false (by simp [arcIn, nodeIn]; omega)]; exact Ev_pos h3 (Ev.now _)
      refine Ev_neg h3 ?_
      by_cases h4 : y.f1 ≥ n
      · rw [hall false (by simp [arcIn, nodeIn]; omega)]; exact Ev_pos h4 (Ev.now _)
      refine Ev_neg h4 ?_
      rw [hall true (by simp [arcIn, nodeIn]; omega), Bool.true_and]
      exact key
theorem ref_right {n : Int} {l : List S31} : ∃ b, graph_Right.f n l = some b ∧ Ev (fun k => bourneref11_Right.f k n l) b := by
  refine ⟨_, rfl, ?_⟩
  have jt : Ev (fun k => bourneref11_Right.j0 k n l true) false := by
    refine Ev_unroll ?_
    simp only [bourneref11_Right.j0]
    exact Ev_pos (by simp) (Ev.now _)
  unfold bourneref11_Right.f
  by_cases h1 : n < 0
  · rw [show decide (0 ≤ n) = false by simp; omega, Bool.false_and, Bool.false_and, Bool.false_and]; exact Ev_pos h1 jt
  refine Ev_neg h1 ?_
  by_cases h2 : n > 256
  · rw [show decide (n ≤ 256) = false by simp; omega, Bool.and_false, Bool.false_and, Bool.false_and]; exact Ev_pos h2 jt
  refine Ev_neg h2 ?_
  by_cases h3 : (l.length : Int) > 4096
  · rw [show decide (l.length ≤ 4096) = false by simp; omega, Bool.and_false, Bool.false_and, decide_eq_true h3]; exact jt
  · rw [show decide (0 ≤ n) = true by simp; omega, show decide (n ≤ 256) = true by simp; omega, show decide (l.length ≤ 4096) = true by simp; omega, Bool.true_and, Bool.true_and, Bool.true_and, decide_eq_false h3]
    refine Ev_unroll ?_
    simp only [bourneref11_Right.j0]
    exact Ev_neg (by simp) (ref_right_l0 l (by omega) _ [] l rfl rfl)
theorem ref_right_of {n : Int} {l : List S31} {b : Bool} (h : graph_Right.f n l = some b) : Ev (fun k => bourneref11_Right.f k n l) b := by
  obtain ⟨b', h', hev⟩ := ref_right (n := n) (l := l)
  rw [h] at h'
  obtain rfl := Option.some.inj h'
  exact hev

/-! Steps -/
def wgt (D : List Int) (v : Nat) : Nat := if rd D (v : Int) < 0 then 1000 else (rd D (v : Int)).toNat
def tot (n : Nat) (D : List Int) : Nat := ((List.range n).map (wgt D)).sum
theorem sum_lt {n v : Nat} {f g : Nat → Nat} (hv : v < n) (h : f v < g v) (ho : ∀ u, u < n → u ≠ v → f u = g u) : ((List.range n).map f).sum < ((List.range n).map g).sum := by
  induction n with
  | zero => omega
  | succ n ih =>
    rw [List.range_succ, List.map_append, List.map_append, List.sum_append, List.sum_append]
    simp only [List.map_cons, List.map_nil, List.sum_cons, List.sum_nil]
    rcases Nat.lt_or_ge v n with h1 | h1
    · have := ih h1 (fun u hu hne => ho u (by omega) hne)
      have := ho n (by omega) (by omega)
      omega
    · have : v = n := by omega
      subst this
      have e : (List.range v).map f = (List.range v).map g := List.map_congr_left (fun u hu => ho u (by have := List.mem_range.1 hu; omega) (by have := List.mem_range.1 hu; omega))
      rw [e]
      omega

structure SInv (n : Nat) (E : Nat → Nat → Bool) (b : Nat) (D : List Int) : Prop where
  len : D.length = n
  src : rd D b = 0
  walk : ∀ v : Nat, v < n → 0 ≤ rd D v → Wk E (rd D v).toNat v b
  neg : ∀ v : Nat, v < n → rd D v < 0 → rd D v = -1
  bnd : ∀ v : Nat, v < n → rd D v + (un n D : Nat) + 1 ≤ n

def stable (D : List Int) (x : S31) : Prop := 0 ≤ rd D x.f1 → 0 ≤ rd D x.f0 ∧ rd D x.f0 ≤ rd D x.f1 + 1

theorem SInv.set {n : Nat} {E : Nat → Nat → Bool} {b v w : Nat} {D : List Int} (h : SInv n E b D) (hv : v < n) (hw : w < n) (he : E v w = true) (h0 : 0 ≤ rd D w) (hlt : rd D v < 0 ∨ rd D w + 1 < rd D v) (hn : n ≤ 256) : SInv n E b (D.set v (rd D w + 1)) ∧ tot n (D.set v (rd D w + 1)) < tot n D := by
  have hl := h.len
  have hs : rd (D.set v (rd D w + 1)) v = rd D w + 1 := by
    have := rd_set_same (D := D) (i := (v : Int)) (x := rd D w + 1) (by omega) (by omega)
    rwa [Int.toNat_natCast] at this
  have ho : ∀ u : Nat, u ≠ v → rd (D.set v (rd D w + 1)) u = rd D u := fun u hne => by
    have := rd_set_other (D := D) (i := (v : Int)) (j := (u : Int)) (x := rd D w + 1) (by omega) (by omega) (by omega)
    rwa [Int.toNat_natCast] at this
  have hbw := h.bnd w hw
  have hbv := h.bnd v hv
  refine ⟨⟨by simp [hl], ?_, fun u hu hp => ?_, fun u hu hp => ?_, fun u hu => ?_⟩, ?_⟩
  · rw [ho b (by rintro rfl; have := h.src; omega)]
    exact h.src
  · by_cases e : u = v
    · subst e
      rw [hs, show (rd D w + 1).toNat = (rd D w).toNat + 1 by omega]
      exact ⟨w, he, h.walk w hw h0⟩
    · rw [ho u e] at hp ⊢
      exact h.walk u hu hp
  · by_cases e : u = v
    · subst e; rw [hs] at hp; omega
    · rw [ho u e] at hp ⊢; exact h.neg u hu hp
  · rcases hlt with hlt | hlt
    · have hun := un_set (c := rd D w + 1) hl hv hlt (by omega)
      by_cases e : u = v
      · subst e; rw [hs]; omega
      · rw [ho u e]; have := h.bnd u hu; omega
    · have hun : un n (D.set v (rd D w + 1)) = un n D := by
        unfold un
        refine List.countP_congr (fun u hu => ?_)
        by_cases e : u = v
        · subst e
          rw [hs]
          simp only [decide_eq_true_eq]
          omega
        · rw [ho u e]
      rw [hun]
      by_cases e : u = v
      · subst e; rw [hs]; omega
      · rw [ho u e]; exact h.bnd u hu
  · refine sum_lt hv ?_ (fun u _ hne => ?_)
    · unfold wgt
      rw [hs, if_neg (by omega)]
      rcases hlt with hlt | hlt
      · rw [if_pos hlt]
        have := hbw; omega
      · rw [if_neg (by omega)]; omega
    · unfold wgt
      rw [ho u hne]
theorem SInv.spec {n : Nat} {l : List S31} {b : Nat} {D : List Int} (hr : graph_Right.f n l = some true) (hb : b < n) (h : SInv n (arcB l) b D) (hs : ∀ x ∈ l, stable D x) : ToSpec n (arcB l) b D := by
  have key : ∀ k (v : Nat), v < n → Wk (arcB l) k v b → 0 ≤ rd D v ∧ rd D v ≤ k := by
    intro k
    induction k with
    | zero => intro v hv hw; obtain rfl : v = b := hw; rw [h.src]; exact ⟨Int.le_refl _, Int.le_refl _⟩
    | succ k ih =>
      rintro v hv ⟨w, he, hk⟩
      have hw := (arcs_in hr v w he).2
      obtain ⟨h1, h2⟩ := ih w hw hk
      unfold arcB at he
      simp only [List.any_eq_true, Bool.and_eq_true, decide_eq_true_eq] at he
      obtain ⟨x, hx, e1, e2⟩ := he
      have := hs x hx
      unfold stable at this
      rw [e1, e2] at this
      have := this h1
      omega
  refine ⟨h.len, fun v hv => ?_⟩
  by_cases h0 : 0 ≤ rd D v
  · refine .inr ⟨(rd D v).toNat, by omega, ?_, Wk_flip.2 (h.walk v hv h0), fun j hj => ?_⟩
    · have := h.bnd v hv; omega
    · have := key j v hv (Wk_flip.1 hj); omega
  · refine .inl ⟨h.neg v hv (by omega), fun k hk => ?_⟩
    have := key k v hv (Wk_flip.1 hk)
    omega

theorem steps_l2 {n : Nat} {l : List S31} {b : Nat} {D0 : List Int} {P : List Int → Prop} (hr : graph_Right.f n l = some true)
    (next : ∀ D ch, SInv n (arcB l) b D → (ch = true → tot n D < tot n D0) → (ch = false → ∀ x ∈ l, stable D x) → ∃ R, P R ∧ Ev (fun k => bourneref11_Steps.l1 k l D ch) R) : ∀ (d : Nat) (pre ys : List S31) (D : List Int) (ch : Bool), l = pre ++ ys → ys.length = d → SInv n (arcB l) b D → (ch = true → tot n D < tot n D0) → (ch = false → D = D0 ∧ ∀ x ∈ pre, stable D x) →
      ∃ R, P R ∧ Ev (fun k => bourneref11_Steps.l2 k l D ch (pre.length : Int)) R := by
  obtain ⟨_, hn, hll, hin⟩ := right_of hr
  intro d
  induction d with
  | zero =>
    intro pre ys D ch h hd hi h1 h2
    obtain rfl := List.eq_nil_of_length_eq_zero hd
    rw [List.append_nil] at h
    obtain ⟨R, hR, hev⟩ := next D ch hi h1 (fun hc x hx => (h2 hc).2 x (by rw [← h]; exact hx))
    refine ⟨R, hR, Ev_unroll ?_⟩
    simp only [bourneref11_Steps.l2]
    exact Ev_neg (by rw [h]; omega) hev
  | succ d ih =>
    intro pre ys D ch h hd hi h1 h2
    match ys, hd with
    | y :: ys, hd =>
      have hl : l.length = pre.length + (ys.length + 1) := by rw [h]; simp
      have hrd : rd_T31 l (pre.length : Int) = y := by rw [h]; exact rd_T31_mid _ _ _
      have hm : y ∈ l := by rw [h]; simp
      have hy := hin y hm
      have hD := hi.len
      have he : arcB l y.f0.toNat y.f1.toNat = true := by
        unfold arcB
        rw [List.any_eq_true]
        exact ⟨y, hm, by simp only [Bool.and_eq_true, decide_eq_true_eq]; omega⟩
      have e0 : ((y.f0.toNat : Nat) : Int) = y.f0 := by omega
      have e1 : ((y.f1.toNat : Nat) : Int) = y.f1 := by omega
      have hlen : wrap64 ((pre.length : Int) + 1) = ((pre ++ [y]).length : Int) := by rw [wrap_le (by omega) (by omega)]; simp
      have go := fun D ch => ih (pre ++ [y]) ys D ch (by rw [h]; simp) (by simpa using hd)
      have hb1 := hi.bnd y.f1.toNat (by omega)
      rw [e1] at hb1
      have hwr : rd D y.f1 ≥ 0 → wrap64 (rd D y.f1 + 1) = rd D y.f1 + 1 := fun h0 => wrap_le (by omega) (by omega)
      by_cases c1 : rd D y.f1 ≥ 0
      · by_cases c2 : rd D y.f0 < 0 ∨ rd D y.f1 + 1 < rd D y.f0
        · obtain ⟨g1, g2⟩ := hi.set (v := y.f0.toNat) (w := y.f1.toNat) (by omega) (by omega) he (by rw [e1]; exact c1) (by rw [e0, e1]; exact c2) (by omega)
          rw [e1] at g1 g2
          have hlt : tot n (D.set y.f0.toNat (rd D y.f1 + 1)) < tot n D0 := by
            cases ch with
            | true => have := h1 rfl; omega
            | false => rw [(h2 rfl).1] at g2 ⊢; exact g2
          obtain ⟨R, hR, hev⟩ := go _ true g1 (fun _ => hlt) (fun hc => by cases hc)
          refine ⟨R, hR, Ev_unroll ?_⟩
          simp only [bourneref11_Steps.l2, hrd, hlen, hwr c1]
          refine Ev_pos (by omega) (Ev_pos (by omega) (Ev_pos (by omega) (Ev_pos (by omega) (Ev_pos c1 (Ev_pos (by omega) (Ev_pos (by omega) ?_))))))
          by_cases c3 : rd D y.f0 < 0
          · exact Ev_pos c3 hev
          · exact Ev_neg c3 (Ev_pos (by omega) hev)
        · obtain ⟨R, hR, hev⟩ := go D ch hi h1 (fun hc => ⟨(h2 hc).1, fun x hx => by
            rcases List.mem_append.1 hx with hx | hx
            · exact (h2 hc).2 x hx
            · rw [List.mem_singleton.1 hx]; intro _; omega⟩)
          refine ⟨R, hR, Ev_unroll ?_⟩
          simp only [bourneref11_Steps.l2, hrd, hlen, hwr c1]
          refine Ev_pos (by omega) (Ev_pos (by omega) (Ev_pos (by omega) (Ev_pos (by omega) (Ev_pos c1 (Ev_pos (by omega) (Ev_pos (by omega) ?_))))))
          exact Ev_neg (by omega) (Ev_neg (by omega) hev)
      · obtain ⟨R, hR, hev⟩ := go D ch hi h1 (fun hc => ⟨(h2 hc).1, fun x hx => by
          rcases List.mem_append.1 hx with hx | hx
          · exact (h2 hc).2 x hx
          · rw [List.mem_singleton.1 hx]; intro h0; exact absurd h0 c1⟩)
        refine ⟨R, hR, Ev_unroll ?_⟩
        simp only [bourneref11_Steps.l2, hrd, hlen]
        exact Ev_pos (by omega) (Ev_pos (by omega) (Ev_pos (by omega) (Ev_pos (by omega) (Ev_neg c1 hev))))

theorem steps_l1 {n : Nat} {l : List S31} {b : Nat} (hr : graph_Right.f n l = some true) (hb : b < n) : ∀ (m : Nat) (D : List Int), tot n D = m → SInv n (arcB l) b D → ∃ R, ToSpec n (arcB l) b R ∧ Ev (fun k => bourneref11_Steps.l1 k l D true) R := by
  intro m
  induction m using Nat.strongRecOn with
  | _ m ih =>
    intro D hm hi
    obtain ⟨R, hR, hev⟩ := steps_l2 (D0 := D) (P := ToSpec n (arcB l) b) hr (fun D' ch hi' h1 h2 => by
      cases ch with
      | true => exact ih _ (by rw [← hm]; exact h1 rfl) D' rfl hi'
      | false =>
        refine ⟨D', hi'.spec hr hb (h2 rfl), Ev_unroll ?_⟩
        simp only [bourneref11_Steps.l1]
        exact Ev_neg (by simp) (Ev.now _)) l.length [] l D false rfl rfl hi (fun hc => by cases hc) (fun _ => ⟨rfl, fun x hx => by simp at hx⟩)
    refine ⟨R, hR, Ev_unroll ?_⟩
    simp only [bourneref11_Steps.l1]
    exact Ev_pos (by simp) hev

theorem steps_l0 {n : Nat} {l : List S31} {b : Nat} (hn : n ≤ 256) (hb : b < n) (r : List Int) (next : Ev (fun k => bourneref11_Steps.l1 k l ((List.replicate n (-1)).set b 0) true) r) (d : Nat) : ∀ i : Nat, i + d = n →
    Ev (fun k => bourneref11_Steps.l0 k n l b ((List.replicate i (-1)) ++ List.replicate d 0) (i : Int)) r := by
  induction d with
  | zero =>
    intro i hi
    obtain rfl : i = n := by omega
    refine Ev_unroll ?_
    simp only [bourneref11_Steps.l0]
    rw [List.replicate_zero, List.append_nil, Int.toNat_natCast]
    exact Ev_neg (by omega) (Ev_pos (by omega) (Ev_pos (by simp; omega) next))
  | succ d ih =>
    intro i hi
    refine Ev.step (fun k => ?_) (ih (i + 1) (by omega))
    simp only [bourneref11_Steps.l0]
    rw [if_pos (by omega), if_pos (by omega), if_pos (by simp; omega), wrap_le (by omega) (by omega)]
    congr 1
    rw [Int.toNat_natCast]
    apply List.ext_getElem?
    intro j
    rw [List.getElem?_set]
    simp only [List.getElem?_append, List.getElem?_replicate, List.length_replicate, List.length_append]
    split <;> (repeat' split) <;> first | rfl | omega | (simp; done) | (simp at *; omega)

/-- Steps tells the distances. -/
theorem steps_run {n : Nat} {l : List S31} {b : Nat} (hr : graph_Right.f n l = some true) (hb : b < n) : ∃ D, ToSpec n (arcB l) b D ∧ Ev (fun k => bourneref11_Steps.f k n l b) D := by
  obtain ⟨_, hn, hll, _⟩ := right_of hr
  have hrs : ∀ v : Nat, v < n → rd ((List.replicate n (-1)).set b 0) v = if v = b then 0 else -1 := fun v hv => by
    unfold rd
    rw [Int.toNat_natCast, List.getD_eq_getElem?_getD, List.getElem?_set]
    by_cases e : b = v
    · subst e; simp [hv]
    · rw [if_neg e, if_neg (Ne.symm e)]; simp [hv]
  have hun : un n ((List.replicate n (-1)).set b 0) + 1 ≤ n := by
    have h1 : un n (List.replicate n (-1)) ≤ n := by
      unfold un
      exact Nat.le_trans List.countP_le_length (by simp)
    have h2 := un_set (n := n) (D := List.replicate n (-1)) (w := b) (c := 0) (by simp) hb (by unfold rd; simp [hb]) (by omega)
    omega
  have hS : SInv n (arcB l) b ((List.replicate n (-1)).set b 0) :=
    { len := by simp
      src := by rw [hrs b hb]; simp
      walk := fun w hw h0 => by
        rw [hrs w hw] at h0 ⊢
        split at h0
        · rename_i e; subst e; simp; rfl
        · omega
      neg := fun w hw h0 => by
        rw [hrs w hw] at h0 ⊢
        split at h0
        · omega
        · rename_i e; rw [if_neg e]
      bnd := fun w hw => by
        rw [hrs w hw]
        split <;> omega }
  obtain ⟨R, hR, hev⟩ := steps_l1 hr hb _ _ rfl hS
  have h0 := steps_l0 (l := l) (by omega) hb R hev n 0 (by omega)
  refine ⟨R, hR, ?_⟩
  unfold bourneref11_Steps.f
  refine Ev_pos (by omega) (Ev_pos (by omega) ?_)
  simpa using h0

/-! Path -/
theorem ref_path_l1 {n : Nat} {l : List S31} {b a : Nat} {D : List Int} {w d : Nat} {out : List Int} {r : List Int × Bool} (hr : graph_Right.f n l = some true) (hD : D.length = n) (ha : a < n) (hd : rd D a = d + 1) (hd2 : d ≤ 300) (hw : w < n) (he : arcB l a w = true) (hwd : rd D w = d) (hleast : ∀ x : Nat, x < n → arcB l a x = true → rd D x = d → w ≤ x) (ho : out.length < 1000000)
    (next : Ev (fun k => bourneref11_Path.l0 k l (w : Int) b D (out ++ [(w : Int)])) r) : ∀ (m i : Nat), i + m = w → Ev (fun k => bourneref11_Path.l1 k l (a : Int) b D out (i : Int)) r := by
  obtain ⟨_, hn, hll, _⟩ := right_of hr
  have hwr : wrap64 (rd D a - 1) = (d : Int) := by rw [wrap_less (by omega) (by omega)]; omega
  intro m
  induction m with
  | zero =>
    intro i hi
    obtain rfl : i = w := by omega
    have hrun := has_run l (a : Int) (i : Int) (by omega)
    rw [hasB_arcB, he] at hrun
    refine Ev_unroll ?_
    simp only [bourneref11_Path.l1, hwr]
    clear hwr
    exact Ev_pos (by omega) (Ev_pos (by omega) (Ev_pos (by omega) (Ev_pos (by omega) (Ev_pos (by omega) (Ev.bind hrun (Ev_pos rfl (Ev_pos (by omega) next)))))))
  | succ m ih =>
    intro i hi
    have key := ih (i + 1) (by omega)
    have hi1 : wrap64 ((i : Int) + 1) = ((i + 1 : Nat) : Int) := by rw [wrap_le (by omega) (by omega)]; omega
    refine Ev_unroll ?_
    simp only [bourneref11_Path.l1, hwr, hi1]
    clear hwr hi1 next
    refine Ev_pos (by omega) (Ev_pos (by omega) (Ev_pos (by omega) (Ev_pos (by omega) ?_)))
    by_cases e : rd D i = d
    · have hno : arcB l a i = false := by
        cases hx : arcB l a i with
        | false => rfl
        | true => have := hleast i (by omega) hx e; omega
      have hrun := has_run l (a : Int) (i : Int) (by omega)
      rw [hasB_arcB, hno] at hrun
      exact Ev_pos e (Ev.bind hrun (Ev_neg (by simp) key))
    · exact Ev_neg e key
theorem ref_path_l0 {n : Nat} {l : List S31} {b : Nat} {D : List Int} (hr : graph_Right.f n l = some true) (hb : b < n) (hD : ToSpec n (arcB l) b D) {d a : Nat} {t : List Int} (h : Greedy n (arcB l) D d a t) : ∀ (ha : a < n) (out : List Int), out.length + d < 1000000 → Ev (fun k => bourneref11_Path.l0 k l (a : Int) b D out) (out ++ t, true) := by
  have hb0 := FarSpec.src hD hb
  induction h with
  | nil v h0 =>
    intro ha out _
    obtain rfl := FarSpec.zero hD ha h0
    refine Ev_unroll ?_
    simp only [bourneref11_Path.l0]
    rw [List.append_nil]
    exact Ev_pos (by simp) (Ev.now _)
  | @cons d v w t h1 h2 h3 h4 h5 h6 ih =>
    intro ha out ho
    have hlow := FarSpec.low hD ha
    have hn := (right_of hr).2.1
    have key := ih h2 (out ++ [(w : Int)]) (by simp; omega)
    rw [List.append_assoc, List.singleton_append] at key
    refine Ev_unroll ?_
    simp only [bourneref11_Path.l0]
    exact Ev_neg (by intro e; have : v = b := by omega
                     subst this; omega) (ref_path_l1 hr (FarSpec.len hD) ha h1 (by omega) h2 h3 h4 h5 (by omega) key w 0 (by omega))
theorem ref_path_run {n : Nat} {l : List S31} {a b : Nat} (h : graph_Right.f n l = some true) (ha : a < n) (hb : b < n) {D : List Int} {r : List Int × Bool} (hP : PathSpec n (arcB l) a b D r) : Ev (fun k => bourneref11_Path.f k n l a b) r := by
  have hn := (right_of h).2.1
  obtain ⟨D', hD', hev⟩ := steps_run h hb
  obtain rfl : D' = D := FarSpec.unique hD' hP.tos
  have hl := FarSpec.len hD'
  have hlow := FarSpec.low hD' ha
  have j0 : Ev (fun k => bourneref11_Path.j0 k n l a b false) r := by
    refine Ev_unroll ?_
    simp only [bourneref11_Path.j0]
    refine Ev_neg (by simp) (Ev.bind hev (Ev_pos (by omega) (Ev_pos (by omega) ?_)))
    by_cases h0 : rd D' a < 0
    · rw [hP.no h0]; exact Ev_pos h0 (Ev.now _)
    · obtain ⟨t, rfl, ht⟩ := hP.yes (by omega)
      have key := ref_path_l0 h hb hD' ht ha [(a : Int)] (by simp; omega)
      rw [List.singleton_append] at key
      exact Ev_neg h0 key
  unfold bourneref11_Path.f
  refine Ev.bind (ref_right_of h) (Ev_pos rfl (Ev_neg (by omega) (Ev_neg (by omega) (Ev_neg (by omega) ?_))))
  rw [decide_eq_false (by omega)]
  exact j0
theorem ref_path_none {n : Int} {l : List S31} {a b : Int} (h : graph_Right.f n l = some false ∨ a < 0 ∨ n ≤ a ∨ b < 0 ∨ n ≤ b) : Ev (fun k => bourneref11_Path.f k n l a b) ([], false) := by
  have jt : Ev (fun k => bourneref11_Path.j0 k n l a b true) ([], false) := by
    refine Ev_unroll ?_
    simp only [bourneref11_Path.j0]
    exact Ev_pos (by simp) (Ev.now _)
  unfold bourneref11_Path.f
  rcases right_cases n l with hr | hr
  · refine Ev.bind (ref_right_of hr) (Ev_pos rfl ?_)
    by_cases h1 : a < 0
    · exact Ev_pos h1 jt
    refine Ev_neg h1 ?_
    by_cases h2 : a ≥ n
    · exact Ev_pos h2 jt
    refine Ev_neg h2 ?_
    by_cases h3 : b < 0
    · exact Ev_pos h3 jt
    refine Ev_neg h3 ?_
    rw [decide_eq_true]
    · exact jt
    · rcases h with h | h | h | h | h
      · rw [hr] at h; simp at h
      all_goals omega
  · exact Ev.bind (ref_right_of hr) (Ev_neg (by simp) jt)

/-! Up and Down -/
theorem ref_up_l0 {n : Nat} {D : List Int} (hn : n ≤ 256) (hl : D.length = n) : ∀ (d i : Nat), i + d = n → Ev (fun k => bourneref11_Up.l0 k n D (known i D) (i : Int)) (known n D) := by
  intro d
  induction d with
  | zero =>
    intro i hi
    obtain rfl : i = n := by omega
    refine Ev_unroll ?_
    simp only [bourneref11_Up.l0]
    exact Ev_neg (by omega) (Ev.now _)
  | succ d ih =>
    intro i hi
    have hkl := known_len i D
    have key := ih (i + 1) (by omega)
    have hi1 : wrap64 ((i : Int) + 1) = ((i + 1 : Nat) : Int) := by rw [wrap_le (by omega) (by omega)]; omega
    rw [known_succ] at key
    refine Ev_unroll ?_
    simp only [bourneref11_Up.l0, hi1]
    refine Ev_pos (by omega) (Ev_pos (by omega) (Ev_pos (by omega) ?_))
    by_cases h : 0 ≤ rd D i
    · rw [if_pos h] at key
      exact Ev_pos h (Ev_pos (by omega) key)
    · rw [if_neg h, List.append_nil] at key
      exact Ev_neg h key
theorem ref_up_run {n : Nat} {l : List S31} {a : Nat} (h : graph_Right.f n l = some true) (ha : a < n) {D : List Int} (hD : ToSpec n (arcB l) a D) : Ev (fun k => bourneref11_Up.f k n l a) (known n D) := by
  have hn := (right_of h).2.1
  obtain ⟨D', hD', hev⟩ := steps_run h ha
  obtain rfl : D' = D := FarSpec.unique hD' hD
  have j0 : Ev (fun k => bourneref11_Up.j0 k n l a false) (known n D') := by
    refine Ev_unroll ?_
    simp only [bourneref11_Up.j0]
    exact Ev_neg (by simp) (Ev.bind hev (ref_up_l0 (by omega) (FarSpec.len hD') n 0 (by omega)))
  unfold bourneref11_Up.f
  refine Ev.bind (ref_right_of h) (Ev_pos rfl (Ev_neg (by omega) ?_))
  rw [decide_eq_false (by omega)]
  exact j0
theorem ref_up_none {n : Int} {l : List S31} {a : Int} (h : graph_Right.f n l = some false ∨ a < 0 ∨ n ≤ a) : Ev (fun k => bourneref11_Up.f k n l a) [] := by
  have jt : Ev (fun k => bourneref11_Up.j0 k n l a true) [] := by
    refine Ev_unroll ?_
    simp only [bourneref11_Up.j0]
    exact Ev_pos (by simp) (Ev.now _)
  unfold bourneref11_Up.f
  rcases right_cases n l with hr | hr
  · refine Ev.bind (ref_right_of hr) (Ev_pos rfl ?_)
    by_cases h1 : a < 0
    · exact Ev_pos h1 jt
    refine Ev_neg h1 ?_
    rw [decide_eq_true]
    · exact jt
    · rcases h with h | h | h
      · rw [hr] at h; simp at h
      all_goals omega
  · exact Ev.bind (ref_right_of hr) (Ev_neg (by simp) jt)
theorem ref_down_l0 {n : Nat} {l : List S31} {a : Nat} {D : List Int} (h : graph_Right.f n l = some true) (ha : a < n) (hD : FarSpec n (arcB l) a D) : ∀ (d i : Nat), i + d = n → Ev (fun k => bourneref11_Down.l0 k n l a (known i D) (i : Int)) (known n D) := by
  have hn := (right_of h).2.1
  intro d
  induction d with
  | zero =>
    intro i hi
    obtain rfl : i = n := by omega
    refine Ev_unroll ?_
    simp only [bourneref11_Down.l0]
    exact Ev_neg (by omega) (Ev.now _)
  | succ d ih =>
    intro i hi
    have hin : i < n := by omega
    have hkl := known_len i D
    have key := ih (i + 1) (by omega)
    have hi1 : wrap64 ((i : Int) + 1) = ((i + 1 : Nat) : Int) := by rw [wrap_le (by omega) (by omega)]; omega
    obtain ⟨T, hT, hev⟩ := steps_run h hin
    have hTl := FarSpec.len hT
    have hiff : 0 ≤ rd T a ↔ 0 ≤ rd D i := by
      have walkT := FarSpec.each hT a ha
      have walkD := hD.each i hin
      constructor
      · intro h0
        rcases walkT with ⟨h1, _⟩ | ⟨k, h1, h2, h3⟩
        · omega
        · rcases walkD with ⟨g1, g2⟩ | ⟨k', g1, _⟩
          · exact absurd (Wk_flip.1 h3.1) (g2 _)
          · omega
      · intro h0
        rcases walkD with ⟨h1, _⟩ | ⟨k, h1, h2, h3⟩
        · omega
        · rcases walkT with ⟨g1, g2⟩ | ⟨k', g1, _⟩
          · exact absurd (Wk_flip.2 h3.1) (g2 _)
          · omega
    rw [known_succ] at key
    refine Ev_unroll ?_
    simp only [bourneref11_Down.l0, hi1]
    refine Ev_pos (by omega) (Ev.bind hev (Ev_pos (by omega) (Ev_pos (by omega) ?_)))
    by_cases h0 : 0 ≤ rd D i
    · rw [if_pos h0] at key
      exact Ev_pos (hiff.2 h0) (Ev_pos (by omega) key)
    · rw [if_neg h0, List.append_nil] at key
      exact Ev_neg (fun hc => h0 (hiff.1 hc)) key
theorem ref_down_run {n : Nat} {l : List S31} {a : Nat} (h : graph_Right.f n l = some true) (ha : a < n) {D : List Int} (hD : FarSpec n (arcB l) a D) : Ev (fun k => bourneref11_Down.f k n l a) (known n D) := by
  have j0 : Ev (fun k => bourneref11_Down.j0 k n l a false) (known n D) := by
    refine Ev_unroll ?_
    simp only [bourneref11_Down.j0]
    exact Ev_neg (by simp) (ref_down_l0 h ha hD n 0 (by omega))
  unfold bourneref11_Down.f
  refine Ev.bind (ref_right_of h) (Ev_pos rfl (Ev_neg (by omega) ?_))
  rw [decide_eq_false (by omega)]
  exact j0
theorem ref_down_none {n : Int} {l : List S31} {a : Int} (h : graph_Right.f n l = some false ∨ a < 0 ∨ n ≤ a) : Ev (fun k => bourneref11_Down.f k n l a) [] := by
  have jt : Ev (fun k => bourneref11_Down.j0 k n l a true) [] := by
    refine Ev_unroll ?_
    simp only [bourneref11_Down.j0]
    exact Ev_pos (by simp) (Ev.now _)
  unfold bourneref11_Down.f
  rcases right_cases n l with hr | hr
  · refine Ev.bind (ref_right_of hr) (Ev_pos rfl ?_)
    by_cases h1 : a < 0
    · exact Ev_pos h1 jt
    refine Ev_neg h1 ?_
    rw [decide_eq_true]
    · exact jt
    · rcases h with h | h | h
      · rw [hr] at h; simp at h
      all_goals omega
  · exact Ev.bind (ref_right_of hr) (Ev_neg (by simp) jt)
end Go.Proofs.Ytibnodjlcaodeaa.G

/-
  The reference: Order and Loop.
-/
namespace Go.Proofs.Ytibnodjlcaodeaa.G
open Go.RowKit Go.Proofs.YtibnodjlcaodeaaW.PrintWords Go.Proofs.YtibnodjlcaodeaaW.PrintLast Go.Proofs.YtibnodjlcaodeaaW.PrintMore
set_option linter.unusedVariables false
set_option linter.unusedSimpArgs false

def ofB (n : Nat) (f : Nat → Bool) : List Bool := (List.range n).map f
theorem ofB_len (n : Nat) (f : Nat → Bool) : (ofB n f).length = n := by simp [ofB]
theorem ofB_get {n : Nat} {f : Nat → Bool} {v : Nat} (h : v < n) : (ofB n f)[v]? = some (f v) := by simp [ofB, h]
theorem rd_ofB {n : Nat} {f : Nat → Bool} {v : Nat} (h : v < n) : rdOf false (ofB n f) v = f v := by
  unfold rdOf
  rw [Int.toNat_natCast, List.getD_eq_getElem?_getD, ofB_get h]; rfl
theorem ofB_congr {n : Nat} {f g : Nat → Bool} (h : ∀ v, v < n → f v = g v) : ofB n f = ofB n g := List.map_congr_left (fun v hv => h v (List.mem_range.1 hv))
theorem ofB_set {n : Nat} {f : Nat → Bool} {v : Nat} {x : Bool} : (ofB n f).set v x = ofB n (fun w => if w = v then x else f w) := by
  refine List.ext_getElem? (fun w => ?_)
  rw [List.getElem?_set]
  by_cases hw : w < n
  · rw [ofB_get hw, ofB_len]
    by_cases e : v = w
    · subst e; rw [if_pos rfl, if_pos hw, ofB_get hw]; simp
    · rw [if_neg e, ofB_get hw, if_neg (Ne.symm e)]
  · have h1 : (ofB n f)[w]? = none := by rw [List.getElem?_eq_none]; rw [ofB_len]; omega
    have h2 : (ofB n (fun w => if w = v then x else f w))[w]? = none := by rw [List.getElem?_eq_none]; rw [ofB_len]; omega
    rw [h1, h2, ofB_len]
    split
    · rw [if_neg (by omega)]
    · rfl
theorem ofB_false (n : Nat) : List.replicate n false = ofB n (fun _ => false) := by
  unfold ofB
  rw [List.map_const', List.length_range]

theorem ref_order_l3 {n : Nat} {l : List S31} {o : List Int} (hn : n ≤ 256) (ho : o.length < n) (f : Nat → Bool) (gone : List Bool) (hg : gone.length = n) (r : List Int × Bool)
    (stop : (∀ v, v < n → f v = false) → r = ([], false))
    (go : ∀ v, v < n → f v = true → (∀ u, u < v → f u = false) → Ev (fun k => bourneref11_Order.l0 k n l (gone.set v true) (o ++ [(v : Int)])) r) : ∀ (m i : Nat), i + m = n → (∀ u, u < i → f u = false) →
    Ev (fun k => bourneref11_Order.l3 k n l gone o (ofB n f) (i : Int)) r := by
  intro m
  induction m with
  | zero =>
    intro i hi hf
    obtain rfl : i = n := by omega
    rw [stop hf]
    refine Ev_unroll ?_
    simp only [bourneref11_Order.l3]
    exact Ev_neg (by omega) (Ev_pos (by simp) (Ev.now _))
  | succ m ih =>
    intro i hi hf
    have hin : i < n := by omega
    have hi1 : wrap64 ((i : Int) + 1) = ((i + 1 : Nat) : Int) := by rw [wrap_le (by omega) (by omega)]; omega
    refine Ev_unroll ?_
    simp only [bourneref11_Order.l3, rd_ofB hin, hi1, Int.toNat_natCast]
    clear hi1
    refine Ev_pos (by omega) (Ev_pos (by omega) (Ev_pos (by rw [ofB_len]; omega) ?_))
    by_cases e : f i = true
    · exact Ev_pos e (Ev_neg (by omega) (Ev_pos (by omega) (Ev_pos (by omega) (go i hin e hf))))
    · refine Ev_neg e (ih (i + 1) (by omega) (fun u hu => ?_))
      rcases Nat.lt_or_ge u i with h | h
      · exact hf u h
      · obtain rfl : u = i := by omega
        simpa using e

theorem ref_order_l2 {n : Nat} {l : List S31} {o : List Int} (hr : graph_Right.f n l = some true) (r : List Int × Bool) (next : Ev (fun k => bourneref11_Order.l3 k n l (ofB n (fun v => decide ((v : Int) ∈ o))) o (ofB n (fun v => decide ((v : Int) ∉ o) && l.all fun x => decide (x.f0 ∈ o) || decide (x.f1 ≠ (v : Int)))) 0) r) : ∀ (d : Nat) (pre ys : List S31), l = pre ++ ys → ys.length = d →
    Ev (fun k => bourneref11_Order.l2 k n l (ofB n (fun v => decide ((v : Int) ∈ o))) o (ofB n (fun v => decide ((v : Int) ∉ o) && pre.all fun x => decide (x.f0 ∈ o) || decide (x.f1 ≠ (v : Int)))) (pre.length : Int)) r := by
  obtain ⟨_, hn, hll, hin⟩ := right_of hr
  intro d
  induction d with
  | zero =>
    intro pre ys h hd
    obtain rfl := List.eq_nil_of_length_eq_zero hd
    rw [List.append_nil] at h
    subst h
    refine Ev_unroll ?_
    simp only [bourneref11_Order.l2]
    exact Ev_neg (by omega) next
  | succ d ih =>
    intro pre ys h hd
    match ys, hd with
    | y :: ys, hd =>
      have hl : l.length = pre.length + (ys.length + 1) := by rw [h]; simp
      have hrd : rd_T31 l (pre.length : Int) = y := by rw [h]; exact rd_T31_mid _ _ _
      have hy := hin y (by rw [h]; simp)
      obtain ⟨v, e0⟩ := Int.eq_ofNat_of_zero_le hy.1.1
      obtain ⟨w, e1⟩ := Int.eq_ofNat_of_zero_le hy.2.1
      have hv : v < n := by omega
      have hw : w < n := by omega
      have hlen : wrap64 ((pre.length : Int) + 1) = ((pre ++ [y]).length : Int) := by rw [wrap_le (by omega) (by omega)]; simp
      have key := ih (pre ++ [y]) ys (by rw [h]; simp) (by simpa using hd)
      refine Ev_unroll ?_
      simp only [bourneref11_Order.l2, hrd, hlen, e0, e1, rd_ofB hv, Int.toNat_natCast, ofB_set]
      clear hlen
      refine Ev_pos (by omega) (Ev_pos (by omega) (Ev_pos (by omega) (Ev_pos (by rw [ofB_len]; omega) ?_)))
      by_cases hm : (v : Int) ∈ o
      · refine Ev_pos (decide_eq_true hm) ?_
        rw [ofB_congr (f := fun v => decide ((v : Int) ∉ o) && pre.all fun x => decide (x.f0 ∈ o) || decide (x.f1 ≠ (v : Int))) (g := fun v => decide ((v : Int) ∉ o) && (pre ++ [y]).all fun x => decide (x.f0 ∈ o) || decide (x.f1 ≠ (v : Int))) (fun u hu => ?_)]
        · exact key
        · simp [e0, hm]
      · refine Ev_neg (by simpa using hm) (Ev_pos (by omega) (Ev_pos (by rw [ofB_len]; omega) ?_))
        rw [ofB_congr (f := fun v => if v = w then false else decide ((v : Int) ∉ o) && pre.all fun x => decide (x.f0 ∈ o) || decide (x.f1 ≠ (v : Int))) (g := fun v => decide ((v : Int) ∉ o) && (pre ++ [y]).all fun x => decide (x.f0 ∈ o) || decide (x.f1 ≠ (v : Int))) (fun u hu => ?_)]
        · exact key
        · by_cases e : u = w
          · subst e; simp [e0, e1, hm]
          · have : (w : Int) ≠ u := by omega
            simp [e0, e1, hm, e, this]

theorem ref_order_l1 {n : Nat} {l : List S31} {o : List Int} (hn : n ≤ 256) (r : List Int × Bool) (next : Ev (fun k => bourneref11_Order.l2 k n l (ofB n (fun v => decide ((v : Int) ∈ o))) o (ofB n (fun v => decide ((v : Int) ∉ o))) 0) r) : ∀ (m i : Nat), i + m = n →
    Ev (fun k => bourneref11_Order.l1 k n l (ofB n (fun v => decide ((v : Int) ∈ o))) o (ofB n (fun v => decide (v < i) && decide ((v : Int) ∉ o))) (i : Int)) r := by
  intro m
  induction m with
  | zero =>
    intro i hi
    obtain rfl : i = n := by omega
    refine Ev_unroll ?_
    simp only [bourneref11_Order.l1]
    refine Ev_neg (by omega) ?_
    rw [ofB_congr (f := fun v => decide (v < i) && decide ((v : Int) ∉ o)) (g := fun v => decide ((v : Int) ∉ o)) (fun v hv => by simp [hv])]
    exact next
  | succ m ih =>
    intro i hi
    have hin : i < n := by omega
    have key := ih (i + 1) (by omega)
    have hi1 : wrap64 ((i : Int) + 1) = ((i + 1 : Nat) : Int) := by rw [wrap_le (by omega) (by omega)]; omega
    refine Ev_unroll ?_
    simp only [bourneref11_Order.l1, rd_ofB hin, hi1, Int.toNat_natCast, ofB_set]
    clear hi1
    refine Ev_pos (by omega) (Ev_pos (by omega) (Ev_pos (by rw [ofB_len]; omega) (Ev_pos (by rw [ofB_len]; omega) ?_)))
    rw [ofB_congr (f := fun v => if v = i then !decide ((i : Int) ∈ o) else decide (v < i) && decide ((v : Int) ∉ o)) (g := fun v => decide (v < i + 1) && decide ((v : Int) ∉ o)) (fun v hv => ?_)]
    · exact key
    · by_cases e : v = i
      · subst e; simp
      · have : (v < i + 1) = (v < i) := by refine propext ⟨fun h => by omega, fun h => by omega⟩
        simp [e, this]

theorem ref_order_l0 {n : Nat} {l : List S31} (hr : graph_Right.f n l = some true) : ∀ (d : Nat) (o : List Int), o.length + d = n →
    Ev (fun k => bourneref11_Order.l0 k n l (ofB n (fun v => decide ((v : Int) ∈ o))) o) (topo n (arcB l) d o) := by
  obtain ⟨_, hn, hll, hin⟩ := right_of hr
  have hE := arcs_in hr
  intro d
  induction d with
  | zero =>
    intro o hl
    refine Ev_unroll ?_
    simp only [bourneref11_Order.l0]
    exact Ev_neg (by omega) (Ev.now _)
  | succ d ih =>
    intro o hl
    have hfr : ∀ v : Nat, (decide ((v : Int) ∉ o) && l.all fun x => decide (x.f0 ∈ o) || decide (x.f1 ≠ (v : Int))) = decide (wt n (arcB l) o v = 0) := fun v => by
      rw [Bool.eq_iff_iff]
      simp only [Bool.and_eq_true, List.all_eq_true, Bool.or_eq_true, decide_eq_true_eq]
      rw [wt_free hE]
      refine and_congr_right fun _ => ⟨fun hh u hu => ?_, fun hh x hx => ?_⟩
      · unfold arcB at hu
        simp only [List.any_eq_true, Bool.and_eq_true, decide_eq_true_eq] at hu
        obtain ⟨x, hx, e1, e2⟩ := hu
        rcases hh x hx with h1 | h1
        · rwa [e1] at h1
        · exact absurd e2 h1
      · by_cases e : x.f1 = (v : Int)
        · refine .inl ?_
          have := hin x hx
          have hux : x.f0 = ((x.f0.toNat : Nat) : Int) := by omega
          rw [hux]
          refine hh _ ?_
          unfold arcB
          rw [List.any_eq_true]
          exact ⟨x, hx, by simp only [Bool.and_eq_true, decide_eq_true_eq]; omega⟩
        · exact .inr e
    have l3 := ref_order_l3 (n := n) (l := l) (o := o) (by omega) (by omega) (fun v => decide ((v : Int) ∉ o) && l.all fun x => decide (x.f0 ∈ o) || decide (x.f1 ≠ (v : Int))) (ofB n (fun v => decide ((v : Int) ∈ o))) (ofB_len _ _) (topo n (arcB l) (d + 1) o) (fun hno => by
        have : free? n (arcB l) o = none := by
          unfold free?
          rw [List.find?_eq_none]
          intro v hv
          rw [← hfr v, hno v (List.mem_range.1 hv)]
          simp
        simp only [topo, this]) (fun v hv hfv hless => by
        have hsome : free? n (arcB l) o = some v := by
          unfold free?
          rw [List.find?_eq_some_iff_getElem]
          exact ⟨by rw [← hfr v]; exact hfv, v, by simpa using hv, by simp, fun j hj => by
            rw [List.getElem_range, ← hfr j, hless j hj]; rfl⟩
        have : topo n (arcB l) (d + 1) o = topo n (arcB l) d (o ++ [(v : Int)]) := by simp only [topo, hsome]
        rw [this, ofB_set, ofB_congr (f := fun w => if w = v then true else decide ((w : Int) ∈ o)) (g := fun w => decide ((w : Int) ∈ o ++ [(v : Int)])) (fun w hw => ?_)]
        · exact ih (o ++ [(v : Int)]) (by simp; omega)
        · by_cases e : w = v
          · subst e; simp
          · have : (w : Int) ≠ v := by omega
            simp [e, this]) n 0 (by omega) (fun u hu => by omega)
    have l2 := ref_order_l2 hr _ l3 l.length [] l rfl rfl
    have l1 := ref_order_l1 (n := n) (l := l) (o := o) (by omega) (topo n (arcB l) (d + 1) o) (by simpa using l2) n 0 (by omega)
    refine Ev_unroll ?_
    simp only [bourneref11_Order.l0]
    refine Ev_pos (by omega) (Ev_pos (by omega) (Ev_pos (by omega) ?_))
    rw [Int.toNat_natCast, ofB_false]
    simpa using l1
theorem ref_order_run {n : Nat} {l : List S31} (h : graph_Right.f n l = some true) : Ev (fun k => bourneref11_Order.f k n l) (topo n (arcB l) n []) := by
  have hn := (right_of h).2.1
  have key := ref_order_l0 h n [] (by simp)
  unfold bourneref11_Order.f
  refine Ev.bind (ref_right_of h) (Ev_pos rfl (Ev_pos (by omega) (Ev_pos (by omega) ?_)))
  rw [Int.toNat_natCast, ofB_false]
  simpa using key
theorem ref_order_none {n : Int} {l : List S31} (h : graph_Right.f n l = some false) : Ev (fun k => bourneref11_Order.f k n l) ([], false) := by
  unfold bourneref11_Order.f
  exact Ev.bind (ref_right_of h) (Ev_neg (by simp) (Ev.now _))

/-! Loop -/
theorem less_false {c best : List Int} {v x y : Int} {s s' : List Int} (h1 : c = v :: x :: s) (h2 : best = v :: y :: s') (hxy : y < x) : Ev (fun k => bourneref11_Less.f k c best) false := by
  subst h1 h2
  have key : Ev (fun k => bourneref11_Less.l0 k (v :: x :: s) (v :: y :: s') 1) false := by
    have e1 : rd (v :: x :: s) 1 = x := rfl
    have e2 : rd (v :: y :: s') 1 = y := rfl
    refine Ev_unroll ?_
    simp only [bourneref11_Less.l0, e1, e2]
    clear e1 e2
    refine Ev_pos (by simp; omega) (Ev_pos (by omega) (Ev_pos (by simp; omega) (Ev_neg (by omega) ?_)))
    rw [decide_eq_false (by omega)]
    exact Ev.now _
  have e1 : rd (v :: x :: s) 0 = v := rfl
  have e2 : rd (v :: y :: s') 0 = v := rfl
  have e3 : wrap64 ((0 : Int) + 1) = 1 := by unfold wrap64; omega
  unfold bourneref11_Less.f
  refine Ev_unroll ?_
  simp only [bourneref11_Less.l0, e1, e2, e3]
  clear e1 e2 e3
  exact Ev_pos (by simp; omega) (Ev_pos (by omega) (Ev_pos (by simp; omega) (Ev_pos (by simp) key)))

/-- best, when the nodes below w were looked at. -/
def BI (n : Nat) (E : Nat → Nat → Bool) (D : List Int) (v w : Nat) (best : List Int) : Prop :=
  (best = [] ∧ ∀ x : Nat, x < w → E v x = true → rd D x < 0) ∨ ∃ (u : Nat) (t : List Int), u < n ∧ E v u = true ∧ Best D (fun x => x ∈ rowOf n E v ∧ x < (w : Int)) u ∧ Greedy n E D (rd D u).toNat u t ∧ best = (v : Int) :: ((u : Int) :: t).dropLast

theorem BI.skip {n : Nat} {E : Nat → Nat → Bool} {D : List Int} {v w : Nat} {best : List Int} (h : BI n E D v w best) (hno : E v w = true → rd D w < 0) : BI n E D v (w + 1) best := by
  rcases h with ⟨e, h⟩ | ⟨u, t, hu, he, hb, hg, e⟩
  · refine .inl ⟨e, fun x hx hxe => ?_⟩
    rcases Nat.lt_or_ge x w with h1 | h1
    · exact h x h1 hxe
    · obtain rfl : x = w := by omega
      exact hno hxe
  · have key : ∀ x : Int, x ∈ rowOf n E v ∧ x < ((w + 1 : Nat) : Int) → (x ∈ rowOf n E v ∧ x < (w : Int)) ∨ rd D x < 0 := fun x ⟨h1, h2⟩ => by
      obtain ⟨z, rfl, hz, hze⟩ := rowOf_mem.1 h1
      rcases Nat.lt_or_ge z w with h3 | h3
      · exact .inl ⟨h1, by omega⟩
      · obtain rfl : z = w := by omega
        exact .inr (hno hze)
    refine .inr ⟨u, t, hu, he, ⟨⟨hb.mem.1, by have := hb.mem.2; omega⟩, hb.ok, fun x hx h0 => ?_, fun x hx hxe => ?_⟩, hg, e⟩
    · rcases key x hx with h1 | h1
      · exact hb.min x h1 h0
      · omega
    · rcases key x hx with h1 | h1
      · exact hb.least x h1 hxe
      · have := hb.ok; omega

theorem ref_loop_l1 {n : Nat} {l : List S31} {v : Nat} {D : List Int} (hr : graph_Right.f n l = some true) (hv : v < n) (hD : ToSpec n (arcB l) v D) (r : List Int)
    (fin : ∀ best, BI n (arcB l) D v n best → Ev (fun k => if (best.length : Int) = 0 then (bourneref11_Loop.l0 k n l (wrap64 ((v : Int) + 1))) else (some best)) r) : ∀ (m w : Nat) (best : List Int), w + m = n → BI n (arcB l) D v w best →
    Ev (fun k => bourneref11_Loop.l1 k n l (v : Int) best (w : Int)) r := by
  obtain ⟨_, hn, hll, hin⟩ := right_of hr
  have hE := arcs_in hr
  intro m
  induction m with
  | zero =>
    intro w best hw hb
    obtain rfl : w = n := by omega
    refine Ev_unroll ?_
    simp only [bourneref11_Loop.l1]
    exact Ev_neg (by omega) (fin best hb)
  | succ m ih =>
    intro w best hw hb
    have hwn : w < n := by omega
    have hlow := FarSpec.low hD hwn
    obtain ⟨D', p, hP, _⟩ := path_run hr hwn hv
    obtain rfl : D' = D := hP.tos.unique hD
    have hpath := ref_path_run hr hwn hv hP
    have hhas := has_run l (v : Int) (w : Int) (by omega)
    rw [hasB_arcB] at hhas
    have hi1 : wrap64 ((w : Int) + 1) = ((w + 1 : Nat) : Int) := by rw [wrap_le (by omega) (by omega)]; omega
    have skip : ∀ (q : List Int), (arcB l v w = true → rd D' w < 0) → Ev (fun k => bourneref11_Loop.j2 k n l (v : Int) best (w : Int) q true) r := fun q hno => by
      refine Ev_unroll ?_
      simp only [bourneref11_Loop.j2, hi1]
      exact Ev_pos (by simp) (ih (w + 1) best (by omega) (hb.skip hno))
    refine Ev_unroll ?_
    simp only [bourneref11_Loop.l1]
    refine Ev_pos (by omega) (Ev.bind hhas (Ev.bind hpath ?_))
    cases harc : arcB l v w with
    | false => exact Ev_neg (by simp) (skip _ (fun h => by rw [harc] at h; cases h))
    | true =>
      refine Ev_pos rfl ?_
      by_cases h0 : rd D' w < 0
      · rw [hP.no h0]
        exact skip _ (fun _ => h0)
      · obtain ⟨t, rfl, ht⟩ := hP.yes (by omega)
        have htl := ht.len.1
        obtain ⟨c, hc⟩ : ∃ c, c = (v : Int) :: ((w : Int) :: t).dropLast := ⟨_, rfl⟩
        have hcl : c.length = (rd D' w).toNat + 1 := by rw [hc]; simp [htl]
        have hwrow : (w : Int) ∈ rowOf n (arcB l) v := rowOf_mem.2 ⟨w, rfl, hwn, harc⟩
        have hnew : (∀ x : Int, x ∈ rowOf n (arcB l) v ∧ x < (w : Int) → 0 ≤ rd D' x → rd D' w < rd D' x) → BI n (arcB l) D' v (w + 1) c := fun hlt => by
          refine .inr ⟨w, t, hwn, harc, ⟨⟨hwrow, by omega⟩, by omega, fun x hx h1 => ?_, fun x hx h1 => ?_⟩, ht, hc⟩
          · by_cases e : x < (w : Int)
            · have := hlt x ⟨hx.1, e⟩ h1; omega
            · have : x = w := by have := hx.2; omega
              rw [this]; exact Int.le_refl _
          · by_cases e : x < (w : Int)
            · have := hlt x ⟨hx.1, e⟩ (by omega); omega
            · omega
        have take := ih (w + 1) c (by omega)
        have keep : ∀ b', BI n (arcB l) D' v (w + 1) b' → Ev (fun k => bourneref11_Loop.l1 k n l (v : Int) b' ((w + 1 : Nat) : Int)) r := fun b' => ih (w + 1) b' (by omega)
        have hsz : (((w : Int) :: t).length : Int) = t.length + 1 := by simp
        have f1 : (0 : Int) ≤ (t.length : Int) := by omega
        have f2 : (t.length : Int) ≤ (((w : Int) :: t).length : Int) := by rw [hsz]; omega
        have f3 : [(v : Int)].length + (((w : Int) :: t).take ((t.length : Int)).toNat).length < 17592186044416 := by simp; omega
        have hwl : wrap64 ((((w : Int) :: t).length : Int) - 1) = (t.length : Int) := by rw [hsz, wrap_less (by omega) (by omega)]; omega
        have hce : [(v : Int)] ++ ((w : Int) :: t).take ((t.length : Int)).toNat = c := by
          rw [Int.toNat_natCast, hc, List.dropLast_eq_take]; simp
        have j2 : Ev (fun k => bourneref11_Loop.j2 k n l (v : Int) best (w : Int) ((w : Int) :: t) false) r := by
          refine Ev_unroll ?_
          simp only [bourneref11_Loop.j2, hwl, hi1]
          refine Ev_neg (by simp) (Ev_some (Ev_pos f1 (Ev_pos f2 (Ev_some (Ev_pos f3 (Ev_some ?_))))))
          simp only [hce]
          clear hwl hi1 hce hsz f1 f2 f3
          rcases hb with ⟨rfl, hno⟩ | ⟨u, t', hu, hue, hbest, hg, rfl⟩
          · refine Ev_pos (by simp) (take (hnew (fun x hx h1 => ?_)))
            obtain ⟨z, rfl, hz, hze⟩ := rowOf_mem.1 hx.1
            have := hno z (by omega) hze
            omega
          · have hul := FarSpec.low hD hu
            have htl' := hg.len.1
            have hbok := hbest.ok
            have hulw := hbest.mem.2
            have hbl : (((v : Int) :: ((u : Int) :: t').dropLast).length : Int) = (rd D' u).toNat + 1 := by simp [htl']
            refine Ev_neg (by omega) ?_
            by_cases c1 : rd D' w < rd D' u
            · refine Ev_pos (by omega) (take (hnew (fun x hx h1 => ?_)))
              have := hbest.min x hx h1
              omega
            · have hold : BI n (arcB l) D' v (w + 1) ((v : Int) :: ((u : Int) :: t').dropLast) := by
                refine .inr ⟨u, t', hu, hue, ⟨⟨hbest.mem.1, by omega⟩, hbok, fun x hx h1 => ?_, fun x hx h1 => ?_⟩, hg, rfl⟩
                · by_cases e : x < (w : Int)
                  · exact hbest.min x ⟨hx.1, e⟩ h1
                  · have : x = w := by have := hx.2; omega
                    rw [this]; omega
                · by_cases e : x < (w : Int)
                  · exact hbest.least x ⟨hx.1, e⟩ h1
                  · omega
              refine Ev_neg (by omega) ?_
              by_cases c2 : (c.length : Int) = (((v : Int) :: ((u : Int) :: t').dropLast).length : Int)
              · refine Ev_pos c2 ?_
                have hpos : 0 < rd D' w := by
                  refine Classical.byContradiction fun hz => ?_
                  have e1 := FarSpec.zero hD hwn (by omega)
                  have e2 := FarSpec.zero hD hu (by omega)
                  omega
                have hle : Ev (fun k => bourneref11_Less.f k c ((v : Int) :: ((u : Int) :: t').dropLast)) false := by
                  match t, t', htl, htl' with
                  | [], _, h1, _ => simp at h1; omega
                  | _, [], _, h2 => simp at h2; omega
                  | a :: t, b :: t', _, _ => exact less_false (s := (a :: t).dropLast) (s' := (b :: t').dropLast) hc rfl (by omega)
                exact Ev.bind hle (Ev_neg (by simp) (keep _ hold))
              · exact Ev_neg c2 (keep _ hold)
        exact j2

theorem ref_loop_l0 {n : Nat} {l : List S31} (hr : graph_Right.f n l = some true) : ∀ (d i : Nat), i + d = n → (∀ u, u < i → NoCycleAt (arcB l) u) →
    ∃ c, LoopRes n (arcB l) c ∧ Ev (fun k => bourneref11_Loop.l0 k n l (i : Int)) c := by
  obtain ⟨_, hn, hll, hin⟩ := right_of hr
  have hE := arcs_in hr
  intro d
  induction d with
  | zero =>
    intro i hi hu
    obtain rfl : i = n := by omega
    refine ⟨[], .inl ⟨rfl, hu⟩, Ev_unroll ?_⟩
    simp only [bourneref11_Loop.l0]
    exact Ev_neg (by omega) (Ev.now _)
  | succ d ih =>
    intro i hi hu
    have hin' : i < n := by omega
    obtain ⟨D, hD, _⟩ := steps_run hr hin'
    have hi1 : wrap64 ((i : Int) + 1) = ((i + 1 : Nat) : Int) := by rw [wrap_le (by omega) (by omega)]; omega
    have start : ∀ r, (∀ best, BI n (arcB l) D i n best → Ev (fun k => if (best.length : Int) = 0 then (bourneref11_Loop.l0 k n l (wrap64 ((i : Int) + 1))) else (some best)) r) → Ev (fun k => bourneref11_Loop.l0 k n l (i : Int)) r := fun r fin => by
      refine Ev_unroll ?_
      simp only [bourneref11_Loop.l0]
      exact Ev_pos (by omega) (ref_loop_l1 hr hin' hD r fin n 0 [] (by omega) (.inl ⟨rfl, fun x hx => by omega⟩))
    have hmem : ∀ u : Nat, Best D (fun x => x ∈ rowOf n (arcB l) i ∧ x < (n : Int)) u → Best D (fun x => x ∈ rowOf n (arcB l) i) u := fun u hb => by
      have hlt : ∀ x, x ∈ rowOf n (arcB l) i → x < (n : Int) := fun x hx => by
        obtain ⟨z, rfl, hz, _⟩ := rowOf_mem.1 hx
        omega
      exact ⟨hb.mem.1, hb.ok, fun x hx => hb.min x ⟨hx, hlt x hx⟩, fun x hx => hb.least x ⟨hx, hlt x hx⟩⟩
    by_cases hno : ∀ x : Nat, x < n → arcB l i x = true → rd D x < 0
    · obtain ⟨c, hc, hcev⟩ := ih (i + 1) (by omega) (fun u hui => by
        rcases Nat.lt_or_ge u i with h | h
        · exact hu u h
        · obtain rfl : u = i := by omega
          exact noCycle_iff hE hD (fun x hx => by
            obtain ⟨z, rfl, hz, hze⟩ := rowOf_mem.1 hx
            exact hno z hz hze))
      refine ⟨c, hc, start c (fun best hb => ?_)⟩
      rcases hb with ⟨rfl, _⟩ | ⟨u, t, hun, hue, hb, _, _⟩
      · rw [hi1]
        exact Ev_pos (by simp) hcev
      · have := hno u hun hue
        have := hb.ok
        omega
    · have hex : ∃ w : Nat, w < n ∧ arcB l i w = true ∧ 0 ≤ rd D w := Classical.byContradiction fun hc => hno (fun x hx hxe => by
        refine Classical.byContradiction fun hn' => hc ⟨x, hx, hxe, by omega⟩)
      obtain ⟨w0, hw0, hwe0, hw00⟩ := hex
      -- some answer that is right
      obtain ⟨c, hc, hlev⟩ := loop_l0 hE (by omega) (n - i) i (by omega) hu
      refine ⟨c, hc, start c (fun best hb => ?_)⟩
      rcases hb with ⟨rfl, hnone⟩ | ⟨u, t, hun, hue, hb, hg, rfl⟩
      · have := hnone w0 hw0 hwe0
        omega
      · have hcy : LoopRes n (arcB l) ((i : Int) :: ((u : Int) :: t).dropLast) := .inr ⟨i, D, u, t, hin', hu, hD, ⟨hun, hue⟩, hmem u hb, hg, rfl⟩
        rw [hc.unique hcy]
        exact Ev_neg (by simp; omega) (Ev.now _)
theorem ref_loop_run {n : Nat} {l : List S31} (h : graph_Right.f n l = some true) {c : List Int} (hc : LoopRes n (arcB l) c) : Ev (fun k => bourneref11_Loop.f k n l) c := by
  obtain ⟨c', hc', hev⟩ := ref_loop_l0 h n 0 (by omega) (fun u hu => by omega)
  rw [hc.unique hc']
  unfold bourneref11_Loop.f
  exact Ev.bind (ref_right_of h) (Ev_pos rfl hev)
theorem ref_loop_none {n : Int} {l : List S31} (h : graph_Right.f n l = some false) : Ev (fun k => bourneref11_Loop.f k n l) [] := by
  unfold bourneref11_Loop.f
  exact Ev.bind (ref_right_of h) (Ev_neg (by simp) (Ev.now _))
end Go.Proofs.Ytibnodjlcaodeaa.G

/-
  GraphTells, in plain Lean: all functions return what the reference returns.
-/
namespace Go.Proofs.Ytibnodjlcaodeaa.Pure
open Go.RowKit Go.Proofs.Ytibnodjlcaodeaa.G Go.Proofs.YtibnodjlcaodeaaW.PrintWords Go.Proofs.YtibnodjlcaodeaaW.PrintLast
set_option linter.unusedVariables false
set_option linter.unusedSimpArgs false

theorem tells_order (n : Int) (l : List S31) : ∃ r, r.1.length < 1000000000 ∧ Ev (fun k => graph_Order.f k n l) r ∧ Ev (fun k => bourneref11_Order.f k n l) r := by
  rcases right_cases n l with h | h
  · obtain ⟨k, rfl⟩ := Int.eq_ofNat_of_zero_le (right_of h).1
    have hn := (right_of h).2.1
    refine ⟨_, ?_, order_run h, ref_order_run h⟩
    rcases topo_all (arcs_in h) with ⟨r, e, hl, _⟩ | ⟨e, _⟩
    · rw [e]; dsimp only; omega
    · rw [e]; simp
  · exact ⟨_, by simp, order_none h, ref_order_none h⟩
theorem tells_path (n : Int) (l : List S31) (a b : Int) : ∃ r, r.1.length < 1000000000 ∧ Ev (fun k => graph_Path.f k n l a b) r ∧ Ev (fun k => bourneref11_Path.f k n l a b) r := by
  by_cases hok : graph_Right.f n l = some true ∧ 0 ≤ a ∧ a < n ∧ 0 ≤ b ∧ b < n
  · obtain ⟨h, h2, h3, h4, h5⟩ := hok
    obtain ⟨n, rfl⟩ := Int.eq_ofNat_of_zero_le (show 0 ≤ n by omega)
    obtain ⟨a, rfl⟩ := Int.eq_ofNat_of_zero_le h2
    obtain ⟨b, rfl⟩ := Int.eq_ofNat_of_zero_le h4
    have hn := (right_of h).2.1
    obtain ⟨D, r, hD, hev⟩ := path_run h (show a < n by omega) (show b < n by omega)
    refine ⟨_, ?_, hev, ref_path_run h (show a < n by omega) (show b < n by omega) hD⟩
    by_cases h0 : rd D a < 0
    · rw [hD.no h0]; simp
    · obtain ⟨t, rfl, ht⟩ := hD.yes (by omega)
      have := ht.len.1
      have := FarSpec.low hD.tos (show a < n by omega)
      simp only [List.length_cons]
      omega
  · have key : graph_Right.f n l = some false ∨ a < 0 ∨ n ≤ a ∨ b < 0 ∨ n ≤ b := by
      rcases right_cases n l with h | h
      · refine .inr (Classical.byContradiction fun hc => hok ⟨h, ?_⟩)
        omega
      · exact .inl h
    exact ⟨_, by simp, path_none key, ref_path_none key⟩
theorem tells_down (n : Int) (l : List S31) (a : Int) : ∃ r : List Int, r.length < 1000000000 ∧ Ev (fun k => graph_Down.f k n l a) r ∧ Ev (fun k => bourneref11_Down.f k n l a) r := by
  by_cases hok : graph_Right.f n l = some true ∧ 0 ≤ a ∧ a < n
  · obtain ⟨h, h2, h3⟩ := hok
    obtain ⟨n, rfl⟩ := Int.eq_ofNat_of_zero_le (show 0 ≤ n by omega)
    obtain ⟨a, rfl⟩ := Int.eq_ofNat_of_zero_le h2
    have hn := (right_of h).2.1
    obtain ⟨D, hD, hev⟩ := down_run h (show a < n by omega)
    exact ⟨_, by have := known_len n D; omega, hev, ref_down_run h (show a < n by omega) hD⟩
  · have key : graph_Right.f n l = some false ∨ a < 0 ∨ n ≤ a := by
      rcases right_cases n l with h | h
      · refine .inr (Classical.byContradiction fun hc => hok ⟨h, ?_⟩)
        omega
      · exact .inl h
    exact ⟨_, by simp, down_none key, ref_down_none key⟩
theorem tells_up (n : Int) (l : List S31) (a : Int) (hl : l.length < 1000000000) : ∃ r : List Int, r.length < 1000000000 ∧ Ev (fun k => graph_Up.f k n l a) r ∧ Ev (fun k => bourneref11_Up.f k n l a) r := by
  by_cases hok : graph_Right.f n l = some true ∧ 0 ≤ a ∧ a < n
  · obtain ⟨h, h2, h3⟩ := hok
    obtain ⟨n, rfl⟩ := Int.eq_ofNat_of_zero_le (show 0 ≤ n by omega)
    obtain ⟨a, rfl⟩ := Int.eq_ofNat_of_zero_le h2
    have hn := (right_of h).2.1
    obtain ⟨D, hD, hev⟩ := up_run h (show a < n by omega)
    exact ⟨_, by have := known_len n D; omega, hev, ref_up_run h (show a < n by omega) hD⟩
  · have key : graph_Right.f n l = some false ∨ a < 0 ∨ n ≤ a := by
      rcases right_cases n l with h | h
      · refine .inr (Classical.byContradiction fun hc => hok ⟨h, ?_⟩)
        omega
      · exact .inl h
    refine ⟨_, by simp, ?_, ref_up_none key⟩
    unfold graph_Up.f
    exact Ev.bind (turned_run l hl) (Ev.bind (down_none (by rw [right_turned]; exact key)) (Ev.now _))
theorem tells_loop (n : Int) (l : List S31) : ∃ r : List Int, r.length < 1000000000 ∧ Ev (fun k => graph_Loop.f k n l) r ∧ Ev (fun k => bourneref11_Loop.f k n l) r := by
  rcases right_cases n l with h | h
  · obtain ⟨n, rfl⟩ := Int.eq_ofNat_of_zero_le (right_of h).1
    have hn := (right_of h).2.1
    obtain ⟨c, hc, hev⟩ := loop_run h
    refine ⟨_, ?_, hev, ref_loop_run h hc⟩
    rcases hc with ⟨rfl, _⟩ | ⟨v, D, w, t, hv, _, hcy⟩
    · simp
    · rw [hcy.eq]
      have := hcy.walk.len.1
      have := FarSpec.low hcy.tos hcy.arc.1
      simp only [List.length_cons, List.length_dropLast]
      omega
  · exact ⟨_, by simp, loop_none h, ref_loop_none h⟩

theorem GraphTells (a0 : Int) (l1 : List S31) (a2 a3 : Int) (w0 : (Lit.int .i64 a0).wf = true) (w1 : l1.length ≤ maxLen ∧ ∀ x ∈ l1, (Lit.int .i64 x.f0).wf = true ∧ (Lit.int .i64 x.f1).wf = true) (w2 : (Lit.int .i64 a2).wf = true) (w3 : (Lit.int .i64 a3).wf = true) : ∃ k, bournelaw11_GraphTells.f k a0 l1 a2 a3 = some true := by
  refine Ev.rounds ?_
  unfold bournelaw11_GraphTells.f
  refine Ev.bind small_run (Ev_eq (few_run a0 l1) ?_)
  by_cases hf : (decide (a0 ≤ 16) && decide ((l1.length : Int) ≤ 40)) = true
  · refine Ev_pos hf ?_
    have hl : l1.length < 1000000000 := by simp only [Bool.and_eq_true, decide_eq_true_eq] at hf; omega
    obtain ⟨p, hpl, p1, p2⟩ := tells_order a0 l1
    obtain ⟨v, hvl, v1, v2⟩ := tells_path a0 l1 a2 a3
    obtain ⟨d, hdl, d1, d2⟩ := tells_down a0 l1 a2
    obtain ⟨u, hul, u1, u2⟩ := tells_up a0 l1 a2 hl
    obtain ⟨c, hcl, c1, c2⟩ := tells_loop a0 l1
    obtain ⟨b, hb, hbr⟩ := ref_right (n := a0) (l := l1)
    have j0 : Ev (fun k => bournelaw11_GraphTells.j0 k a0 l1 a2 true p.1 p.1 v.1 v.1 false) true := by
      refine Ev_unroll ?_
      simp only [bournelaw11_GraphTells.j0]
      refine Ev_neg (by simp) (Ev_pos (by simp) ?_)
      refine Ev.bind (same_run _ hpl) (Ev_pos rfl (Ev.bind (same_run _ hvl) (Ev_pos rfl ?_)))
      refine Ev.bind d1 (Ev.bind d2 (Ev.bind (same_run _ hdl) (Ev_pos rfl ?_)))
      refine Ev.bind u1 (Ev.bind u2 (Ev.bind (same_run _ hul) (Ev_pos rfl ?_)))
      exact Ev.bind c1 (Ev.bind c2 (Ev.bind (same_run _ hcl) (Ev.now _)))
    refine Ev.bind p1 (Ev.bind p2 (Ev.bind v1 (Ev.bind v2 (Ev_neg (by simp) (Ev_neg (by simp) (Ev_eq hb (Ev.bind hbr ?_)))))))
    rw [show (b != b) = false by simp]
    exact j0
  · exact Ev_neg hf (Ev.now _)
end Go.Proofs.Ytibnodjlcaodeaa.Pure
