/-
  graph.Order: always the least node all of whose predecessors are out.
-/
import Derived.Test.YtibnodjlcaodeaaA3
import Derived.Test.YtibnodjlcaodeaaK4
namespace Go.Proofs.Ytibnodjlcaodeaa.G
open Go.RowKit Go.Proofs.YtibnodjlcaodeaaW.PrintWords Go.Proofs.YtibnodjlcaodeaaW.PrintLast Go.Proofs.YtibnodjlcaodeaaW.PrintMore
set_option linter.unusedVariables false
set_option linter.unusedSimpArgs false

def ofF (n : Nat) (f : Nat → Int) : List Int := (List.range n).map f
theorem ofF_len (n : Nat) (f : Nat → Int) : (ofF n f).length = n := by simp [ofF]
theorem ofF_get {n : Nat} {f : Nat → Int} {v : Nat} (h : v < n) : (ofF n f)[v]? = some (f v) := by simp [ofF, h]
theorem rd_ofF {n : Nat} {f : Nat → Int} {v : Nat} (h : v < n) : rd (ofF n f) v = f v := rd_get (ofF_get h)
theorem ofF_congr {n : Nat} {f g : Nat → Int} (h : ∀ v, v < n → f v = g v) : ofF n f = ofF n g := List.map_congr_left (fun v hv => h v (List.mem_range.1 hv))
theorem ofF_set {n : Nat} {f : Nat → Int} {v : Nat} {x : Int} : (ofF n f).set v x = ofF n (fun w => if w = v then x else f w) := by
  refine List.ext_getElem? (fun w => ?_)
  rw [List.getElem?_set]
  by_cases hw : w < n
  · rw [ofF_get hw, ofF_len]
    by_cases e : v = w
    · subst e; rw [if_pos rfl, if_pos hw, ofF_get hw]; simp
    · rw [if_neg e, ofF_get hw, if_neg (Ne.symm e)]
  · have h1 : (ofF n f)[w]? = none := by rw [List.getElem?_eq_none]; rw [ofF_len]; omega
    have h2 : (ofF n (fun w => if w = v then x else f w))[w]? = none := by rw [List.getElem?_eq_none]; rw [ofF_len]; omega
    rw [h1, h2, ofF_len]
    split
    · rw [if_neg (by omega)]
    · rfl
theorem ofF_zero (n : Nat) : List.replicate n (0 : Int) = ofF n (fun _ => 0) := by
  unfold ofF
  rw [List.map_const', List.length_range]
theorem atI_ofF (n : Nat) (f : Nat → Int) : (((List.range n).find? fun v => decide (f v = 0)) = none ∧ atI (ofF n f) 0 = -1) ∨ ∃ v : Nat, v < n ∧ f v = 0 ∧ (∀ u, u < v → f u ≠ 0) ∧ ((List.range n).find? fun v => decide (f v = 0)) = some v ∧ atI (ofF n f) 0 = v := by
  rcases atI_cases (ofF n f) 0 with ⟨h1, h2⟩ | ⟨i, h1, h2, h3⟩
  · refine .inl ⟨?_, h2⟩
    rw [List.find?_eq_none]
    intro v hv hd
    exact h1 (List.mem_of_getElem? (i := v) (by rw [ofF_get (List.mem_range.1 hv)]; simpa using hd))
  · have hi : i < n := by
      have := (List.getElem?_eq_some_iff.1 h2).1
      rwa [ofF_len] at this
    rw [ofF_get hi] at h2
    have h0 : f i = 0 := Option.some.inj h2
    have hl : ∀ u, u < i → f u ≠ 0 := fun u hu e => h3 u hu (by rw [ofF_get (by omega), e])
    refine .inr ⟨i, hi, h0, hl, ?_, h1⟩
    rw [List.find?_eq_some_iff_getElem]
    exact ⟨by simpa using h0, i, by simpa using hi, by simp, fun j hj => by simpa using hl j hj⟩

def ctr (i : Nat) (E : Nat → Nat → Bool) (v : Nat) : Nat := (List.range i).countP fun u => E u v
theorem ctr_succ (i : Nat) (E : Nat → Nat → Bool) (v : Nat) : ctr (i + 1) E v = ctr i E v + if E i v then 1 else 0 := by
  unfold ctr
  rw [List.range_succ, List.countP_append]
  simp [List.countP_cons]
theorem ctr_le (i : Nat) (E : Nat → Nat → Bool) (v : Nat) : ctr i E v ≤ i := Nat.le_trans List.countP_le_length (by simp)

theorem rowOf_in {n : Nat} {E : Nat → Nat → Bool} {u v : Nat} (hv : v < n) : ((v : Int) ∈ rowOf n E u) = (E u v = true) := by
  refine propext ⟨fun h => ?_, fun h => rowOf_mem.2 ⟨v, rfl, hv, h⟩⟩
  obtain ⟨w, e, _, h⟩ := rowOf_mem.1 h
  have : v = w := by omega
  rw [this]; exact h
theorem rowOf_nodup (n : Nat) (E : Nat → Nat → Bool) (u : Nat) : (rowOf n E u).Nodup := by
  unfold rowOf
  refine List.Pairwise.map _ (fun a b h => by omega) ((List.nodup_range (n := n)).filter _)

theorem order_l1 {n : Nat} {E : Nat → Nat → Bool} (hn : n ≤ 256) (X X' : List (List Int)) (g : Nat → Int) (hg : ∀ v, 0 ≤ g v ∧ g v ≤ 1000) (c i : Int) (u : Nat) (r : List Int × Bool) (next : Ev (fun k => graph_Order.l0 k n X (ofF n (fun v => g v + if (v : Int) ∈ rowOf n E u then 1 else 0)) X' c (wrap64 (i + 1))) r) : ∀ (rest pre : List Int), rowOf n E u = pre ++ rest →
    Ev (fun k => graph_Order.l1 k n X (ofF n (fun v => g v + if (v : Int) ∈ pre then 1 else 0)) X' c i (rowOf n E u) ((rowOf n E u).length : Int) (pre.length : Int)) r := by
  intro rest
  induction rest with
  | nil =>
    intro pre h
    rw [List.append_nil] at h
    rw [← h]
    refine Ev_unroll ?_
    simp only [graph_Order.l1]
    exact Ev_neg (by omega) next
  | cons x rest ih =>
    intro pre h
    obtain ⟨w, rfl, hw, he⟩ := rowOf_mem.1 (show x ∈ rowOf n E u by rw [h]; simp)
    have hlen : (rowOf n E u).length = pre.length + (rest.length + 1) := by rw [h]; simp
    have hrl := rowOf_len n E u
    have hrd : rd (rowOf n E u) (pre.length : Int) = w := by rw [h]; exact rd_mid pre rest w
    have hnd := rowOf_nodup n E u
    rw [h] at hnd
    have hnp : (w : Int) ∉ pre := fun hm => (List.nodup_append.1 hnd).2.2 _ hm _ (by simp) rfl
    have key := ih (pre ++ [(w : Int)]) (by rw [h]; simp)
    have hgw := hg w
    refine Ev_unroll ?_
    simp only [graph_Order.l1, hrd, rd_ofF hw, if_neg hnp, Int.toNat_natCast, ofF_set]
    refine Ev_pos (by omega) (Ev_pos (by omega) (Ev_pos (by omega) (Ev_pos (by omega) (Ev_pos (by rw [ofF_len]; omega) ?_))))
    rw [wrap_le (i := (pre.length : Int)) (by omega) (by omega), Int.add_zero, wrap_le (by omega) (by omega)]
    rw [ofF_congr (g := fun v => g v + if (v : Int) ∈ pre ++ [(w : Int)] then 1 else 0) (fun v hv => ?_)]
    · simpa using key
    · by_cases e : v = w
      · subst e; simp
      · rw [if_neg e]
        have : (v : Int) ≠ w := by omega
        simp [this]

theorem order_l0 {n : Nat} {E : Nat → Nat → Bool} (hn : n ≤ 256) (r : List Int × Bool) (next : Ev (fun k => graph_Order.l2 k n (rows n E) (ofF n (fun v => (ctr n E v : Int))) []) r) : ∀ (d i : Nat), i + d = n →
    Ev (fun k => graph_Order.l0 k n (rows n E) (ofF n (fun v => (ctr i E v : Int))) (rows n E) ((rows n E).length : Int) (i : Int)) r := by
  intro d
  induction d with
  | zero =>
    intro i hi
    obtain rfl : i = n := by omega
    refine Ev_unroll ?_
    simp only [graph_Order.l0]
    exact Ev_neg (by rw [rows_len]; omega) next
  | succ d ih =>
    intro i hi
    have key := ih (i + 1) (by omega)
    have hi' : (wrap64 ((i : Int) + 1)) = ((i + 1 : Nat) : Int) := by rw [wrap_le (by omega) (by omega)]; omega
    refine Ev_unroll ?_
    simp only [graph_Order.l0]
    refine Ev_pos (by rw [rows_len]; omega) (Ev_pos (by omega) (Ev_pos (by rw [rows_len]; omega) ?_))
    rw [rd_rows (by omega) (by omega), Int.toNat_natCast]
    have := order_l1 (E := E) hn (rows n E) (rows n E) (fun v => (ctr i E v : Int)) (fun v => by have := ctr_le i E v; omega) ((rows n E).length : Int) (i : Int) i r (by
      rw [hi']
      rw [ofF_congr (g := fun v => (ctr (i + 1) E v : Int)) (fun v hv => ?_)]
      · exact key
      · rw [ctr_succ]
        simp only [rowOf_in hv]
        split <;> simp) (rowOf n E i) [] rfl
    simpa using this

/-- What waits is told by: -1 where the node is out, else how many predecessors are not out. -/
def wt (n : Nat) (E : Nat → Nat → Bool) (o : List Int) (v : Nat) : Int := if (v : Int) ∈ o then -1 else ((List.range n).countP fun u => E u v && decide ((u : Int) ∉ o) : Nat)
def free? (n : Nat) (E : Nat → Nat → Bool) (o : List Int) : Option Nat := (List.range n).find? fun v => decide (wt n E o v = 0)
def topo (n : Nat) (E : Nat → Nat → Bool) : Nat → List Int → List Int × Bool
  | 0, o => (o, true)
  | d + 1, o => match free? n E o with
    | none => ([], false)
    | some v => topo n E d (o ++ [(v : Int)])

theorem wt_free {n : Nat} {E : Nat → Nat → Bool} (hE : ∀ v w, E v w = true → v < n ∧ w < n) {o : List Int} {v : Nat} : wt n E o v = 0 ↔ (v : Int) ∉ o ∧ ∀ u, E u v = true → (u : Int) ∈ o := by
  unfold wt
  by_cases h : (v : Int) ∈ o
  · rw [if_pos h]; exact ⟨fun h => by omega, fun h2 => absurd h h2.1⟩
  · rw [if_neg h]
    constructor
    · intro h0
      refine ⟨h, fun u hu => Decidable.byContradiction fun hn => ?_⟩
      have := List.countP_eq_zero.1 (show (List.range n).countP (fun u => E u v && decide ((u : Int) ∉ o)) = 0 by omega) u (List.mem_range.2 (hE u v hu).1)
      simp [hu, hn] at this
    · intro ⟨_, h2⟩
      have : (List.range n).countP (fun u => E u v && decide ((u : Int) ∉ o)) = 0 := List.countP_eq_zero.2 (fun u _ hu => by
        simp only [Bool.and_eq_true, decide_eq_true_eq] at hu
        exact hu.2 (h2 u hu.1))
      omega
theorem wt_bound (n : Nat) (E : Nat → Nat → Bool) (o : List Int) (v : Nat) : -1 ≤ wt n E o v ∧ wt n E o v ≤ n := by
  unfold wt
  split
  · omega
  · have : (List.range n).countP (fun u => E u v && decide ((u : Int) ∉ o)) ≤ n := Nat.le_trans List.countP_le_length (by simp)
    omega

structure Inv (n : Nat) (E : Nat → Nat → Bool) (o : List Int) : Prop where
  nodup : o.Nodup
  mem : ∀ x ∈ o, ∃ v : Nat, x = v ∧ v < n
  closed : ∀ w : Nat, (w : Int) ∈ o → ∀ u, E u w = true → (u : Int) ∈ o
theorem Inv.nil (n : Nat) (E : Nat → Nat → Bool) : Inv n E [] := ⟨List.nodup_nil, by simp, by simp⟩
theorem Inv.snoc {n : Nat} {E : Nat → Nat → Bool} (hE : ∀ v w, E v w = true → v < n ∧ w < n) {o : List Int} {v : Nat} (h : Inv n E o) (hv : v < n) (hf : wt n E o v = 0) : Inv n E (o ++ [(v : Int)]) := by
  obtain ⟨h1, h2⟩ := (wt_free hE).1 hf
  refine ⟨?_, fun x hx => ?_, fun w hw u hu => ?_⟩
  · rw [List.nodup_append]
    refine ⟨h.nodup, by simp, fun a ha b hb e => ?_⟩
    subst e
    exact h1 (by rw [List.mem_singleton.1 hb] at ha; exact ha)
  · rcases List.mem_append.1 hx with hx | hx
    · exact h.mem x hx
    · exact ⟨v, List.mem_singleton.1 hx, hv⟩
  · rcases List.mem_append.1 hw with hw | hw
    · exact List.mem_append_left _ (h.closed w hw u hu)
    · have : w = v := by have := List.mem_singleton.1 hw; omega
      subst this
      exact List.mem_append_left _ (h2 u hu)
theorem free_some {n : Nat} {E : Nat → Nat → Bool} {o : List Int} {v : Nat} (h : free? n E o = some v) : v < n ∧ wt n E o v = 0 ∧ ∀ u, u < v → wt n E o u ≠ 0 := by
  unfold free? at h
  rcases atI_ofF n (wt n E o) with ⟨h1, _⟩ | ⟨w, h1, h2, h3, h4, _⟩
  · rw [h1] at h; cases h
  · rw [h4] at h
    obtain rfl := Option.some.inj h
    exact ⟨h1, h2, h3⟩
theorem wt_snoc {n : Nat} {E : Nat → Nat → Bool} (hE : ∀ v w, E v w = true → v < n ∧ w < n) {o : List Int} {v : Nat} (h : Inv n E o) (hv : v < n) (hf : wt n E o v = 0) {x : Nat} (hx : x < n) : (if x = v then -1 else wt n E o x) + (if (x : Int) ∈ rowOf n E v then -1 else 0) = wt n E (o ++ [(v : Int)]) x := by
  obtain ⟨h1, h2⟩ := (wt_free hE).1 hf
  simp only [rowOf_in hx]
  by_cases e : x = v
  · subst e
    have : ¬ E x x = true := fun he => h1 (h2 x he)
    rw [if_pos rfl, if_neg this]
    unfold wt
    rw [if_pos (by simp)]; rfl
  · rw [if_neg e]
    by_cases hm : (x : Int) ∈ o
    · have : ¬ E v x = true := fun he => h1 (h.closed x hm v he)
      rw [if_neg this]
      unfold wt
      rw [if_pos hm, if_pos (by simp [hm])]; rfl
    · have hm2 : (x : Int) ∉ o ++ [(v : Int)] := by simp only [List.mem_append, List.mem_singleton, not_or]; exact ⟨hm, by omega⟩
      unfold wt
      rw [if_neg hm, if_neg hm2]
      by_cases he : E v x = true
      · rw [if_pos he]
        have := countP_one (n := n) (w := v) (p := fun u => E u x && decide ((u : Int) ∉ o)) (q := fun u => E u x && decide ((u : Int) ∉ o ++ [(v : Int)])) hv (by simp [he, h1]) (by simp) (fun u hu hne => by
          have : (u : Int) ≠ v := by omega
          simp [this])
        omega
      · rw [if_neg he]
        have : (List.range n).countP (fun u => E u x && decide ((u : Int) ∉ o)) = (List.range n).countP (fun u => E u x && decide ((u : Int) ∉ o ++ [(v : Int)])) := List.countP_congr (fun u hu => by
          by_cases e2 : u = v
          · subst e2; simp [he]
          · have : (u : Int) ≠ v := by omega
            simp [this])
        omega

theorem order_l3 {n : Nat} {E : Nat → Nat → Bool} (hn : n ≤ 256) (X : List (List Int)) (o : List Int) (g : Nat → Int) (hg : ∀ v, -1 ≤ g v ∧ g v ≤ 1000) (u : Nat) (r : List Int × Bool) (next : Ev (fun k => graph_Order.l2 k n X (ofF n (fun v => g v + if (v : Int) ∈ rowOf n E u then -1 else 0)) o) r) : ∀ (rest pre : List Int), rowOf n E u = pre ++ rest →
    Ev (fun k => graph_Order.l3 k n X (ofF n (fun v => g v + if (v : Int) ∈ pre then -1 else 0)) o (rowOf n E u) ((rowOf n E u).length : Int) (pre.length : Int)) r := by
  intro rest
  induction rest with
  | nil =>
    intro pre h
    rw [List.append_nil] at h
    rw [← h]
    refine Ev_unroll ?_
    simp only [graph_Order.l3]
    exact Ev_neg (by omega) next
  | cons x rest ih =>
    intro pre h
    obtain ⟨w, rfl, hw, he⟩ := rowOf_mem.1 (show x ∈ rowOf n E u by rw [h]; simp)
    have hlen : (rowOf n E u).length = pre.length + (rest.length + 1) := by rw [h]; simp
    have hrl := rowOf_len n E u
    have hrd : rd (rowOf n E u) (pre.length : Int) = w := by rw [h]; exact rd_mid pre rest w
    have hnd := rowOf_nodup n E u
    rw [h] at hnd
    have hnp : (w : Int) ∉ pre := fun hm => (List.nodup_append.1 hnd).2.2 _ hm _ (by simp) rfl
    have key := ih (pre ++ [(w : Int)]) (by rw [h]; simp)
    have hgw := hg w
    have hwr : wrap64 (g w + 0 - 1) = g w - 1 := by unfold wrap64; omega
    refine Ev_unroll ?_
    simp only [graph_Order.l3, hrd, rd_ofF hw, if_neg hnp, Int.toNat_natCast, ofF_set, hwr]
    refine Ev_pos (by omega) (Ev_pos (by omega) (Ev_pos (by omega) (Ev_pos (by omega) (Ev_pos (by rw [ofF_len]; omega) ?_))))
    rw [wrap_le (i := (pre.length : Int)) (by omega) (by omega)]
    rw [ofF_congr (g := fun v => g v + if (v : Int) ∈ pre ++ [(w : Int)] then -1 else 0) (fun v hv => ?_)]
    · simpa using key
    · by_cases e : v = w
      · subst e; simp; omega
      · rw [if_neg e]
        have : (v : Int) ≠ w := by omega
        simp [this]

theorem order_l2 {n : Nat} {E : Nat → Nat → Bool} (hE : ∀ v w, E v w = true → v < n ∧ w < n) (hn : n ≤ 256) : ∀ (d : Nat) (o : List Int), o.length + d = n → Inv n E o →
    Ev (fun k => graph_Order.l2 k n (rows n E) (ofF n (wt n E o)) o) (topo n E d o) := by
  intro d
  induction d with
  | zero =>
    intro o hl hi
    refine Ev_unroll ?_
    simp only [graph_Order.l2]
    exact Ev_neg (by omega) (Ev.now _)
  | succ d ih =>
    intro o hl hi
    have hix := index_run (ofF n (wt n E o)) 0 (by rw [ofF_len]; omega)
    refine Ev_unroll ?_
    simp only [graph_Order.l2]
    refine Ev_pos (by omega) (Ev.bind hix ?_)
    rcases atI_ofF n (wt n E o) with ⟨h1, h2⟩ | ⟨v, hv, hf, _, h1, h2⟩
    · rw [h2]
      have : topo n E (d + 1) o = ([], false) := by simp only [topo, free?, h1]
      rw [this]
      exact Ev_pos (by omega) (Ev.now _)
    · rw [h2]
      have : topo n E (d + 1) o = topo n E d (o ++ [(v : Int)]) := by simp only [topo, free?, h1]
      rw [this]
      refine Ev_neg (by omega) (Ev_pos (by omega) (Ev_pos (by rw [ofF_len]; omega) (Ev_pos (by omega) (Ev_pos (by rw [rows_len]; omega) ?_))))
      rw [rd_rows (by omega) (by omega), Int.toNat_natCast, ofF_set]
      have key := ih (o ++ [(v : Int)]) (by simp; omega) (hi.snoc hE hv hf)
      have := order_l3 (E := E) hn (rows n E) (o ++ [(v : Int)]) (fun w => if w = v then -1 else wt n E o w) (fun w => by have := wt_bound n E o w; split <;> omega) v (topo n E d (o ++ [(v : Int)])) (by
        rw [ofF_congr (fun x hx => wt_snoc hE hi hv hf hx)]
        exact key) (rowOf n E v) [] rfl
      simpa using this

theorem order_run {n : Nat} {l : List S31} (h : graph_Right.f n l = some true) : Ev (fun k => graph_Order.f k n l) (topo n (arcB l) n []) := by
  obtain ⟨_, hn, hll, _⟩ := right_of h
  have hE := arcs_in h
  have key := order_l2 hE (by omega) n [] (by simp) (Inv.nil _ _)
  have h0 := order_l0 (n := n) (E := arcB l) (by omega) (topo n (arcB l) n []) (by
    rw [ofF_congr (g := wt n (arcB l) []) (fun v hv => by simp [wt, ctr])]
    exact key) n 0 (by omega)
  unfold graph_Order.f
  refine Ev_eq h (Ev_pos rfl (Ev_eq (links_rows h) (Ev_pos (by omega) (Ev_pos (by omega) ?_))))
  rw [Int.toNat_natCast, ofF_zero]
  exact h0
theorem order_none {n : Int} {l : List S31} (h : graph_Right.f n l = some false) : Ev (fun k => graph_Order.f k n l) ([], false) := by
  unfold graph_Order.f
  exact Ev_eq h (Ev_neg (by simp) (Ev.now _))
end Go.Proofs.Ytibnodjlcaodeaa.G
