/-
  graph.far: the lengths of the shortest walks from a node (breadth first).
-/
import Derived.Test.YtibnodjlcaodeaaTA1
import Derived.Test.YtibnodjlcaodeaaTK7
namespace Go.Proofs.Ytibnodjlcaodeaa.G
open Go.RowKit Go.Proofs.YtibnodjlcaodeaaW.PrintWords Go.Proofs.YtibnodjlcaodeaaW.PrintLast Go.Proofs.YtibnodjlcaodeaaW.PrintMore
set_option linter.unusedVariables false
set_option linter.unusedSimpArgs false

/-- A walk of k arcs. -/
def Wk (E : Nat → Nat → Bool) : Nat → Nat → Nat → Prop
  | 0, a, b => a = b
  | k + 1, a, b => ∃ c, E a c = true ∧ Wk E k c b
theorem Wk.snoc {E : Nat → Nat → Bool} : ∀ {k a b c : Nat}, Wk E k a b → E b c = true → Wk E (k + 1) a c
  | 0, a, b, c, h, e => by obtain rfl : a = b := h; exact ⟨c, e, rfl⟩
  | k + 1, a, b, c, ⟨d, h1, h2⟩, e => ⟨d, h1, Wk.snoc h2 e⟩
theorem Wk.unsnoc {E : Nat → Nat → Bool} : ∀ {k a c : Nat}, Wk E (k + 1) a c → ∃ b, Wk E k a b ∧ E b c = true
  | 0, a, c, ⟨d, h1, h2⟩ => by obtain rfl : d = c := h2; exact ⟨a, rfl, h1⟩
  | k + 1, a, c, ⟨d, h1, h2⟩ => by
    obtain ⟨b, h3, h4⟩ := Wk.unsnoc h2
    exact ⟨b, ⟨d, h1, h3⟩, h4⟩
theorem Wk.comp {E : Nat → Nat → Bool} : ∀ {j k a b c : Nat}, Wk E j a b → Wk E k b c → Wk E (j + k) a c
  | 0, k, a, b, c, h, g => by obtain rfl : a = b := h; rwa [Nat.zero_add]
  | j + 1, k, a, b, c, ⟨d, h1, h2⟩, g => by
    rw [show j + 1 + k = (j + k) + 1 by omega]
    exact ⟨d, h1, Wk.comp h2 g⟩
/-- The other direction. -/
def flip (E : Nat → Nat → Bool) : Nat → Nat → Bool := fun v w => E w v
theorem Wk.flip {E : Nat → Nat → Bool} : ∀ {k a b : Nat}, Wk E k a b → Wk (G.flip E) k b a
  | 0, a, b, h => Eq.symm h
  | k + 1, a, b, ⟨c, h1, h2⟩ => Wk.snoc (Wk.flip h2) h1
theorem Wk_flip {E : Nat → Nat → Bool} {k a b : Nat} : Wk (G.flip E) k a b ↔ Wk E k b a := ⟨fun h => h.flip, fun h => h.flip⟩

def rowOf (n : Nat) (E : Nat → Nat → Bool) (v : Nat) : List Int := ((List.range n).filter (E v)).map fun w : Nat => (w : Int)
def rows (n : Nat) (E : Nat → Nat → Bool) : List (List Int) := (List.range n).map (rowOf n E)
theorem rowOf_mem {n : Nat} {E : Nat → Nat → Bool} {v : Nat} {x : Int} : x ∈ rowOf n E v ↔ ∃ w : Nat, x = w ∧ w < n ∧ E v w = true := by
  unfold rowOf
  simp only [List.mem_map, List.mem_filter, List.mem_range]
  constructor
  · rintro ⟨w, ⟨h1, h2⟩, rfl⟩; exact ⟨w, rfl, h1, h2⟩
  · rintro ⟨w, rfl, h1, h2⟩; exact ⟨w, ⟨h1, h2⟩, rfl⟩
theorem rowOf_len (n : Nat) (E : Nat → Nat → Bool) (v : Nat) : (rowOf n E v).length ≤ n := by
  unfold rowOf
  rw [List.length_map]
  exact Nat.le_trans (List.length_filter_le _ _) (by simp)
theorem rows_len (n : Nat) (E : Nat → Nat → Bool) : (rows n E).length = n := by simp [rows]
theorem rd_rows {n : Nat} {E : Nat → Nat → Bool} {v : Int} (h0 : 0 ≤ v) (h1 : v < n) : rd_L4 (rows n E) v = rowOf n E v.toNat := rd_map n _ v h0 h1

/-- D tells the shortest walks from s. -/
def IsDist (E : Nat → Nat → Bool) (s w k : Nat) : Prop := Wk E k s w ∧ ∀ j, Wk E j s w → k ≤ j
structure FarSpec (n : Nat) (E : Nat → Nat → Bool) (s : Nat) (D : List Int) : Prop where
  len : D.length = n
  each : ∀ w, w < n → (rd D w = -1 ∧ ∀ k, ¬ Wk E k s w) ∨ ∃ k : Nat, rd D w = k ∧ k ≤ n ∧ IsDist E s w k

theorem rd_set_same {D : List Int} {i : Int} {x : Int} (h0 : 0 ≤ i) (h1 : i < (D.length : Int)) : rd (D.set i.toNat x) i = x := by
  unfold rd
  rw [List.getD_eq_getElem?_getD, List.getElem?_set_self (by omega)]; rfl
theorem rd_set_other {D : List Int} {i j : Int} {x : Int} (h0 : 0 ≤ i) (h1 : 0 ≤ j) (hne : i ≠ j) : rd (D.set i.toNat x) j = rd D j := by
  unfold rd
  rw [List.getD_eq_getElem?_getD, List.getElem?_set_ne (by omega), ← List.getD_eq_getElem?_getD]

/-- How many nodes have no number yet. -/
def un (n : Nat) (D : List Int) : Nat := (List.range n).countP fun w : Nat => decide (rd D (w : Int) < 0)
theorem countP_one {n w : Nat} {p q : Nat → Bool} (hw : w < n) (hp : p w = true) (hq : q w = false) (h : ∀ v, v < n → v ≠ w → p v = q v) : (List.range n).countP p = (List.range n).countP q + 1 := by
  induction n with
  | zero => omega
  | succ n ih =>
    rw [List.range_succ, List.countP_append, List.countP_append]
    rcases Nat.lt_or_ge w n with h1 | h1
    · rw [ih h1 (fun v hv => h v (by omega))]
      have := h n (by omega) (by omega)
      simp only [List.countP_cons, List.countP_nil, this]
      omega
    · have : w = n := by omega
      subst this
      have e : (List.range w).countP p = (List.range w).countP q := by
        apply List.countP_congr
        intro v hv
        have hv := List.mem_range.1 hv
        rw [h v (by omega) (by omega)]
      rw [e]
      simp [List.countP_cons, hp, hq]
theorem un_set {n : Nat} {D : List Int} {w : Nat} {c : Int} (hl : D.length = n) (hw : w < n) (hn : rd D w < 0) (hc : 0 ≤ c) : un n D = un n (D.set w c) + 1 := by
  unfold un
  refine countP_one hw (by simpa using hn) ?_ ?_
  · have := rd_set_same (D := D) (i := (w : Int)) (x := c) (by omega) (by omega)
    rw [Int.toNat_natCast] at this
    simp only [this, decide_eq_false_iff_not]; omega
  · intro v hv hne
    have := rd_set_other (D := D) (i := (w : Int)) (j := (v : Int)) (x := c) (by omega) (by omega) (by omega)
    rw [Int.toNat_natCast] at this
    simp only [this]


/-- The state of the search between two nodes: m is what is left to do. -/
structure BInv (n : Nat) (E : Nat → Nat → Bool) (s : Nat) (D q : List Int) : Prop where
  len : D.length = n
  src : rd D s = 0
  qin : ∀ x ∈ q, 0 ≤ x ∧ x < n ∧ 0 ≤ rd D x
  walk : ∀ w : Nat, w < n → 0 ≤ rd D w → Wk E (rd D w).toNat s w
  neg : ∀ w : Nat, w < n → rd D w < 0 → rd D w = -1
  sorted : q.Pairwise (fun a b => rd D a ≤ rd D b)
  top : ∀ w : Nat, w < n → ∀ x ∈ q, rd D w ≤ rd D x + 1
  done : ∀ u : Nat, u < n → 0 ≤ rd D u → (u : Int) ∉ q → ∀ w : Nat, w < n → E u w = true → 0 ≤ rd D w ∧ rd D w ≤ rd D u + 1
  bnd : ∀ w : Nat, w < n → rd D w + ((q.length + un n D : Nat) : Int) ≤ n

/-- .. and while node u's neighbours are looked at. -/
structure LInv (n : Nat) (E : Nat → Nat → Bool) (s u : Nat) (D q : List Int) (seen : Nat → Prop) : Prop where
  len : D.length = n
  src : rd D s = 0
  un0 : 0 ≤ rd D u
  qin : ∀ x ∈ q, 0 ≤ x ∧ x < n ∧ 0 ≤ rd D x
  walk : ∀ w : Nat, w < n → 0 ≤ rd D w → Wk E (rd D w).toNat s w
  neg : ∀ w : Nat, w < n → rd D w < 0 → rd D w = -1
  sorted : q.Pairwise (fun a b => rd D a ≤ rd D b)
  low : ∀ x ∈ q, rd D u ≤ rd D x
  cap : ∀ w : Nat, w < n → rd D w ≤ rd D u + 1
  done : ∀ v : Nat, v < n → v ≠ u → 0 ≤ rd D v → (v : Int) ∉ q → ∀ w : Nat, w < n → E v w = true → 0 ≤ rd D w ∧ rd D w ≤ rd D v + 1
  mine : ∀ w : Nat, w < n → E u w = true → seen w → 0 ≤ rd D w
  bnd : rd D u + 1 + ((q.length + un n D : Nat) : Int) ≤ n

theorem LInv.start {n : Nat} {E : Nat → Nat → Bool} {s u : Nat} {D q : List Int} (hu : u < n) (h : BInv n E s D ((u : Int) :: q)) : LInv n E s u D q (fun _ => False) where
  len := h.len
  src := h.src
  un0 := (h.qin u (by simp)).2.2
  qin := fun x hx => h.qin x (by simp [hx])
  walk := h.walk
  neg := h.neg
  sorted := (List.pairwise_cons.1 h.sorted).2
  low := fun x hx => (List.pairwise_cons.1 h.sorted).1 x hx
  cap := fun w hw => h.top w hw u (by simp)
  done := fun v hv hne h0 hq w hw he => h.done v hv h0 (by simp only [List.mem_cons, not_or]; exact ⟨by omega, hq⟩) w hw he
  mine := fun _ _ _ hf => hf.elim
  bnd := by
    have := h.bnd u hu
    simp only [List.length_cons] at this
    omega

theorem LInv.old {n : Nat} {E : Nat → Nat → Bool} {s u : Nat} {D q : List Int} {seen : Nat → Prop} {w : Nat} (h : LInv n E s u D q seen) (h0 : 0 ≤ rd D w) : LInv n E s u D q (fun v => seen v ∨ v = w) :=
  { h with mine := fun v hv he hs => hs.elim (fun hs => h.mine v hv he hs) (fun e => by rw [e]; exact h0) }

theorem LInv.new {n : Nat} {E : Nat → Nat → Bool} {s u : Nat} {D q : List Int} {seen : Nat → Prop} {w : Nat} (hu : u < n) (hw : w < n) (he : E u w = true) (h : LInv n E s u D q seen) (h0 : rd D w < 0) : LInv n E s u (D.set w (rd D u + 1)) (q ++ [(w : Int)]) (fun v => seen v ∨ v = w) := by
  have hul := h.un0
  have hs : rd (D.set w (rd D u + 1)) w = rd D u + 1 := by
    have := rd_set_same (D := D) (i := (w : Int)) (x := rd D u + 1) (by omega) (by have := h.len; omega)
    rwa [Int.toNat_natCast] at this
  have ho : ∀ v : Int, 0 ≤ v → v ≠ w → rd (D.set w (rd D u + 1)) v = rd D v := fun v hv hne => by
    have := rd_set_other (D := D) (i := (w : Int)) (j := v) (x := rd D u + 1) (by omega) hv (by omega)
    rwa [Int.toNat_natCast] at this
  have hq : ∀ x ∈ q, rd (D.set w (rd D u + 1)) x = rd D x := fun x hx => by
    obtain ⟨h1, h2, h3⟩ := h.qin x hx
    exact ho x h1 (by rintro rfl; omega)
  have huu : rd (D.set w (rd D u + 1)) u = rd D u := ho u (by omega) (by rintro e; rw [e] at hul; omega)
  have hss : rd (D.set w (rd D u + 1)) s = 0 := by
    rw [ho s (by omega) (by rintro e; have := h.src; rw [e] at this; omega)]
    exact h.src
  have hall : ∀ v : Nat, v < n → v ≠ w → rd (D.set w (rd D u + 1)) v = rd D v := fun v _ hne => ho v (by omega) (by omega)
  exact
  { len := by simp [h.len]
    src := hss
    un0 := by rw [huu]; exact hul
    qin := fun x hx => by
      rcases List.mem_append.1 hx with hx | hx
      · rw [hq x hx]; exact h.qin x hx
      · obtain rfl := List.mem_singleton.1 hx
        rw [hs]; omega
    walk := fun v hv hp => by
      by_cases e : v = w
      · subst e
        rw [hs] at hp ⊢
        rw [show (rd D u + 1).toNat = (rd D u).toNat + 1 by omega]
        exact (h.walk u hu hul).snoc he
      · rw [hall v hv e] at hp ⊢
        exact h.walk v hv hp
    neg := fun v hv hp => by
      by_cases e : v = w
      · subst e; rw [hs] at hp; omega
      · rw [hall v hv e] at hp ⊢; exact h.neg v hv hp
    sorted := by
      rw [List.pairwise_append]
      refine ⟨(List.Pairwise.and_mem.1 h.sorted).imp (fun ⟨ha, hb, hab⟩ => by rw [hq _ ha, hq _ hb]; exact hab), by simp, fun a ha b hb => ?_⟩
      obtain rfl := List.mem_singleton.1 hb
      rw [hs, hq a ha]
      have := h.qin a ha
      have h2 := h.cap a.toNat (by omega)
      rw [show ((a.toNat : Nat) : Int) = a by omega] at h2
      exact h2
    low := fun x hx => by
      rw [huu]
      rcases List.mem_append.1 hx with hx | hx
      · rw [hq x hx]; exact h.low x hx
      · obtain rfl := List.mem_singleton.1 hx
        rw [hs]; omega
    cap := fun v hv => by
      rw [huu]
      by_cases e : v = w
      · subst e; rw [hs]; omega
      · rw [hall v hv e]; exact h.cap v hv
    done := fun v hv hne hp hnq x hx hex => by
      have hvw : v ≠ w := by rintro rfl; simp at hnq
      rw [hall v hv hvw] at hp ⊢
      have h1 := h.done v hv hne hp (fun hm => hnq (List.mem_append_left _ hm)) x hx hex
      have hxw : x ≠ w := by rintro rfl; omega
      rw [hall x hx hxw]
      exact h1
    mine := fun v hv hev hsv => by
      by_cases e : v = w
      · subst e; rw [hs]; omega
      · rw [hall v hv e]
        rcases hsv with hsv | hsv
        · exact h.mine v hv hev hsv
        · exact absurd hsv e
    bnd := by
      rw [huu]
      have h1 := h.bnd
      have h2 := un_set (c := rd D u + 1) h.len hw h0 (by omega)
      simp only [List.length_append, List.length_singleton]
      omega }

theorem LInv.finish {n : Nat} {E : Nat → Nat → Bool} {s u : Nat} {D q : List Int} {seen : Nat → Prop} (h : LInv n E s u D q seen) (hs : ∀ w : Nat, w < n → E u w = true → seen w) : BInv n E s D q where
  len := h.len
  src := h.src
  qin := h.qin
  walk := h.walk
  neg := h.neg
  sorted := h.sorted
  top := fun w hw x hx => by have := h.cap w hw; have := h.low x hx; omega
  done := fun v hv h0 hq w hw he => by
    by_cases e : v = u
    · subst e
      exact ⟨h.mine w hw he (hs w hw he), h.cap w hw⟩
    · exact h.done v hv e h0 hq w hw he
  bnd := fun w hw => by have := h.cap w hw; have := h.bnd; omega

theorem BInv.spec {n : Nat} {E : Nat → Nat → Bool} {s : Nat} {D : List Int} (hE : ∀ v w, E v w = true → v < n ∧ w < n) (hs : s < n) (h : BInv n E s D []) : FarSpec n E s D := by
  have key : ∀ k (w : Nat), w < n → Wk E k s w → 0 ≤ rd D w ∧ rd D w ≤ k := by
    intro k
    induction k with
    | zero => intro w _ hw; obtain rfl : s = w := hw; rw [h.src]; exact ⟨Int.le_refl _, Int.le_refl _⟩
    | succ k ih =>
      intro w hw hk
      obtain ⟨b, h1, h2⟩ := Wk.unsnoc hk
      have hb := (hE b w h2).1
      obtain ⟨h3, h4⟩ := ih b hb h1
      obtain ⟨h5, h6⟩ := h.done b hb h3 (by simp) w hw h2
      exact ⟨h5, by omega⟩
  refine ⟨h.len, fun w hw => ?_⟩
  by_cases h0 : 0 ≤ rd D w
  · refine .inr ⟨(rd D w).toNat, by omega, ?_, h.walk w hw h0, fun j hj => ?_⟩
    · have := h.bnd w hw; omega
    · have := key j w hw hj; omega
  · refine .inl ⟨h.neg w hw (by omega), fun k hk => ?_⟩
    have := key k w hw hk
    omega


theorem rd_mid (pre rest : List Int) (x : Int) : rd (pre ++ x :: rest) (pre.length : Int) = x := by
  unfold rd
  rw [Int.toNat_natCast, List.getD_eq_getElem?_getD, List.getElem?_append_right (Nat.le_refl _)]
  simp

theorem far_l3 {n : Nat} {E : Nat → Nat → Bool} {s u : Nat} (hn : n ≤ 256) (hu : u < n) (rest : List Int) : ∀ (pre D q : List Int) (seen : Nat → Prop), rowOf n E u = pre ++ rest → LInv n E s u D q seen → (∀ w : Nat, (w : Int) ∈ pre → seen w) →
    (∀ D' q', BInv n E s D' q' → q'.length + un n D' = q.length + un n D → ∃ R, FarSpec n E s R ∧ Ev (fun k => graph_far.l2 k (rows n E) D' q') R) →
    ∃ R, FarSpec n E s R ∧ Ev (fun k => graph_far.l3 k (rows n E) D q (u : Int) (rowOf n E u) ((rowOf n E u).length : Int) (pre.length : Int)) R := by
  induction rest with
  | nil =>
    intro pre D q seen hrow h hpre next
    rw [List.append_nil] at hrow
    obtain ⟨R, hR, hev⟩ := next D q (h.finish (fun w hw he => hpre w (by rw [← hrow]; exact rowOf_mem.2 ⟨w, rfl, hw, he⟩))) rfl
    refine ⟨R, hR, Ev.step (fun k => ?_) hev⟩
    simp only [graph_far.l3]
    rw [if_neg (by rw [hrow]; omega)]
  | cons x rest ih =>
    intro pre D q seen hrow h hpre next
    obtain ⟨w, rfl, hw, he⟩ := rowOf_mem.1 (show x ∈ rowOf n E u by rw [hrow]; simp)
    have hlen : (rowOf n E u).length = pre.length + (rest.length + 1) := by rw [hrow]; simp
    have hrl := rowOf_len n E u
    have hrd : rd (rowOf n E u) (pre.length : Int) = w := by rw [hrow]; exact rd_mid pre rest w
    have hrow' : rowOf n E u = (pre ++ [(w : Int)]) ++ rest := by rw [hrow]; simp
    have hwp : wrap64 ((pre.length : Int) + 1) = ((pre ++ [(w : Int)]).length : Int) := by rw [wrap_le (by omega) (by omega)]; simp
    have hDl := h.len
    have hb := h.bnd
    have hu0 := h.un0
    by_cases h0 : rd D w < 0
    · have hpre' : ∀ v : Nat, (v : Int) ∈ pre ++ [(w : Int)] → seen v ∨ v = w := fun v hv => by
        rcases List.mem_append.1 hv with hv | hv
        · exact .inl (hpre v hv)
        · have := List.mem_singleton.1 hv; exact .inr (by omega)
      obtain ⟨R, hR, hev⟩ := ih (pre ++ [(w : Int)]) (D.set w (rd D u + 1)) (q ++ [(w : Int)]) _ hrow' (h.new hu hw he h0) hpre' (fun D' q' hB hm => next D' q' hB (by
        have := un_set (c := rd D u + 1) hDl hw h0 (by omega)
        simp only [List.length_append, List.length_singleton] at hm
        omega))
      refine ⟨R, hR, Ev.step (fun k => ?_) hev⟩
      simp only [graph_far.l3]
      rw [if_pos (by omega), if_pos (by omega), if_pos (by omega), hrd, if_pos (by omega), if_pos (by omega), if_pos h0, if_pos (by omega), if_pos (by omega), if_pos (by omega), hwp, wrap_le (by omega) (by omega), Int.toNat_natCast]
    · have hpre' : ∀ v : Nat, (v : Int) ∈ pre ++ [(w : Int)] → seen v ∨ v = w := fun v hv => by
        rcases List.mem_append.1 hv with hv | hv
        · exact .inl (hpre v hv)
        · have := List.mem_singleton.1 hv; exact .inr (by omega)
      obtain ⟨R, hR, hev⟩ := ih (pre ++ [(w : Int)]) D q _ hrow' (h.old (w := w) (by omega)) hpre' next
      refine ⟨R, hR, Ev.step (fun k => ?_) hev⟩
      simp only [graph_far.l3]
      rw [if_pos (by omega), if_pos (by omega), if_pos (by omega), hrd, if_pos (by omega), if_pos (by omega), if_neg h0, hwp]

theorem far_l2 {n : Nat} {E : Nat → Nat → Bool} {s : Nat} (hE : ∀ v w, E v w = true → v < n ∧ w < n) (hn : n ≤ 256) (hs : s < n) (m : Nat) : ∀ (D q : List Int), q.length + un n D = m → BInv n E s D q →
    ∃ R, FarSpec n E s R ∧ Ev (fun k => graph_far.l2 k (rows n E) D q) R := by
  induction m using Nat.strongRecOn with
  | _ m ih =>
    intro D q hm h
    match q, hm, h with
    | [], hm, h =>
      refine ⟨D, h.spec hE hs, Ev.step (fun k => ?_) (Ev.now D)⟩
      simp only [graph_far.l2]
      rw [if_neg (by simp)]
    | x :: q, hm, h =>
      obtain ⟨hx0, hx1, hxd⟩ := h.qin x (by simp)
      obtain ⟨u, rfl⟩ := Int.eq_ofNat_of_zero_le hx0
      have hu : u < n := by omega
      obtain ⟨R, hR, hev⟩ := far_l3 hn hu (rowOf n E u) [] D q (fun _ => False) rfl (LInv.start hu h) (fun w hw => by simp at hw) (fun D' q' hB hm' => ih _ (by simp only [List.length_cons] at hm; omega) D' q' rfl hB)
      refine ⟨R, hR, Ev.step (fun k => ?_) hev⟩
      simp only [graph_far.l2]
      have e : rd ((u : Int) :: q) 0 = u := rfl
      have hl : (((u : Int) :: q).length : Int) = q.length + 1 := by simp
      rw [if_pos (by omega), if_pos (by omega), if_pos (by omega), e, if_pos (by omega), if_pos (by rw [rows_len]; omega), rd_rows (by omega) (by omega), Int.toNat_natCast]
      rfl

theorem far_l0 {n : Nat} (hn : n ≤ 256) (X : List (List Int)) (src : List Int) (r : List Int) (d : Nat) : ∀ i : Nat, i + d = n →
    Ev (fun k => (slices_Clone_int_int.f src).bind fun t131 => graph_far.l1 k X (List.replicate n (-1)) t131 src (src.length : Int) 0) r →
    Ev (fun k => graph_far.l0 k X src ((List.replicate i (-1)) ++ List.replicate d 0) (n : Int) (i : Int)) r := by
  induction d with
  | zero =>
    intro i hi h
    refine Ev.step (fun k => ?_) h
    simp only [graph_far.l0]
    rw [if_neg (by omega)]
    have : i = n := by omega
    subst this
    simp
  | succ d ih =>
    intro i hi h
    refine Ev.step (fun k => ?_) (ih (i + 1) (by omega) h)
    simp only [graph_far.l0]
    rw [if_pos (by omega), if_pos (by omega), if_pos (by simp; omega), wrap_le (by omega) (by omega)]
    congr 1
    rw [Int.toNat_natCast]
    apply List.ext_getElem?
    intro j
    rw [List.getElem?_set]
    simp only [List.getElem?_append, List.getElem?_replicate, List.length_replicate, List.length_append]
    split <;> (repeat' split) <;> first | rfl | omega | (simp; done) | (simp at *; omega)

/-- graph.far from one node, at a right graph. -/
theorem far_run {n : Nat} {E : Nat → Nat → Bool} {s : Nat} (hE : ∀ v w, E v w = true → v < n ∧ w < n) (hn : n ≤ 256) (hs : s < n) : ∃ R, FarSpec n E s R ∧ Ev (fun k => graph_far.f k (n : Int) (rows n E) [(s : Int)]) R := by
  have hrs : ∀ v : Nat, v < n → rd ((List.replicate n (-1)).set s 0) v = if v = s then 0 else -1 := fun v hv => by
    unfold rd
    rw [Int.toNat_natCast, List.getD_eq_getElem?_getD, List.getElem?_set]
    by_cases e : s = v
    · subst e; simp [hv]
    · rw [if_neg e, if_neg (Ne.symm e)]; simp [hv]
  have hun : un n ((List.replicate n (-1)).set s 0) + 1 ≤ n := by
    have h1 : un n (List.replicate n (-1)) ≤ n := by
      unfold un
      exact Nat.le_trans List.countP_le_length (by simp)
    have h2 := un_set (n := n) (D := List.replicate n (-1)) (w := s) (c := 0) (by simp) hs (by unfold rd; simp [hs]) (by omega)
    omega
  have hB : BInv n E s ((List.replicate n (-1)).set s 0) [(s : Int)] :=
    { len := by simp
      src := by rw [hrs s hs]; simp
      qin := fun x hx => by obtain rfl := List.mem_singleton.1 hx; rw [hrs s hs]; simp; omega
      walk := fun w hw h0 => by
        rw [hrs w hw] at h0 ⊢
        split at h0
        · rename_i e; subst e; simp; rfl
        · omega
      neg := fun w hw h0 => by
        rw [hrs w hw] at h0 ⊢
        split at h0
        · omega
        · rename_i e; rw [if_neg e]
      sorted := by simp
      top := fun w hw x hx => by
        obtain rfl := List.mem_singleton.1 hx
        rw [hrs s hs, hrs w hw]
        split <;> simp
      done := fun v hv h0 hq => by
        rw [hrs v hv] at h0
        split at h0
        · rename_i e; subst e; simp at hq
        · omega
      bnd := fun w hw => by
        rw [hrs w hw]
        simp only [List.length_singleton]
        split <;> omega }
  obtain ⟨R, hR, hev⟩ := far_l2 hE hn hs _ _ _ rfl hB
  refine ⟨R, hR, ?_⟩
  have h1 : Ev (fun k => graph_far.l1 k (rows n E) (List.replicate n (-1)) [(s : Int)] [(s : Int)] (([(s : Int)] : List Int).length : Int) 0) R := by
    refine Ev.step (f := fun k => graph_far.l1 k (rows n E) ((List.replicate n (-1)).set s 0) [(s : Int)] [(s : Int)] (([(s : Int)] : List Int).length : Int) 1) (fun k => ?_) (Ev.step (fun k => ?_) hev)
    · simp only [graph_far.l1]
      have e : rd [(s : Int)] 0 = s := rfl
      rw [if_pos (by simp), if_pos (by omega), if_pos (by simp), e, if_pos (by omega), if_pos (by simp; omega), wrap_le (by omega) (by omega), Int.toNat_natCast]
      rfl
    · simp only [graph_far.l1]
      rw [if_neg (by simp)]
  have h0 := far_l0 hn (rows n E) [(s : Int)] R n 0 (by omega) (by
    refine Ev.congr (fun k => ?_) h1
    unfold slices_Clone_int_int.f
    rw [if_pos (by simp)]
    rfl)
  refine Ev.congr (fun k => ?_) h0
  unfold graph_far.f
  rw [if_pos (by omega), if_pos (by omega)]
  simp

end Go.Proofs.Ytibnodjlcaodeaa.G
