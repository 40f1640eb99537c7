/-
  graph.Loop: a cycle through the least node that lies on one.
-/
import Derived.Test.YtibnodjlcaodeaaA4
import Derived.Test.YtibnodjlcaodeaaK9
namespace Go.Proofs.Ytibnodjlcaodeaa.G
open Go.RowKit Go.Proofs.YtibnodjlcaodeaaW.PrintWords Go.Proofs.YtibnodjlcaodeaaW.PrintLast Go.Proofs.YtibnodjlcaodeaaW.PrintMore
set_option linter.unusedVariables false
set_option linter.unusedSimpArgs false

def NoCycleAt (E : Nat → Nat → Bool) (v : Nat) : Prop := ∀ w k, E v w = true → ¬ Wk E k w v
/-- w is the nearest of some nodes, and the least of those. -/
structure Best (D : List Int) (p : Int → Prop) (w : Nat) : Prop where
  mem : p w
  ok : 0 ≤ rd D w
  min : ∀ x, p x → 0 ≤ rd D x → rd D w ≤ rd D x
  least : ∀ x, p x → rd D x = rd D w → (w : Int) ≤ x
structure CycleAt (n : Nat) (E : Nat → Nat → Bool) (v : Nat) (D : List Int) (w : Nat) (t : List Int) (c : List Int) : Prop where
  tos : ToSpec n E v D
  arc : w < n ∧ E v w = true
  best : Best D (fun x => x ∈ rowOf n E v) w
  walk : Greedy n E D (rd D w).toNat w t
  eq : c = (v : Int) :: ((w : Int) :: t).dropLast
def LoopRes (n : Nat) (E : Nat → Nat → Bool) (c : List Int) : Prop :=
  (c = [] ∧ ∀ v, v < n → NoCycleAt E v) ∨ ∃ v D w t, v < n ∧ (∀ u, u < v → NoCycleAt E u) ∧ CycleAt n E v D w t c

theorem Best.unique {D : List Int} {p : Int → Prop} {w w' : Nat} (h : Best D p w) (h' : Best D p w') : w = w' := by
  have a := h.min w' h'.mem h'.ok
  have b := h'.min w h.mem h.ok
  have e : rd D w = rd D w' := by omega
  have c := h.least w' h'.mem e.symm
  have d := h'.least w h.mem e
  omega
theorem CycleAt.unique {n : Nat} {E : Nat → Nat → Bool} {v : Nat} {D D' : List Int} {w w' : Nat} {t t' c c' : List Int} (h : CycleAt n E v D w t c) (h' : CycleAt n E v D' w' t' c') : c = c' := by
  obtain rfl : D = D' := h.tos.unique h'.tos
  obtain rfl := h.best.unique h'.best
  rw [h.eq, h'.eq, h.walk.unique h'.walk]
theorem CycleAt.is {n : Nat} {E : Nat → Nat → Bool} {v : Nat} {D : List Int} {w : Nat} {t c : List Int} (h : CycleAt n E v D w t c) : ¬ NoCycleAt E v := by
  intro hn
  rcases FarSpec.each h.tos w h.arc.1 with ⟨h1, _⟩ | ⟨k, h1, h2, h3⟩
  · have := h.best.ok; omega
  · exact hn w k h.arc.2 (Wk_flip.1 h3.1)
theorem LoopRes.unique {n : Nat} {E : Nat → Nat → Bool} {c c' : List Int} (h : LoopRes n E c) (h' : LoopRes n E c') : c = c' := by
  rcases h with ⟨rfl, h⟩ | ⟨v, D, w, t, hv, hu, hc⟩ <;> rcases h' with ⟨rfl, h'⟩ | ⟨v', D', w', t', hv', hu', hc'⟩
  · rfl
  · exact absurd (h v' hv') hc'.is
  · exact absurd (h' v hv) hc.is
  · rcases Nat.lt_trichotomy v v' with hlt | rfl | hlt
    · exact absurd (hu' v hlt) hc.is
    · exact hc.unique hc'
    · exact absurd (hu v' hlt) hc'.is

theorem noCycle_iff {n : Nat} {E : Nat → Nat → Bool} (hE : ∀ v w, E v w = true → v < n ∧ w < n) {v : Nat} {D : List Int} (h : ToSpec n E v D) (hn : ∀ x ∈ rowOf n E v, rd D x < 0) : NoCycleAt E v := by
  intro w k he hk
  have hw := (hE v w he).2
  have := hn w (rowOf_mem.2 ⟨w, rfl, hw, he⟩)
  rcases FarSpec.each h w hw with ⟨_, h2⟩ | ⟨j, h1, _⟩
  · exact h2 k hk.flip
  · omega

theorem loop_l1 {n : Nat} {E : Nat → Nat → Bool} (hn : n ≤ 256) {v : Nat} {D : List Int} (hl : D.length = n) (X Y : List (List Int)) (r : List Int)
    (fin : ∀ best : Int, (best = -1 ∧ ∀ x ∈ rowOf n E v, rd D x < 0) ∨ (∃ w : Nat, best = w ∧ Best D (fun x => x ∈ rowOf n E v) w) →
      Ev (fun k => graph_Loop.l1 k n X Y v D best n v (rowOf n E v) ((rowOf n E v).length : Int) ((rowOf n E v).length : Int)) r) :
    ∀ (rest pre : List Int) (best : Int), rowOf n E v = pre ++ rest → ((best = -1 ∧ ∀ x ∈ pre, rd D x < 0) ∨ (∃ w : Nat, best = w ∧ w < n ∧ Best D (fun x => x ∈ pre) w)) →
      Ev (fun k => graph_Loop.l1 k n X Y v D best n v (rowOf n E v) ((rowOf n E v).length : Int) (pre.length : Int)) r := by
  intro rest
  induction rest with
  | nil =>
    intro pre best h hb
    rw [List.append_nil] at h
    have := fin best (hb.imp (fun h2 => by rw [h]; exact h2) (fun ⟨w, h1, _, h2⟩ => ⟨w, h1, by rw [h]; exact h2⟩))
    rw [← h]
    exact this
  | cons x rest ih =>
    intro pre best h hb
    obtain ⟨w, rfl, hw, he⟩ := rowOf_mem.1 (show x ∈ rowOf n E v by rw [h]; simp)
    have hlen : (rowOf n E v).length = pre.length + (rest.length + 1) := by rw [h]; simp
    have hrl := rowOf_len n E v
    have hrd : rd (rowOf n E v) (pre.length : Int) = w := by rw [h]; exact rd_mid pre rest w
    have hsort : (rowOf n E v).Pairwise (· < ·) := by
      unfold rowOf
      rw [List.pairwise_map]
      exact (List.pairwise_lt_range.filter _).imp (fun h => by omega)
    have hless : ∀ y ∈ pre, y < (w : Int) := by
      rw [h] at hsort
      exact fun y hy => (List.pairwise_append.1 hsort).2.2 y hy w (by simp)
    have hi : wrap64 ((pre.length : Int) + 1) = ((pre ++ [(w : Int)]).length : Int) := by rw [wrap_le (by omega) (by omega)]; simp
    have go := fun best => ih (pre ++ [(w : Int)]) best (by rw [h]; simp)
    refine Ev_unroll ?_
    simp only [graph_Loop.l1, hrd, hi]
    refine Ev_pos (by omega) (Ev_pos (by omega) (Ev_pos (by omega) (Ev_pos (by omega) (Ev_pos (by omega) ?_))))
    by_cases h0 : rd D w ≥ 0
    · refine Ev_pos h0 ?_
      rcases hb with ⟨rfl, hb⟩ | ⟨u, rfl, hu, hb⟩
      · refine Ev_pos (by omega) (go _ (.inr ⟨w, rfl, hw, by simp, h0, fun y hy hy0 => ?_, fun y hy hye => ?_⟩))
        · rcases List.mem_append.1 hy with hy | hy
          · have := hb y hy; omega
          · rw [List.mem_singleton.1 hy]; exact Int.le_refl _
        · rcases List.mem_append.1 hy with hy | hy
          · have := hb y hy; omega
          · rw [List.mem_singleton.1 hy]; exact Int.le_refl _
      · refine Ev_neg (by omega) (Ev_pos (by omega) (Ev_pos (by omega) ?_))
        by_cases hlt : rd D w < rd D u
        · refine Ev_pos hlt (go _ (.inr ⟨w, rfl, hw, by simp, h0, fun y hy hy0 => ?_, fun y hy hye => ?_⟩))
          · rcases List.mem_append.1 hy with hy | hy
            · have := hb.min y hy hy0; omega
            · rw [List.mem_singleton.1 hy]; exact Int.le_refl _
          · rcases List.mem_append.1 hy with hy | hy
            · have := hb.min y hy (by omega); omega
            · rw [List.mem_singleton.1 hy]; exact Int.le_refl _
        · refine Ev_neg hlt (go _ (.inr ⟨u, rfl, hu, by simp [hb.mem], hb.ok, fun y hy hy0 => ?_, fun y hy hye => ?_⟩))
          · rcases List.mem_append.1 hy with hy | hy
            · exact hb.min y hy hy0
            · rw [List.mem_singleton.1 hy]; omega
          · rcases List.mem_append.1 hy with hy | hy
            · exact hb.least y hy hye
            · rw [List.mem_singleton.1 hy]; exact Int.le_of_lt (hless _ hb.mem)
    · refine Ev_neg h0 (go _ ?_)
      rcases hb with ⟨rfl, hb⟩ | ⟨u, rfl, hu, hb⟩
      · refine .inl ⟨rfl, fun y hy => ?_⟩
        rcases List.mem_append.1 hy with hy | hy
        · exact hb y hy
        · rw [List.mem_singleton.1 hy]; omega
      · refine .inr ⟨u, rfl, hu, by simp [hb.mem], hb.ok, fun y hy hy0 => ?_, fun y hy hye => ?_⟩
        · rcases List.mem_append.1 hy with hy | hy
          · exact hb.min y hy hy0
          · rw [List.mem_singleton.1 hy] at hy0; omega
        · rcases List.mem_append.1 hy with hy | hy
          · exact hb.least y hy hye
          · rw [List.mem_singleton.1 hy]; exact Int.le_of_lt (hless _ hb.mem)

theorem loop_l0 {n : Nat} {E : Nat → Nat → Bool} (hE : ∀ v w, E v w = true → v < n ∧ w < n) (hn : n ≤ 256) : ∀ (d i : Nat), i + d = n → (∀ u, u < i → NoCycleAt E u) →
    ∃ c, LoopRes n E c ∧ Ev (fun k => graph_Loop.l0 k n (rows n E) (rows n (flip E)) n i) c := by
  intro d
  induction d with
  | zero =>
    intro i hi hu
    obtain rfl : i = n := by omega
    refine ⟨[], .inl ⟨rfl, hu⟩, Ev_unroll ?_⟩
    simp only [graph_Loop.l0]
    exact Ev_neg (by omega) (Ev.now _)
  | succ d ih =>
    intro i hi hu
    have hin : i < n := by omega
    obtain ⟨D, hD, hev⟩ := to_run hE hn hin
    have hl := FarSpec.len hD
    have hrl := rowOf_len n E i
    have start : ∀ r, (∀ best : Int, (best = -1 ∧ ∀ x ∈ rowOf n E i, rd D x < 0) ∨ (∃ w : Nat, best = w ∧ Best D (fun x => x ∈ rowOf n E i) w) →
      Ev (fun k => graph_Loop.l1 k n (rows n E) (rows n (flip E)) i D best n i (rowOf n E i) ((rowOf n E i).length : Int) ((rowOf n E i).length : Int)) r) → Ev (fun k => graph_Loop.l0 k n (rows n E) (rows n (flip E)) n i) r := fun r fin => by
      refine Ev_unroll ?_
      simp only [graph_Loop.l0]
      refine Ev_pos (by omega) (Ev.bind hev (Ev_pos (by omega) (Ev_pos (by rw [rows_len]; omega) ?_)))
      rw [rd_rows (by omega) (by omega), Int.toNat_natCast]
      exact loop_l1 hn hl _ _ r fin (rowOf n E i) [] (-1) rfl (.inl ⟨rfl, by simp⟩)
    by_cases hno : ∀ x ∈ rowOf n E i, rd D x < 0
    · obtain ⟨c, hc, hcev⟩ := ih (i + 1) (by omega) (fun u hui => by
        rcases Nat.lt_or_ge u i with h | h
        · exact hu u h
        · obtain rfl : u = i := by omega
          exact noCycle_iff hE hD hno)
      refine ⟨c, hc, start c (fun best hb => ?_)⟩
      rcases hb with ⟨rfl, _⟩ | ⟨w, rfl, hb⟩
      · refine Ev_unroll ?_
        simp only [graph_Loop.l1]
        refine Ev_neg (by omega) (Ev_neg (by omega) (Ev_neg (by omega) ?_))
        rw [wrap_le (by omega) (by omega)]
        exact hcev
      · have := hno _ hb.mem
        have := hb.ok
        omega
    · have hw : ∃ w : Nat, Best D (fun x => x ∈ rowOf n E i) w := by
        refine Classical.byContradiction fun hc => hno ?_
        refine Classical.byContradiction fun hno' => ?_
        have key : ∀ (rest pre : List Int), rowOf n E i = pre ++ rest → (∃ w : Nat, Best D (fun x => x ∈ pre) w) ∨ ∀ x ∈ pre, rd D x < 0 := by
          intro rest
          have main : ∀ (xs : List Int), (∀ x ∈ xs, ∃ w : Nat, x = w) → (∃ w : Nat, Best D (fun x => x ∈ xs) w) ∨ ∀ x ∈ xs, rd D x < 0 := by
            intro xs
            induction xs with
            | nil => intro _; exact .inr (by simp)
            | cons y ys ih2 =>
              intro hx
              obtain ⟨w, rfl⟩ := hx y (by simp)
              rcases ih2 (fun x h => hx x (by simp [h])) with ⟨u, hu⟩ | hall
              · by_cases hb : 0 ≤ rd D w ∧ (rd D w < rd D u ∨ rd D w = rd D u ∧ w ≤ u)
                · refine .inl ⟨w, by simp, hb.1, fun x hx h0 => ?_, fun x hx h0 => ?_⟩
                  · rcases List.mem_cons.1 hx with rfl | hx
                    · exact Int.le_refl _
                    · have := hu.min x hx h0; omega
                  · rcases List.mem_cons.1 hx with rfl | hx
                    · exact Int.le_refl _
                    · have := hu.min x hx (by omega)
                      have := hu.least x hx
                      omega
                · refine .inl ⟨u, by simp [hu.mem], hu.ok, fun x hx h0 => ?_, fun x hx h0 => ?_⟩
                  · rcases List.mem_cons.1 hx with rfl | hx
                    · omega
                    · exact hu.min x hx h0
                  · rcases List.mem_cons.1 hx with rfl | hx
                    · have := hu.ok; omega
                    · exact hu.least x hx h0
              · by_cases h0 : 0 ≤ rd D w
                · refine .inl ⟨w, by simp, h0, fun x hx h1 => ?_, fun x hx h1 => ?_⟩
                  · rcases List.mem_cons.1 hx with rfl | hx
                    · exact Int.le_refl _
                    · have := hall x hx; omega
                  · rcases List.mem_cons.1 hx with rfl | hx
                    · exact Int.le_refl _
                    · have := hall x hx; omega
                · refine .inr (fun x hx => ?_)
                  rcases List.mem_cons.1 hx with rfl | hx
                  · omega
                  · exact hall x hx
          intro pre hp
          exact main pre (fun x hx => by
            obtain ⟨w, e, _⟩ := rowOf_mem.1 (show x ∈ rowOf n E i by rw [hp]; simp [hx])
            exact ⟨w, e⟩)
        rcases key [] (rowOf n E i) (by simp) with h | h
        · exact hc h
        · exact hno h
      obtain ⟨w, hb⟩ := hw
      obtain ⟨w', e, hwn, hwe⟩ := rowOf_mem.1 hb.mem
      obtain rfl : w = w' := by omega
      have hok := hb.ok
      obtain ⟨t, ht, hwev⟩ := walk_run hE hn hD (rd D w).toNat w [(w : Int)] hwn (by omega) (by have := FarSpec.low hD hwn; simp; omega)
      have htl := ht.len.1
      have hlow := FarSpec.low hD hwn
      refine ⟨(i : Int) :: ((w : Int) :: t).dropLast, .inr ⟨i, D, w, t, hin, hu, hD, ⟨hwn, hwe⟩, hb, ht, rfl⟩, start _ (fun best hb' => ?_)⟩
      rcases hb' with ⟨_, hno'⟩ | ⟨w', rfl, hb'⟩
      · exact absurd hno' hno
      · obtain rfl := hb.unique hb'
        refine Ev_unroll ?_
        simp only [graph_Loop.l1]
        refine Ev_neg (by omega) ?_
        by_cases e : w = i
        · subst e
          have h0 := FarSpec.src hD hin
          have : t = [] := List.eq_nil_of_length_eq_zero (by omega)
          subst this
          exact Ev_pos rfl (Ev.now _)
        · refine Ev_neg (by omega) (Ev_pos (by omega) (Ev.bind hwev (Ev_some ?_)))
          have hsz : (([(w : Int)] ++ t).length : Int) = t.length + 1 := by simp
          have hwr : wrap64 ((([(w : Int)] ++ t).length : Int) - 1) = (t.length : Int) := by rw [hsz, wrap_less (by omega) (by omega)]; omega
          rw [hwr, hsz]
          refine Ev_pos (by omega) (Ev_pos (by omega) (Ev_some (Ev_pos ?_ ?_)))
          · simp; omega
          · have : ([(i : Int)] ++ ([(w : Int)] ++ t).take ((t.length : Int)).toNat) = (i : Int) :: ((w : Int) :: t).dropLast := by
              rw [Int.toNat_natCast, List.dropLast_eq_take]; simp
            rw [this]
            exact Ev.now _

theorem loop_run {n : Nat} {l : List S31} (h : graph_Right.f n l = some true) : ∃ c, LoopRes n (arcB l) c ∧ Ev (fun k => graph_Loop.f k n l) c := by
  obtain ⟨_, hn, hll, _⟩ := right_of h
  obtain ⟨c, hc, hev⟩ := loop_l0 (arcs_in h) (by omega) n 0 (by omega) (fun u hu => by omega)
  refine ⟨c, hc, ?_⟩
  unfold graph_Loop.f
  exact Ev_eq h (Ev_pos rfl (Ev_eq (links_rows h) (Ev.bind (turned_run l (by omega)) (Ev_eq (links_rows_turned h) hev))))
theorem loop_none {n : Int} {l : List S31} (h : graph_Right.f n l = some false) : Ev (fun k => graph_Loop.f k n l) [] := by
  unfold graph_Loop.f
  exact Ev_eq h (Ev_neg (by simp) (Ev.now _))
end Go.Proofs.Ytibnodjlcaodeaa.G
