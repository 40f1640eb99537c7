import Derived.Lib.SliceRun
import Derived.Lib.SlicesCompact
import Derived.Deep.RegionLaw
import Derived.Deep.RegionHeld3
import Derived.Laws.AppendOwnNone
import Derived.Test.YtioekkdodggakaaDoorK1
import Derived.Test.YtioekkdodggakaaDoorHRow
import Derived.Test.YtioekkdodggakaaDoorHOrd
/-
  Rows of the call's own: telegrams' cells; a row at a block; appended to, read.
-/
namespace Go.Proofs.YtioekkdodggakaaDoor.G
open Go.RowKit Go.Proofs.YtioekkdodggakaaDoorW.PrintWords Go.Proofs.YtioekkdodggakaaDoorW.PrintLast Go.Proofs.YtioekkdodggakaaDoorW.PrintMore
set_option linter.unusedVariables false
set_option linter.unusedSimpArgs false
set_option linter.unusedSectionVars false
def encG (x : S29) : List Value := [.int .i64 x.f0, .int .i64 x.f1, .int .i64 x.f2, .int .i64 x.f3, .string x.f4]
theorem encG_len (x : S29) : (encG x).length = 5 := rfl
theorem encG_one (x : S29) : ∀ v ∈ encG x, v.oneCell' = true := by
  intro v hv
  simp only [encG, List.mem_cons, List.not_mem_nil, or_false] at hv
  rcases hv with rfl | rfl | rfl | rfl | rfl <;> rfl
instance : Inhabited S29 := ⟨z29⟩
/-- A row of telegrams of the call's own. -/
def RowG (w : World) (base : Nat) (v : Value) (l : List S29) : Prop := w.ownsRow base 29 5 v l.length (l.flatMap encG)
def eqG (x y : S29) : Bool := x.f0 == y.f0 && (x.f1 == y.f1 && (x.f2 == y.f2 && (x.f3 == y.f3 && (x.f4.toList == y.f4.toList))))
theorem eqG_iff (x y : S29) : eqG x y = true ↔ x = y := by
  unfold eqG
  simp only [Bool.and_eq_true, beq_iff_eq]
  constructor
  · rintro ⟨h0, h1, h2, h3, h4⟩
    have h4' := toList_inj h4
    cases x; cases y
    simp only at h0 h1 h2 h3 h4'
    subst h0 h1 h2 h3 h4'
    rfl
  · rintro rfl; simp
instance : DecidableEq S29 := fun x y => if h : eqG x y = true then .isTrue ((eqG_iff x y).1 h) else .isFalse (fun e => h ((eqG_iff x y).2 e))
theorem eqG_dec (x y : S29) : eqG x y = decide (x = y) := by
  by_cases h : x = y
  · rw [decide_eq_true h, (eqG_iff x y).2 h]
  · rw [decide_eq_false h]
    cases he : eqG x y
    · rfl
    · exact absurd ((eqG_iff x y).1 he) h
theorem eq29 (x y : S29) (w : World) : (binOp .eql 29 (.agg (encG x).toArray) (.agg (encG y).toArray)).run Tryd.prog w = .ok (.bool (eqG x y)) w := by
  have h := eqA29 9998 w x.f0 y.f0 x.f1 y.f1 x.f2 y.f2 x.f3 y.f3 x.f4 y.f4
  simp only [binOp, encG]
  simp [Op.equal, Op.maxDepth, h, eqG]
theorem neq29 (x y : S29) (w : World) : (binOp .neq 29 (.agg (encG x).toArray) (.agg (encG y).toArray)).run Tryd.prog w = .ok (.bool (!eqG x y)) w := by
  have h := eqA29 9998 w x.f0 y.f0 x.f1 y.f1 x.f2 y.f2 x.f3 y.f3 x.f4 y.f4
  simp only [binOp, encG]
  simp [Op.equal, Op.maxDepth, h, eqG]
end Go.Proofs.YtioekkdodggakaaDoor.G
namespace Go.Proofs.YtioekkdodggakaaDoor.ST
open Go.Shelf Go.RowKit Go.Lib Go.Sort Go.Proofs.YtioekkdodggakaaDoorW.PrintWords Go.Proofs.YtioekkdodggakaaDoorW.PrintLast Go.Proofs.YtioekkdodggakaaDoorW.PrintMore
set_option linter.unusedVariables false
set_option linter.unusedSectionVars false
variable {α : Type} [Inhabited α] {enc : α → List Value} {k : Nat}
theorem set_flatK (hk : ∀ x, (enc x).length = k) (d : Array α) (i : Nat) (hi : i < d.size) (y : α) : setMany (flatK enc k d) (i * k) (enc y) = flatK enc k (d.setIfInBounds i y) := by
  have hs : (setMany (flatK enc k d) (i * k) (enc y)).size = (flatK enc k (d.setIfInBounds i y)).size := by rw [size_setMany, size_flatK, size_flatK]; simp
  apply Array.ext hs
  intro t h1 h2
  have ht : t < d.size * k := by rw [size_setMany, size_flatK] at h1; exact h1
  rw [← getElem!_pos (setMany (flatK enc k d) (i * k) (enc y)) t h1, ← getElem!_pos (flatK enc k (d.setIfInBounds i y)) t h2]
  rw [get_setMany _ _ _ _ (by rw [size_flatK]; exact ht), get_flatK enc k (d.setIfInBounds i y) t (by simpa using ht), get_flatK enc k d t ht, hk]
  have hk0 : 0 < k := by rcases Nat.eq_zero_or_pos k with h0 | h0; (subst h0; omega); exact h0
  have hd : t / k < d.size := Nat.div_lt_of_lt_mul (by rw [Nat.mul_comm]; exact ht)
  by_cases hc : i * k ≤ t ∧ t < i * k + k
  · rw [if_pos hc]
    have e1 : t / k = i := by
      apply Nat.div_eq_of_lt_le hc.1
      rw [Nat.add_mul, Nat.one_mul]; exact hc.2
    have e2 : t % k = t - i * k := by
      have h3 := Nat.div_add_mod t k
      rw [e1] at h3
      have : k * i = i * k := Nat.mul_comm _ _
      omega
    have e3 : (d.setIfInBounds i y)[i]! = y := by rw [getElem!_pos (d.setIfInBounds i y) i (by simpa using hi)]; simp
    rw [e1, e2, e3]
  · rw [if_neg hc]
    have e1 : t / k ≠ i := by
      intro e
      apply hc
      have h3 := Nat.div_add_mod t k
      have h4 := Nat.mod_lt t hk0
      rw [e] at h3
      have : k * i = i * k := Nat.mul_comm _ _
      omega
    have e3 : (d.setIfInBounds i y)[t / k]! = d[t / k]! := by
      rw [getElem!_pos (d.setIfInBounds i y) _ (by simpa using hd), getElem!_pos d _ hd, Array.getElem_setIfInBounds, if_neg (fun e => e1 e.symm)]
    rw [e3]

/-- The row dk of the call's own at block g, since the world w. -/
structure RowAt (enc : α → List Value) (k e g cap : Nat) (dk : Array α) (w W : World) : Prop where
  grow : w.grownBy W (some g)
  blk : ∃ cur, W.heap[g]? = some (.cells cur e (0, 0)) ∧ cur.size = cap * k
  holds : HoldsK enc k W g 0 dk
variable {e g cap : Nat} {dk : Array α} {w W : World}
theorem RowAt.lt (h : RowAt enc k e g cap dk w W) : g < W.heap.size := by
  obtain ⟨cur, hb, _⟩ := h.blk
  exact (Array.getElem?_eq_some_iff.1 hb).1
theorem RowAt.drew (h : RowAt enc k e g cap dk w W) : RowAt enc k e g cap dk w W.drew := ⟨⟨h.grow.os, h.grow.tape, h.grow.output, h.grow.size, h.grow.block⟩, h.blk, h.holds⟩
theorem RowAt.drewN (h : RowAt enc k e g cap dk w W) (n : Nat) : RowAt enc k e g cap dk w (W.drewN n) := ⟨⟨h.grow.os, h.grow.tape, h.grow.output, h.grow.size, h.grow.block⟩, h.blk, h.holds⟩
theorem RowAt.ld (hk : ∀ x, (enc x).length = k) (h : RowAt enc k e g cap dk w W) (P : Program) (i : Nat) (hi : i < dk.size) :
    Sem.run P (loadCellsFrom ⟨g, i * k, none⟩ 0 k #[]) W = .ok (enc dk[i]!).toArray W := by
  have := run_loadCellsFrom_list P W ⟨g, 0 + i * k, none⟩ _ k (hk _) (HoldsK.cells h.holds hk hi)
  rwa [Nat.zero_add] at this
theorem RowAt.st (hk : ∀ x, (enc x).length = k) (h1 : ∀ x, ∀ v ∈ enc x, v.oneCell' = true) (h : RowAt enc k e g cap dk w W) (P : Program) (i : Nat) (hi : i < dk.size) (y : α) :
    Sem.run P (storeCells ⟨g, i * k, none⟩ (enc y) 0) W = .ok () (W.setCells g (i * k) (enc y)) := by
  have := stores_of_holds P h.holds (i * k) (enc y) (by rw [hk, size_flatK]; exact rowK_bnd dk k i hi) (h1 y)
  rwa [Nat.zero_add] at this
theorem heap_setCells_row : ∀ (vs : List Value) (W : World) (g s : Nat) (cur : Array Value) (e : TypeId), W.heap[g]? = some (.cells cur e (0, 0)) → ∃ cur', (W.setCells g s vs).heap[g]? = some (.cells cur' e (0, 0)) ∧ cur'.size = cur.size
  | [], W, g, s, cur, e, h => ⟨cur, h, rfl⟩
  | v :: vs, W, g, s, cur, e, h => by
    have h2 : ∃ c1, (W.setCell ⟨g, s, none⟩ v).heap[g]? = some (.cells c1 e (0, 0)) ∧ c1.size = cur.size := ⟨_, blk_put h s v rfl, by simp⟩
    obtain ⟨c1, h3, h4⟩ := h2
    obtain ⟨c2, h5, h6⟩ := heap_setCells_row vs (W.setCell ⟨g, s, none⟩ v) g (s + 1) c1 e h3
    exact ⟨c2, h5, h6.trans h4⟩
theorem grown_setCells (W : World) (g s : Nat) : ∀ (vs : List Value) (s : Nat) (W : World), W.grownBy (W.setCells g s vs) (some g)
  | [], s, W => ⟨rfl, rfl, rfl, Nat.le_refl _, fun _ _ _ => rfl⟩
  | v :: vs, s, W => by
    have h1 : W.grownBy (W.setCell ⟨g, s, none⟩ v) (some g) := ⟨rfl, rfl, rfl, by simp, fun j hj hne => Below.heap_setCell _ _ _ _ (fun e => hne (by rw [e]))⟩
    exact h1.trans (grown_setCells W g s vs (s + 1) _)
theorem RowAt.set (hk : ∀ x, (enc x).length = k) (h : RowAt enc k e g cap dk w W) (i : Nat) (hi : i < dk.size) (y : α) : RowAt enc k e g cap (dk.setIfInBounds i y) w (W.setCells g (i * k) (enc y)) := by
  refine ⟨h.grow.trans (grown_setCells W g 0 _ _ W), ?_, ?_⟩
  · obtain ⟨cur, hb, hs⟩ := h.blk
    obtain ⟨cur', hb', hs'⟩ := heap_setCells_row (enc y) W g (i * k) cur e hb
    exact ⟨cur', hb', hs'.trans hs⟩
  · have := holds_setCells_c h.holds (i * k) (enc y) (by rw [hk, size_flatK]; exact rowK_bnd dk k i hi)
    rw [Nat.zero_add, set_flatK hk dk i hi y] at this
    exact this
theorem RowAt.start {base n : Nat} {l : List α} (hk : ∀ x, (enc x).length = k) (ho : w.ownsRow base e k (.slice (some ⟨g, 0, none⟩) n cap) l.length (l.flatMap enc)) : RowAt enc k e g cap l.toArray w w ∧ n = l.length ∧ l.length ≤ cap ∧ cap ≤ maxLen ∧ base ≤ g := by
  rcases ho.2 with ⟨h0, _⟩ | ⟨g', cap', cur, hv, hg, hb, hncap, hcapm, hcs, ht⟩
  · cases h0
  · injection hv with e1 e2 e3
    injection e1 with e1
    injection e1 with e1
    subst e1; subst e3
    exact ⟨⟨⟨rfl, rfl, rfl, Nat.le_refl _, fun _ _ _ => rfl⟩, ⟨cur, hb, hcs⟩, holds_own hk hb l.toArray (by simpa using ht)⟩, e2, hncap, hcapm, hg⟩
theorem RowAt.own {base m : Nat} (hk : ∀ x, (enc x).length = k) (h : RowAt enc k e g cap dk w W) (hm : m ≤ dk.size) (hd : dk.size ≤ cap) (hc : cap ≤ maxLen) (hg : base ≤ g) : W.ownsRow base e k (.slice (some ⟨g, 0, none⟩) m cap) (dk.toList.take m).length ((dk.toList.take m).flatMap enc) := by
  obtain ⟨cur, hb, hs⟩ := h.blk
  have hl : (dk.toList.take m).length = m := by rw [List.length_take, Array.length_toList]; omega
  refine ⟨by rw [flat_length hk], .inr ⟨g, cap, cur, by rw [hl], hg, hb, by omega, hc, hs, ?_⟩⟩
  have hH := h.holds
  apply List.ext_getElem?
  intro t
  rw [List.getElem?_take, Array.getElem?_toList]
  rw [hl]
  have hmk : m * k ≤ dk.size * k := Nat.mul_le_mul_right _ hm
  have hck : dk.size * k ≤ cap * k := Nat.mul_le_mul_right _ hd
  split
  · rename_i htm
    have h1 := (hH t (by rw [size_flatK]; omega)).1
    simp only [World.cell?, hb, Nat.zero_add] at h1
    have e1 : ((dk.toList.take m).flatMap enc)[t]? = (flatK enc k dk).toList[t]? := by
      rw [flatK_flat hk]
      conv => rhs; rw [← List.take_append_drop m dk.toList, List.flatMap_append]
      rw [List.getElem?_append_left (by rw [flat_length hk, hl]; exact htm)]
    have hts : t < (flatK enc k dk).size := by rw [size_flatK]; omega
    have h3 : (flatK enc k dk)[t]? = some (flatK enc k dk)[t]! := by rw [Array.getElem?_eq_getElem hts, getElem!_pos (flatK enc k dk) t hts]
    rw [e1, Array.getElem?_toList, h3]
    exact h1
  · rename_i htm
    rw [List.getElem?_eq_none (by rw [flat_length hk, hl]; omega)]
/-- 'clear(s)' at elements of k cells. -/
theorem run_clear_k {P : Program} (w : World) (t e ty : TypeId) (z : Value) (cs : List Value) (ht : P.underlying t = some (.slice e)) (hv : ∀ w, (zeroValue e).run P w = .ok z w) (hz : z.cells = cs.toArray) (hk : cs.length = k) (hk0 : 0 < k) (h1 : ∀ v ∈ cs, v.oneCell' = true) (b o n c : Nat) (hn : 0 < n)
    (hc : ∀ j, j < n * k → (w.cell? ⟨b, o + j, none⟩).isSome = true) (hf : ∀ j, j < n * k → w.frozen? ⟨b, o + j, none⟩ = false) :
    ∃ vs : List Value, (Builtin.clear_ #[t] ty #[.slice (some ⟨b, o, none⟩) n c]).run P w = .ok (.tuple #[]) (w.setCells b o vs) := by
  have hsz : (Builtin.zeroCells z.cells n).toList.length = n * k := by rw [hz]; simp [Builtin.zeroCells, hk]
  have hone : ∀ v ∈ (Builtin.zeroCells z.cells n).toList, v.oneCell' = true := by
    rw [hz]
    intro v hv
    simp only [Builtin.zeroCells] at hv
    obtain ⟨i, hi, rfl⟩ := List.mem_iff_getElem.1 hv
    simp only [Array.getElem_toList] at *
    simp
    have hm : i % cs.length < cs.length := Nat.mod_lt _ (by omega)
    first
    | exact h1 _ (List.getElem_mem _)
    | (rw [List.getElem?_eq_getElem hm]; exact h1 _ (List.getElem_mem _))
    | (rw [getElem!_pos cs _ hm]; exact h1 _ (List.getElem_mem _))
  have hst := run_storeCells_cells (P := P) b o (Builtin.zeroCells z.cells n).toList 0 w (by rw [hsz]; simpa using hc) (by rw [hsz]; simpa using hf) hone
  simp only [Nat.add_zero] at hst
  obtain ⟨m, rfl⟩ : ∃ m, n = m + 1 := ⟨n - 1, by omega⟩
  exact ⟨(Builtin.zeroCells z.cells (m + 1)).toList, by simp [Builtin.clear_, run_underlying ht, hv, hst]⟩
theorem RowAt.clear (hk : ∀ x, (enc x).length = k) (h : RowAt enc k e g cap dk w W) (m : Nat) (hm : m ≤ dk.size) (vs : List Value) : RowAt enc k e g cap (dk.take m) w (W.setCells g (m * k) vs) := by
  refine ⟨h.grow.trans (grown_setCells W g 0 _ _ W), ?_, ?_⟩
  · obtain ⟨cur, hb, hs⟩ := h.blk
    obtain ⟨cur', hb', hs'⟩ := heap_setCells_row vs W g (m * k) cur e hb
    exact ⟨cur', hb', hs'.trans hs⟩
  · intro j hj
    have hds : (dk.take m).size = m := by simp; omega
    rw [size_flatK, hds] at hj
    have hmk : m * k ≤ dk.size * k := Nat.mul_le_mul_right _ hm
    have h2 := h.holds j (by rw [size_flatK]; omega)
    refine ⟨?_, by rw [World.frozen?_setCells]; exact h2.2⟩
    rw [World.cell?_setCells_out g _ _ _ _ (fun _ => by simp; omega)]
    rw [h2.1]
    have hk0 : 0 < k := by rcases Nat.eq_zero_or_pos k with h0 | h0; (subst h0; omega); exact h0
    have hd : j / k < m := Nat.div_lt_of_lt_mul (by rw [Nat.mul_comm]; exact hj)
    have e1 : (flatK enc k dk)[j]! = (flatK enc k (dk.take m))[j]! := by
      rw [get_flatK enc k dk j (by omega), get_flatK enc k (dk.take m) j (by rw [hds]; exact hj)]
      have e2 : (dk.take m)[j / k]! = dk[j / k]! := by
        rw [getElem!_pos (dk.take m) _ (by rw [hds]; exact hd), getElem!_pos dk _ (by omega)]
        simp
      rw [e2]
    rw [e1]
end Go.Proofs.YtioekkdodggakaaDoor.ST
