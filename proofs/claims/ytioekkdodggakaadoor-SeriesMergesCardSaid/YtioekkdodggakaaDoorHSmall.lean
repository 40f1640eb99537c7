/-
  Several texts in one: HOrders, HSmall0, HOps, HSmall.
-/
import Derived.Orders
import Derived.Test.YtioekkdodggakaaDoorHReadings
import Derived.Test.YtioekkdodggakaaDoorK7
import Derived.Test.YtioekkdodggakaaDoorK13
-- HOrders
/-
  A region that draws its order, by what each operation yields: an operation's value is told by a law that stays true in every later world.
-/
set_option linter.unusedSimpArgs false
set_option linter.unusedVariables false
namespace Go.Proofs.YtioekkdodggakaaDoor.G
set_option linter.unusedVariables false
section
variable {P : Program} {ops : Array Oper} {Q : Exit → Act → World → Prop} {md : Region.Mode}
/-- What holds when those in 'listed' have come up. -/
structure InvP (C : World → Prop) (V : Nat → Value → World → Prop) (ops : Array Oper) (a0 : Act) (listed : Array Bool) (a : Act) (w : World) : Prop where
  c : C w
  v : ∀ j o d, ops[j]? = some o → listed[j]? = some true → o.dst = some d → V j (a.tmps.getD d undef) w
  st : ∀ t, (∀ (j : Nat) o, ops[j]? = some o → o.dst ≠ some t) → a.tmps.getD t undef = a0.tmps.getD t undef
  sz : a.tmps.size = a0.tmps.size
  df : a.defers = a0.defers
theorem put_sz (a : Act) (d : Option Tmp) (v : Value) : (a.put d v).tmps.size = a.tmps.size := by cases d <;> simp [Act.put]
theorem put_df (a : Act) (d : Option Tmp) (v : Value) : (a.put d v).defers = a.defers := by cases d <;> rfl
theorem put_same (a : Act) (d : Tmp) (v : Value) (h : d < a.tmps.size) : (a.put (some d) v).tmps.getD d undef = v := by
  simp [Act.put, Array.getD_eq_getD_getElem?, h]
theorem put_other (a : Act) (o : Option Tmp) (t : Tmp) (v : Value) (h : o ≠ some t) : (a.put o v).tmps.getD t undef = a.tmps.getD t undef := by
  cases o with
  | none => rfl
  | some d =>
    have : d ≠ t := fun e => h (by rw [e])
    simp [Act.put, Array.getD_eq_getD_getElem?, Array.getElem?_setIfInBounds, this]
theorem ready_mem {listed : Array Bool} {i : Nat} (h : i ∈ Region.ready md ops listed) : ∃ o, ops[i]? = some o ∧ ∀ e ∈ o.after, Region.binds md e = true → listed[e.on]? = some true := by
  unfold Region.ready at h
  rw [List.mem_filter, Bool.and_eq_true] at h
  obtain ⟨h1, h2, h3⟩ := h
  cases ho : ops[i]? with
  | none => rw [ho] at h3; cases h3
  | some o =>
    refine ⟨o, rfl, fun e he hb => ?_⟩
    rw [ho] at h3
    simp only [Option.map_some, Option.getD_some] at h3
    rw [Array.all_eq_true_iff_forall_mem] at h3
    have := h3 e he
    rw [hb] at this
    simp only [Bool.not_true, Bool.false_or] at this
    rw [Array.getD_eq_getD_getElem?] at this
    cases hl : listed[e.on]? with
    | none => rw [hl] at this; cases this
    | some b => rw [hl] at this; simp at this; rw [this]
theorem ready_none {listed : Array Bool} (hord : ∀ (i : Nat) o, ops[i]? = some o → ∀ e ∈ o.after, e.on < i) (hsz : listed.size = ops.size) (h : Region.ready md ops listed = []) : ∀ j, j < ops.size → listed[j]? = some true := by
  intro j
  induction j using Nat.strongRecOn with
  | ind j ih =>
    intro hj
    by_cases hl : listed[j]? = some true
    · exact hl
    · exfalso
      have hj' : j < listed.size := by omega
      have h0 : listed.getD j true = false := by
        rw [Array.getD_eq_getD_getElem?, Array.getElem?_eq_getElem hj']
        rw [Array.getElem?_eq_getElem hj'] at hl
        cases hb : listed[j] with
        | true => rw [hb] at hl; exact absurd rfl hl
        | false => rfl
      have : j ∈ Region.ready md ops listed := by
        unfold Region.ready
        rw [List.mem_filter, List.mem_range]
        refine ⟨hj, ?_⟩
        rw [h0, Array.getElem?_eq_getElem hj]
        simp only [Bool.not_false, Bool.true_and, Option.map_some, Option.getD_some]
        rw [Array.all_eq_true_iff_forall_mem]
        intro e he
        have hlt := hord j _ (Array.getElem?_eq_getElem hj) e he
        have h2 := ih e.on hlt (by omega)
        rw [Array.getD_eq_getD_getElem?, h2]
        simp
      rw [h] at this
      cases this
def unlisted (listed : Array Bool) : Nat := (listed.toList.filter (fun b => !b)).length
theorem unlisted_set {listed : Array Bool} {i : Nat} (hi : listed[i]? = some false) : unlisted (listed.setIfInBounds i true) + 1 = unlisted listed := by
  unfold unlisted
  rw [Array.toList_setIfInBounds]
  have hl : listed.toList[i]? = some false := by simpa using hi
  generalize listed.toList = l at hl
  clear hi
  induction l generalizing i with
  | nil => simp at hl
  | cons b r ih =>
    cases i with
    | zero =>
      simp at hl
      subst hl
      simp
    | succ i =>
      simp only [List.getElem?_cons_succ] at hl
      have := ih hl
      simp only [List.set_cons_succ, List.filter_cons]
      split
      · simp only [List.length_cons]; omega
      · exact this
theorem ready_false {listed : Array Bool} {i : Nat} (h : i ∈ Region.ready md ops listed) : listed[i]? = some false := by
  unfold Region.ready at h
  rw [List.mem_filter, Bool.and_eq_true] at h
  have h1 := h.2.1
  rw [Array.getD_eq_getD_getElem?] at h1
  cases hl : listed[i]? with
  | none => rw [hl] at h1; simp at h1
  | some b => rw [hl] at h1; simp at h1; rw [h1]
/-- THE RULE. -/
theorem wpAny_inv {C : World → Prop} {E : World → World → Prop} {V : Nat → Value → World → Prop} {a0 : Act}
    (hV : ∀ j v w w', E w w' → V j v w → V j v w')
    (hdst : ∀ (i j : Nat) oi oj d, ops[i]? = some oi → ops[j]? = some oj → oi.dst = some d → oj.dst = some d → i = j)
    (hin : ∀ (i : Nat) o d, ops[i]? = some o → o.dst = some d → d < a0.tmps.size)
    (hord : ∀ (i : Nat) o, ops[i]? = some o → ∀ e ∈ o.after, e.on < i)
    (hstep : ∀ (i : Nat) o, ops[i]? = some o → ∀ (a : Act) (w : World) (K : Act → World → Prop), C w → (∀ t, (∀ (j : Nat) o, ops[j]? = some o → o.dst ≠ some t) → a.tmps.getD t undef = a0.tmps.getD t undef) →
      (∀ e ∈ o.after, Region.binds md e = true → ∀ oe d, ops[e.on]? = some oe → oe.dst = some d → V e.on (a.tmps.getD d undef) w) →
      (∀ v w', E w w' → C w' → V i v w' → K (a.put o.dst v) w') → wpOp P ops Q i K a w)
    (hdone : ∀ (a : Act) (w : World), InvP C V ops a0 (Array.replicate ops.size true) a w → Q .normal a w) :
    ∀ (fuel : Nat) (listed : Array Bool) (a : Act) (w : World), listed.size = ops.size → InvP C V ops a0 listed a w → unlisted listed ≤ fuel → wpAny P md ops Q fuel listed a w := by
  have fin : ∀ (listed : Array Bool) (a : Act) (w : World), listed.size = ops.size → InvP C V ops a0 listed a w → Region.ready md ops listed = [] → Q .normal a w := by
    intro listed a w hs hI hr
    have hall := ready_none hord hs hr
    exact hdone a w ⟨hI.c, fun j o d ho _ hd => hI.v j o d ho (hall j (Array.getElem?_eq_some_iff.1 ho).1) hd, hI.st, hI.sz, hI.df⟩
  intro fuel
  induction fuel with
  | zero =>
    intro listed a w hs hI hu
    have hr : Region.ready md ops listed = [] := by
      cases hr : Region.ready md ops listed with
      | nil => rfl
      | cons i r =>
        have := unlisted_set (ready_false (show i ∈ Region.ready md ops listed by rw [hr]; exact List.mem_cons_self))
        omega
    exact ⟨hr, fin _ _ _ hs hI hr⟩
  | succ fuel ih =>
    intro listed a w hs hI hu
    refine ⟨fin _ _ _ hs hI, fun i hi => ?_⟩
    obtain ⟨o, ho, hdeps⟩ := ready_mem hi
    have hif := ready_false hi
    refine hstep i o ho a w _ hI.c hI.st (fun e he hb oe d hoe hd => hI.v e.on oe d hoe (hdeps e he hb) hd) (fun v w' hE hC hv => ?_)
    refine ih _ _ _ (by rw [Array.size_setIfInBounds]; exact hs) ⟨hC, ?_, ?_, ?_, ?_⟩ (by have := unlisted_set hif; omega)
    · intro j oj d hj hl hd
      by_cases e : j = i
      · subst e
        rw [ho] at hj
        cases hj
        rw [hd, put_same a d v (by rw [hI.sz]; exact hin _ _ _ ho hd)]
        exact hv
      · rw [Array.getElem?_setIfInBounds, if_neg (fun h => e h.symm)] at hl
        rw [put_other a o.dst d v (fun h => e (hdst _ _ _ _ _ hj ho hd h))]
        exact hV _ _ _ _ hE (hI.v j oj d hj hl hd)
    · intro t ht
      rw [put_other a o.dst t v (ht i o ho)]
      exact hI.st t ht
    · rw [put_sz]; exact hI.sz
    · rw [put_df]; exact hI.df
theorem unlisted_rep (n : Nat) : unlisted (Array.replicate n false) ≤ n := by
  unfold unlisted
  refine Nat.le_trans (List.length_filter_le _ _) ?_
  simp
/-- THE RULE, at a region. -/
theorem region_inv {id : Nat} {C : World → Prop} {E : World → World → Prop} {V : Nat → Value → World → Prop} {a0 : Act} {w0 : World} (hm : P.follows .mixedOrders = true)
    (hV : ∀ j v w w', E w w' → V j v w → V j v w')
    (hdst : ∀ (i j : Nat) oi oj d, ops[i]? = some oi → ops[j]? = some oj → oi.dst = some d → oj.dst = some d → i = j)
    (hin : ∀ (i : Nat) o d, ops[i]? = some o → o.dst = some d → d < a0.tmps.size)
    (hord : ∀ (i : Nat) o, ops[i]? = some o → ∀ e ∈ o.after, e.on < i)
    (hC : C { w0 with drawn := w0.drawn + 1 })
    (hstep : ∀ (i : Nat) o, ops[i]? = some o → ∀ (a : Act) (w : World) (K : Act → World → Prop), C w → (∀ t, (∀ (j : Nat) o, ops[j]? = some o → o.dst ≠ some t) → a.tmps.getD t undef = a0.tmps.getD t undef) →
      (∀ e ∈ o.after, Region.binds .any e = true → ∀ oe d, ops[e.on]? = some oe → oe.dst = some d → V e.on (a.tmps.getD d undef) w) →
      (∀ v w', E w w' → C w' → V i v w' → K (a.put o.dst v) w') → wpOp P ops Q i K a w)
    (hdone : ∀ (a : Act) (w : World), InvP C V ops a0 (Array.replicate ops.size true) a w → Q .normal a w) : (Code.region id ops true).wp P Q a0 w0 := by
  refine wp_region_any hm (wpAny_inv (E := E) hV hdst hin hord hstep hdone ops.size _ a0 _ (by simp) ⟨hC, ?_, fun t _ => rfl, rfl, rfl⟩ (unlisted_rep _))
  intro j o d ho hl hd
  rw [Array.getElem?_replicate] at hl
  split at hl <;> cases hl
def dstAt (ops : Array Oper) (i : Nat) : Option Tmp := (ops[i]?).bind (·.dst)
def dstB (ops : Array Oper) : Bool := (List.range ops.size).all fun i => (List.range ops.size).all fun j => i == j || (dstAt ops i).isNone || dstAt ops i != dstAt ops j
theorem dst_of (h : dstB ops = true) : ∀ (i j : Nat) oi oj d, ops[i]? = some oi → ops[j]? = some oj → oi.dst = some d → oj.dst = some d → i = j := by
  intro i j oi oj d hi hj h1 h2
  have hi' := (Array.getElem?_eq_some_iff.1 hi).1
  have hj' := (Array.getElem?_eq_some_iff.1 hj).1
  unfold dstB at h
  rw [List.all_eq_true] at h
  have h3 := h i (List.mem_range.2 hi')
  rw [List.all_eq_true] at h3
  have h4 := h3 j (List.mem_range.2 hj')
  have e1 : dstAt ops i = some d := by unfold dstAt; rw [hi]; exact h1
  have e2 : dstAt ops j = some d := by unfold dstAt; rw [hj]; exact h2
  rw [e1, e2] at h4
  simpa using h4
def inB (ops : Array Oper) (n : Nat) : Bool := (List.range ops.size).all fun i => match dstAt ops i with | some d => decide (d < n) | none => true
theorem in_of {n : Nat} (h : inB ops n = true) : ∀ (i : Nat) o d, ops[i]? = some o → o.dst = some d → d < n := by
  intro i o d hi h1
  have hi' := (Array.getElem?_eq_some_iff.1 hi).1
  unfold inB at h
  rw [List.all_eq_true] at h
  have h3 := h i (List.mem_range.2 hi')
  have e1 : dstAt ops i = some d := by unfold dstAt; rw [hi]; exact h1
  rw [e1] at h3
  simpa using h3
def ordB (ops : Array Oper) : Bool := (List.range ops.size).all fun i => match ops[i]? with | some o => o.after.all fun e => decide (e.on < i) | none => true
theorem ord_of (h : ordB ops = true) : ∀ (i : Nat) o, ops[i]? = some o → ∀ e ∈ o.after, e.on < i := by
  intro i o hi e he
  have hi' := (Array.getElem?_eq_some_iff.1 hi).1
  unfold ordB at h
  rw [List.all_eq_true] at h
  have h3 := h i (List.mem_range.2 hi')
  rw [hi] at h3
  simp only at h3
  rw [Array.all_eq_true_iff_forall_mem] at h3
  simpa using h3 e he
def offB (ops : Array Oper) (t : Tmp) : Bool := (List.range ops.size).all fun i => dstAt ops i != some t
theorem off_of {t : Tmp} (h : offB ops t = true) : ∀ (j : Nat) o, ops[j]? = some o → o.dst ≠ some t := by
  intro j o hj e
  have hj' := (Array.getElem?_eq_some_iff.1 hj).1
  unfold offB at h
  rw [List.all_eq_true] at h
  have h3 := h j (List.mem_range.2 hj')
  have e1 : dstAt ops j = some t := by unfold dstAt; rw [hj]; exact e
  rw [e1] at h3
  simp at h3
/-- An array by its places. -/
theorem arr_of {x : Array Value} {n : Nat} (h : x.size = n) : x = ((List.range n).map fun i => x.getD i undef).toArray := by
  apply Array.ext
  · simp [h]
  · intro i h1 h2
    simp [Array.getD_eq_getD_getElem?, h1]
/-- What the rule asks of an operation. -/
def StepP (P : Program) (ops : Array Oper) (Q : Exit → Act → World → Prop) (C : World → Prop) (E : World → World → Prop) (V : Nat → Value → World → Prop) (a0 : Act) (i : Nat) (o : Oper) : Prop :=
  ∀ (a : Act) (w : World) (K : Act → World → Prop), C w → (∀ t, (∀ (j : Nat) o, ops[j]? = some o → o.dst ≠ some t) → a.tmps.getD t undef = a0.tmps.getD t undef) →
      (∀ e ∈ o.after, Region.binds .any e = true → ∀ oe d, ops[e.on]? = some oe → oe.dst = some d → V e.on (a.tmps.getD d undef) w) →
      (∀ v w', E w w' → C w' → V i v w' → K (a.put o.dst v) w') → wpOp P ops Q i K a w
theorem steps_of {C : World → Prop} {E : World → World → Prop} {V : Nat → Value → World → Prop} {a0 : Act} (h : ∀ (i : Nat) (hi : i < ops.size), StepP P ops Q C E V a0 i ops[i]) : ∀ (i : Nat) o, ops[i]? = some o → StepP P ops Q C E V a0 i o := by
  intro i o ho
  have hi := (Array.getElem?_eq_some_iff.1 ho).1
  have e := (Array.getElem?_eq_some_iff.1 ho).2
  rw [← e]
  exact h i hi
end
end Go.Proofs.YtioekkdodggakaaDoor.G
-- HSmall0
/-
  bournelaw25.small: the fixed examples, plainly; rows of literals.
-/
namespace Go.Proofs.YtioekkdodggakaaDoor.G
open Go.RowKit Go.Proofs.YtioekkdodggakaaDoorW.PrintWords Go.Proofs.YtioekkdodggakaaDoorW.PrintLast Go.Proofs.YtioekkdodggakaaDoorW.PrintMore
set_option linter.unusedVariables false
set_option linter.unusedSimpArgs false
instance : DecidableEq S47 := fun a b => if h : a.f0 = b.f0 ∧ a.f1 = b.f1 then .isTrue (by cases a; cases b; simp_all) else .isFalse (by rintro rfl; exact h ⟨rfl, rfl⟩)
instance : DecidableEq S49 := fun a b => if h : a.f0 = b.f0 ∧ a.f1 = b.f1 ∧ a.f2 = b.f2 then .isTrue (by cases a; cases b; simp_all) else .isFalse (by rintro rfl; exact h ⟨rfl, rfl, rfl⟩)
theorem isRead_cand {gs : List S63} {ok : S29 → Bool} {l : List S29} (R : S49) : IsRead gs ok l R ↔ R ∈ (l.filter ok).filterMap (fun x => readOf gs ok l (lowH gs x, x.f0)) := by
  rw [← readOf_iff, List.mem_filterMap]
  constructor
  · rintro ⟨hne, hr⟩
    obtain ⟨v, hv⟩ := List.exists_mem_of_ne_nil _ hne
    obtain ⟨x, hx, h0, h1, h2, _⟩ := (mem_spans v).1 hv
    exact ⟨x, List.mem_filter.2 ⟨hx, h0⟩, by rw [h1, h2]; exact hr⟩
  · rintro ⟨x, hx, hr⟩
    obtain ⟨h1, h2⟩ := List.mem_filter.1 hx
    have e := readOf_key hr
    refine ⟨?_, by rw [← e]; exact hr⟩
    injection e with e1 e2
    rw [← e1, ← e2]
    exact List.ne_nil_of_mem ((mem_spans (spanG gs x)).2 ⟨x, h1, h2, rfl, rfl, rfl⟩)
/-- What series.Readings returns. -/
def IsReads (gs : List S63) (l : List S29) (a b : Int) (r : List S49) : Prop := r.Pairwise ltR ∧ ∀ R, R ∈ r ↔ IsRead gs (okB gs l a b) l R
theorem IsReads.unique {gs : List S63} {l : List S29} {a b : Int} {r s : List S49} (h : IsReads gs l a b r) (h' : IsReads gs l a b s) : r = s :=
  sorted_unique ltR_irr (fun _ _ _ => ltR_trans) r s h.1 h'.1 (fun x => by rw [h.2, h'.2])
def tagN : ByteArray := ⟨#[49, 50, 51, 52, 53, 54, 55, 56]⟩
def gN : S63 := ⟨⟨#[]⟩, 0, 0, 2, 5⟩
def xN : S29 := ⟨0, 1, 70, 40, tagN⟩
def yN : S29 := ⟨0, 2, 110, 43, tagN⟩
def eN : S29 := ⟨0, 1, 64, 40, tagN⟩
def fN : S29 := ⟨0, 2, 110, 50, tagN⟩
def aN : S29 := ⟨0, 1, 200, 40, tagN⟩
def R0 : S49 := ⟨0, 1, ⟨41, 42⟩⟩
theorem cand1 : (([yN, xN, yN] : List S29).filter (okB [gN] [yN, xN, yN] 0 10)).filterMap (fun x => readOf [gN] (okB [gN] [yN, xN, yN] 0 10) [yN, xN, yN] (lowH [gN] x, x.f0)) = [R0, R0, R0] := by decide +kernel
theorem cand2 : (([eN] : List S29).filter (okB [gN] [eN] 0 10)).filterMap (fun x => readOf [gN] (okB [gN] [eN] 0 10) [eN] (lowH [gN] x, x.f0)) = [] := by decide +kernel
theorem cand3 : (([xN, fN] : List S29).filter (okB [gN] [xN, fN] 0 10)).filterMap (fun x => readOf [gN] (okB [gN] [xN, fN] 0 10) [xN, fN] (lowH [gN] x, x.f0)) = [] := by decide +kernel
theorem cand4 : (([xN, aN] : List S29).filter (okB [gN] [xN, aN] 0 10)).filterMap (fun x => readOf [gN] (okB [gN] [xN, aN] 0 10) [xN, aN] (lowH [gN] x, x.f0)) = [] := by decide +kernel
theorem cand5 : (([xN] : List S29).filter (okB [gN] [xN] 2 10)).filterMap (fun x => readOf [gN] (okB [gN] [xN] 2 10) [xN] (lowH [gN] x, x.f0)) = [] := by decide +kernel
theorem reads1 : IsReads [gN] [yN, xN, yN] 0 10 [R0] := ⟨by simp, fun R => by rw [isRead_cand, cand1]; simp⟩
theorem reads2 : IsReads [gN] [eN] 0 10 [] := ⟨by simp, fun R => by rw [isRead_cand, cand2]⟩
theorem reads3 : IsReads [gN] [xN, fN] 0 10 [] := ⟨by simp, fun R => by rw [isRead_cand, cand3]⟩
theorem reads4 : IsReads [gN] [xN, aN] 0 10 [] := ⟨by simp, fun R => by rw [isRead_cand, cand4]⟩
theorem reads5 : IsReads [gN] [xN] 2 10 [] := ⟨by simp, fun R => by rw [isRead_cand, cand5]⟩
theorem void1 : decide (voidP [xN, aN] 0) = true := by decide +kernel
theorem void2 : decide (voidP [xN, xN, yN] 0) = false := by decide +kernel
theorem merge1 : MergeOf (fun g => g ∈ [yN, xN] ∨ g ∈ [xN]) [xN, yN] := by
  refine ⟨?_, fun z => ?_⟩
  · rw [List.pairwise_cons]
    refine ⟨fun z hz => ?_, by simp⟩
    rw [List.mem_singleton] at hz
    subst hz
    exact .inr ⟨rfl, .inl (by decide)⟩
  · simp only [List.mem_cons, List.not_mem_nil, or_false]
    constructor
    · rintro (h | h) <;> simp [h]
    · rintro ((h | h) | h) <;> simp [h]
/-- The boxes of the examples, from block n on. -/
structure SBox (n : Nat) (W : World) : Prop where
  g : W.heap[n]? = some (.cells #[.string ⟨#[]⟩, .int .i64 0, .int .i64 0, .int .i64 2, .int .i64 5] 63 (0, 0))
  b : W.heap[n + 1]? = some (.cells #[.string ⟨#[]⟩, .slice none 0 0, .int .i64 0, .slice none 0 0, .slice none 0 0, .slice none 0 0, .slice (some ⟨n, 0, none⟩) 1 1, .slice none 0 0, .slice none 0 0, .slice none 0 0, .int .i64 0] 41 (0, 0))
  x : W.heap[n + 1 + 1]? = some (.cells #[.int .i64 0, .int .i64 1, .int .i64 70, .int .i64 40, .string tagN] 29 (0, 0))
  y : W.heap[n + 1 + 1 + 1]? = some (.cells #[.int .i64 0, .int .i64 2, .int .i64 110, .int .i64 43, .string tagN] 29 (0, 0))
  e : W.heap[n + 1 + 1 + 1 + 1]? = some (.cells #[.int .i64 0, .int .i64 1, .int .i64 64, .int .i64 40, .string tagN] 29 (0, 0))
  f : W.heap[n + 1 + 1 + 1 + 1 + 1]? = some (.cells #[.int .i64 0, .int .i64 2, .int .i64 110, .int .i64 50, .string tagN] 29 (0, 0))
  a : W.heap[n + 1 + 1 + 1 + 1 + 1 + 1]? = some (.cells #[.int .i64 0, .int .i64 1, .int .i64 200, .int .i64 40, .string tagN] 29 (0, 0))
theorem SBox.below {n : Nat} {W W' : World} (h : SBox n W) (hb : Below W.heap.size W W') : SBox n W' := by
  have mv : ∀ (i : Nat) (o : Obj), W.heap[i]? = some o → W'.heap[i]? = some o := fun i o ho => (hb.block i (Array.getElem?_eq_some_iff.1 ho).1).trans ho
  exact ⟨mv _ _ h.g, mv _ _ h.b, mv _ _ h.x, mv _ _ h.y, mv _ _ h.e, mv _ _ h.f, mv _ _ h.a⟩
/-- A literal's row. -/
theorem row_lit {α : Type} [Inhabited α] {enc : α → List Value} {e k lb : Nat} {W : World} {cs : Array Value} {l : List α} (hk : ∀ x, (enc x).length = k) (hlb : W.heap[lb]? = some (.cells cs e (0, 0))) (hcs : cs.toList = l.flatMap enc) (hl : l.length ≤ 1000000) : Row enc e k W 0 (.slice (some ⟨lb, 0, none⟩) l.length l.length) l := by
  have hlen := ST.flat_length hk l
  refine ⟨hlen, .inr ⟨lb, l.length, cs, rfl, Nat.zero_le _, hlb, Nat.le_refl _, by simp only [maxLen]; omega, ?_, ?_⟩⟩
  · rw [← Array.length_toList, hcs, hlen]
  · rw [hcs, List.take_of_length_le (by rw [hlen]; exact Nat.le_refl _)]
theorem lit_reads {lb : Nat} {W : World} {cs : Array Value} {l : List S29} (hlb : W.heap[lb]? = some (.cells cs 29 (0, 0))) (hcs : cs.toList = l.flatMap encG) (hl : l.length ≤ 1000000) : ReadsRow (RE encG) 5 W (some ⟨lb, 0, none⟩) l.length l := by
  obtain ⟨A, c, hv, _, _, hr⟩ := (row_lit encG_len hlb hcs hl).reads encG_len
  injection hv with e1 _ _
  rw [e1]
  exact hr
theorem smallOk : ∀ x ∈ [xN, yN, eN, fN, aN], IsI x.f0 ∧ IsI x.f1 ∧ IsI x.f2 ∧ IsI x.f3 := by decide +kernel
theorem gaugeOk : ∀ x ∈ [gN], IsI x.f3 ∧ IsI x.f4 := by decide +kernel
theorem SBox.gauges {n : Nat} {W : World} (h : SBox n W) : Kd.C k63 W (some ⟨n, 0, none⟩) 1 [gN] := by
  refine ⟨rfl, by omega, fun _ => ⟨_, rfl, fun j s hj => ?_⟩⟩
  match j, hj with
  | 0, hj =>
    simp at hj; subst hj
    refine ⟨_, rfl, k63_mk W gN, fun i u hu => ?_⟩
    have had : ∀ m, (⟨n, 0, none⟩ : Addr).add m = ⟨n, m, none⟩ := fun m => by unfold Addr.add; split <;> simp_all
    rw [had, show 0 * k63.sz + i = i by omega, cell_of_row _ _ _ _ _ _ h.g, List.getElem?_toArray]
    exact hu
/-- series.Readings at one of the examples. -/
theorem small_read {n : Nat} {W : World} (hB : SBox n W) (hg : Gl W) (lb : Nat) (cs : Array Value) (l : List S29) (fr un : Int) (res : List S49) (hlb : W.heap[lb]? = some (.cells cs 29 (0, 0))) (hcs : cs.toList = l.flatMap encG) (hl : l.length ≤ 100000) (hin : ∀ x ∈ l, x ∈ [xN, yN, eN, fN, aN]) (hres : IsReads [gN] l fr un res) :
    Calls Tryd.prog 14 #[.agg #[.string ⟨#[]⟩, .slice none 0 0, .int .i64 0, .slice none 0 0, .slice none 0 0, .slice none 0 0, .slice (some ⟨n, 0, none⟩) 1 1, .slice none 0 0, .slice none 0 0, .slice none 0 0, .int .i64 0], .slice (some ⟨lb, 0, none⟩) l.length l.length, .int .i64 fr, .int .i64 un] W
      fun e w' => ∃ A c, e = .returned (.slice A res.length c) ∧ res.length ≤ c ∧ ReadsRow (RE encR) 4 w' A res.length res ∧ Below W.heap.size W w' := by
  refine (Read_one ⟨#[]⟩ none 0 0 0 none 0 0 none 0 0 none 0 0 (some ⟨n, 0, none⟩) 1 [gN] none 0 0 none 0 0 none 0 0 0 (some ⟨lb, 0, none⟩) l.length l fr un W hg hB.gauges (Nat.le_refl _) (lit_reads hlb hcs (by omega)) hl (fun x hx => smallOk x (hin x hx)) gaugeOk).mono ?_
  rintro e w' ⟨v, r, rfl, ho, h1, h2, _, hb⟩
  obtain rfl : r = res := IsReads.unique ⟨h1, h2⟩ hres
  obtain ⟨A, c, rfl, hc, _, hr⟩ := ho.reads encR_len
  exact ⟨A, c, rfl, hc, hr, hb⟩
theorem alS {w : World} {n : Nat} {o : Obj} (hn : w.heap.size = n) : (w.alloc o).heap[n]? = some o := hn ▸ al0 w o
theorem szS {w : World} {n : Nat} {o : Obj} (hn : w.heap.size = n) : (w.alloc o).heap.size = n + 1 := by subst hn; simp
end Go.Proofs.YtioekkdodggakaaDoor.G
-- HOps
/-
  Single operations over an abstract frame.
-/
namespace Go.Proofs.YtioekkdodggakaaDoor.G
open Go.RowKit Go.Proofs.YtioekkdodggakaaDoorW.PrintWords Go.Proofs.YtioekkdodggakaaDoorW.PrintLast Go.Proofs.YtioekkdodggakaaDoorW.PrintMore
set_option linter.unusedVariables false
set_option linter.unusedSimpArgs false
theorem run_build1 (x : S29) (w : World) : (Instr.buildSlice 22 1 #[(0, encA x)]).run Tryd.prog w = .ok (.slice (some ⟨w.heap.size, 0, none⟩) 1 1) (w.alloc (.cells (encG x).toArray 29)) := by
  have hu22 := Tryd.underlying22
  unfold encA encG
  go_simp
theorem run_build2 (x y : S29) (w : World) : (Instr.buildSlice 22 2 #[(0, encA x), (1, encA y)]).run Tryd.prog w = .ok (.slice (some ⟨w.heap.size, 0, none⟩) 2 2) (w.alloc (.cells (encG x ++ encG y).toArray 29)) := by
  have hu22 := Tryd.underlying22
  unfold encA encG
  go_simp
section
variable {o : Oper} {a : Act} {K : Act → World → Prop} {Q : Exit → Act → World → Prop} {w : World}
theorem op_build1 (x : Operand) (ho : o.op = .buildSlice 22 1 #[(0, x)]) (g : S29) (hx : a.eval x = encA g) (h : K (a.put o.dst (.slice (some ⟨w.heap.size, 0, none⟩) 1 1)) (w.alloc (.cells (encG g).toArray 29))) : o.wp Tryd.prog a w K Q := by
  have hr := run_build1 g w
  unfold Oper.wp execOp
  simp [ho, hx, hr, Result.andThen, Oper.upon]
  exact h
theorem op_build2 (x y : Operand) (ho : o.op = .buildSlice 22 2 #[(0, x), (1, y)]) (g g' : S29) (hx : a.eval x = encA g) (hy : a.eval y = encA g') (h : K (a.put o.dst (.slice (some ⟨w.heap.size, 0, none⟩) 2 2)) (w.alloc (.cells (encG g ++ encG g').toArray 29))) : o.wp Tryd.prog a w K Q := by
  have hr := run_build2 g g' w
  unfold Oper.wp execOp
  simp [ho, hx, hy, hr, Result.andThen, Oper.upon]
  exact h
set_option maxRecDepth 100000 in
theorem op_len (x : Operand) (t e : TypeId) (ht : Tryd.prog.underlying t = some (.slice e)) (ho : o.op = .call { callee := .builtin .len, args := #[x], argTypes := #[t] }) (A : Option Addr) (n c : Nat) (hx : a.eval x = .slice A n c) (h : K (a.put o.dst (.int .i64 n)) w) : o.wp Tryd.prog a w K Q := by
  unfold Oper.wp execOp
  simp [ho, resolve, invoke, builtin, hx, Result.andThen, Oper.upon, Builtin.len_, run_underlying ht, goInt]
  exact h
theorem op_add0 (x y : Operand) (ho : o.op = .binOp .add 3 x y 3) (hx : a.eval x = .int .i64 0) (hy : a.eval y = .int .i64 0) (h : K (a.put o.dst (.int .i64 0)) w) : o.wp Tryd.prog a w K Q := by
  have hr : (binOp .add 3 (.int .i64 0) (.int .i64 0)).run Tryd.prog w = .ok (.int .i64 0) w := by
    have hw : IntKind.i64.wrap 0 = 0 := by rw [IntKind.wrap_i64]; rfl
    go_simp
  unfold Oper.wp execOp
  simp [ho, hx, hy, hr, Result.andThen, Oper.upon]
  first | exact h | (go_simp; exact h)
theorem op_assign (x : Operand) (ho : o.op = .assign x) (v : Value) (hx : a.eval x = v) (h : K (a.put o.dst v) w) : o.wp Tryd.prog a w K Q := by
  unfold Oper.wp execOp
  simp [ho, hx, Result.andThen, Oper.upon]
  exact h
theorem op_call (f : Nat) (fn : Func) (hf : Tryd.prog.funcs[f]? = some fn) (hname : (fn.name == "runtime.NumGoroutine") = false) (hb : fn.body.isSome = true) (as_ : Array Operand) (ts : Array TypeId) (ho : o.op = .call { callee := .value (.func f), args := as_, argTypes := ts }) (args : Array Value) (hargs : as_.map a.eval = args)
    (h : Calls Tryd.prog f args w fun e w' => ∃ v, e = .returned v ∧ K (a.put o.dst v) w') : o.wp Tryd.prog a w K Q := by
  have he := enters_ hf hname hb args w
  have hrun : (execOp a.eval o).run Tryd.prog w = .ok (.enter f args) w := by
    unfold execOp
    simp [ho, resolve, Deferred.ofValue, invoke, Act.eval, hargs, he]
  unfold Oper.wp
  rw [hrun, Oper.upon_enter]
  refine h.mono ?_
  rintro e w' ⟨v, rfl, hv⟩
  exact hv
theorem wpOp_of {ops : Array Oper} {i : Nat} (hi : ops[i]? = some o) (hg : o.guard = none) (h : o.wp Tryd.prog a w K Q) : wpOp Tryd.prog ops Q i K a w := by
  unfold wpOp
  rw [hi]
  have hw : Region.wanted o (yielded ops a.tmps) = true := by unfold Region.wanted; rw [hg]
  simp only [hw, if_true]
  exact .inl h
end
def basinV (n : Nat) : Value := .agg #[.string ⟨#[]⟩, .slice none 0 0, .int .i64 0, .slice none 0 0, .slice none 0 0, .slice none 0 0, .slice (some ⟨n, 0, none⟩) 1 1, .slice none 0 0, .slice none 0 0, .slice none 0 0, .int .i64 0]
def LitAt (l : List S29) (v : Value) (w : World) : Prop := ∃ lb cs, v = .slice (some ⟨lb, 0, none⟩) l.length l.length ∧ w.heap[lb]? = some (.cells cs 29 (0, 0)) ∧ cs.toList = l.flatMap encG
theorem LitAt.below {l : List S29} {v : Value} {w w' : World} (h : LitAt l v w) (hb : Below w.heap.size w w') : LitAt l v w' := by
  obtain ⟨lb, cs, h1, h2, h3⟩ := h
  exact ⟨lb, cs, h1, (hb.block lb (Array.getElem?_eq_some_iff.1 h2).1).trans h2, h3⟩
def Len0 (v : Value) : Prop := ∃ A c, v = .slice A 0 c
/-- What the operations of region 9 yield. -/
def V9 (n : Nat) : Nat → Value → World → Prop
  | 0, v, _ => v = basinV n
  | 1, v, _ => v = encA eN
  | 2, v, w => LitAt [eN] v w
  | 3, v, _ => Len0 v
  | 4, v, _ => v = .int .i64 0
  | 5, v, _ => v = basinV n
  | 6, v, _ => v = encA xN
  | 7, v, _ => v = encA fN
  | 8, v, w => LitAt [xN, fN] v w
  | 9, v, _ => Len0 v
  | 10, v, _ => v = .int .i64 0
  | 11, v, _ => v = .int .i64 0
  | 12, v, _ => v = basinV n
  | 13, v, _ => v = encA xN
  | 14, v, _ => v = encA aN
  | 15, v, w => LitAt [xN, aN] v w
  | 16, v, _ => Len0 v
  | 17, v, _ => v = .int .i64 0
  | 18, v, _ => v = .int .i64 0
  | 19, v, _ => v = basinV n
  | 20, v, _ => v = encA xN
  | 21, v, w => LitAt [xN] v w
  | 22, v, _ => Len0 v
  | 23, v, _ => v = .int .i64 0
  | 24, v, _ => v = .int .i64 0
  | 25, v, _ => v = .int .i64 0
  | _, _, _ => True
def EB (w w' : World) : Prop := Below w.heap.size w w'
theorem V9_stays (n : Nat) : ∀ j v w w', EB w w' → V9 n j v w → V9 n j v w' := by
  intro j v w w' hE hv
  unfold V9 at *
  split at hv <;> first | exact hv | exact LitAt.below hv hE | trivial
theorem small_len {n : Nat} {W : World} (hB : SBox n W) (hg : Gl W) (l : List S29) (fr un : Int) (v : Value) (hv : LitAt l v W) (hl : l.length ≤ 100000) (hin : ∀ x ∈ l, x ∈ [xN, yN, eN, fN, aN]) (hres : IsReads [gN] l fr un []) :
    Calls Tryd.prog 14 #[basinV n, v, .int .i64 fr, .int .i64 un] W fun e w' => ∃ v', e = .returned v' ∧ Len0 v' ∧ Below W.heap.size W w' := by
  obtain ⟨lb, cs, rfl, h2, h3⟩ := hv
  refine (small_read hB hg lb cs l fr un [] h2 h3 hl hin hres).mono ?_
  rintro e w' ⟨A, c, rfl, _, _, hb⟩
  exact ⟨_, rfl, ⟨A, c, rfl⟩, hb⟩
theorem small_void {W : World} (lb : Nat) (cs : Array Value) (l : List S29) (r : Bool) (hlb : W.heap[lb]? = some (.cells cs 29 (0, 0))) (hcs : cs.toList = l.flatMap encG) (hl : l.length ≤ 100000) (hin : ∀ x ∈ l, x ∈ [xN, yN, eN, fN, aN]) (hr : decide (voidP l 0) = r) :
    Calls Tryd.prog 12 #[.slice (some ⟨lb, 0, none⟩) l.length l.length, .int .i64 0] W fun e w' => e = .returned (.bool r) ∧ Below W.heap.size W w' := by
  subst hr
  exact Void_any (some ⟨lb, 0, none⟩) l.length l 0 W (lit_reads hlb hcs (by omega)) hl (fun x hx => ⟨(smallOk x (hin x hx)).1, (smallOk x (hin x hx)).2.1⟩) (by decide)
theorem small_merge {W : World} (p q : Nat) (cs ds : Array Value) (hp : W.heap[p]? = some (.cells cs 29 (0, 0))) (hcs : cs.toList = [yN, xN].flatMap encG) (hq : W.heap[q]? = some (.cells ds 29 (0, 0))) (hds : ds.toList = [xN].flatMap encG) :
    Calls Tryd.prog 9 #[.slice (some ⟨p, 0, none⟩) 2 2, .slice (some ⟨q, 0, none⟩) 1 1] W fun e w' => ∃ A c, e = .returned (.slice A 2 c) ∧ 2 ≤ c ∧ ReadsRow (RE encG) 5 w' A 2 [xN, yN] ∧ Below W.heap.size W w' := by
  refine (Merge_any (some ⟨p, 0, none⟩) (some ⟨q, 0, none⟩) 2 1 [yN, xN] [xN] W (lit_reads hp hcs (by decide)) (lit_reads hq hds (by decide)) (by decide) (by decide) (fun e => by cases e) (fun e => by cases e) (by decide) (by decide)).mono ?_
  rintro e w' ⟨v, r, rfl, hm, _, ho, hb⟩
  obtain rfl : r = [xN, yN] := hm.unique merge1 (fun _ => Iff.rfl)
  obtain ⟨A, c, rfl, hc, _, hr⟩ := ho.reads encG_len
  exact ⟨A, c, rfl, hc, hr, hb⟩
theorem same_xy : bourneref25_Same.f 100 [xN, yN] [xN, yN] = some true := by decide +kernel
theorem small_same {W : World} (A : Option Addr) (c p : Nat) (cs : Array Value) (hr : ReadsRow (RE encG) 5 W A 2 [xN, yN]) (hc : 2 ≤ c) (hp : W.heap[p]? = some (.cells cs 29 (0, 0))) (hcs : cs.toList = [xN, yN].flatMap encG) :
    Calls Tryd.prog 10 #[.slice A 2 c, .slice (some ⟨p, 0, none⟩) 2 2] W fun e w' => e = .returned (.bool true) ∧ Below W.heap.size W w' := by
  refine (bourneref25_Same.calls 100 A c [xN, yN] (some ⟨p, 0, none⟩) 2 [xN, yN] true W (reads_k29 hr) hc (reads_k29 (lit_reads hp hcs (by decide))) (Nat.le_refl _) same_xy).mono ?_
  rintro e w' h
  first | exact h | exact ⟨h.1, h.2.below⟩
/-- The cells that region 11 reads. -/
def SM (n : Nat) (ad : Addr) (w : World) : Prop :=
  w.cell? ad = some (.int .i64 0) ∧ w.cell? ⟨ad.block, ad.off + 1, none⟩ = some (.int .i64 1) ∧ w.cell? ⟨ad.block, ad.off + 2, none⟩ = some (.int .i64 41) ∧ w.cell? ⟨ad.block, ad.off + 3, none⟩ = some (.int .i64 42) ∧
  w.cell? ⟨n + 1 + 1, 0, none⟩ = some (.int .i64 0) ∧ w.cell? ⟨n + 1 + 1, 1, none⟩ = some (.int .i64 1) ∧ w.cell? ⟨n + 1 + 1, 2, none⟩ = some (.int .i64 70) ∧ w.cell? ⟨n + 1 + 1, 3, none⟩ = some (.int .i64 40) ∧ w.cell? ⟨n + 1 + 1, 4, none⟩ = some (.string tagN) ∧
  w.cell? ⟨n + 1 + 1 + 1, 0, none⟩ = some (.int .i64 0) ∧ w.cell? ⟨n + 1 + 1 + 1, 1, none⟩ = some (.int .i64 2) ∧ w.cell? ⟨n + 1 + 1 + 1, 2, none⟩ = some (.int .i64 110) ∧ w.cell? ⟨n + 1 + 1 + 1, 3, none⟩ = some (.int .i64 43) ∧ w.cell? ⟨n + 1 + 1 + 1, 4, none⟩ = some (.string tagN)
theorem SM.step {n : Nat} {ad : Addr} {w w' : World} (hb : Below w.heap.size w w') (h : SM n ad w) : SM n ad w' := by
  have mv : ∀ (a : Addr) (v : Value), w.cell? a = some v → w'.cell? a = some v := fun a v ha => (hb.cell (World.block_lt_of_cell? w a ha)).trans ha
  obtain ⟨a0, a1, a2, a3, b0, b1, b2, b3, b4, c0, c1, c2, c3, c4⟩ := h
  exact ⟨mv _ _ a0, mv _ _ a1, mv _ _ a2, mv _ _ a3, mv _ _ b0, mv _ _ b1, mv _ _ b2, mv _ _ b3, mv _ _ b4, mv _ _ c0, mv _ _ c1, mv _ _ c2, mv _ _ c3, mv _ _ c4⟩
theorem SM.start {n : Nat} {W : World} {A : Option Addr} (hB : SBox n W) (hr : ReadsRow (RE encR) 4 W A 1 [R0]) : ∃ ad, A = some ad ∧ SM n ad W := by
  obtain ⟨ad, c, e, _, hK, hc0⟩ := ReadsRow.get_ hr z49 0 (by decide) (by decide)
  have hc : ∀ j u, (encR R0)[j]? = some u → W.cell? (ad.add j) = some u := by
    intro j u hj
    have hK' : c = encR R0 := hK
    rw [← hK'] at hj
    have := hc0 j u hj
    simpa using this
  have had : ad.add 0 = ad := by simp [Addr.add]
  have f0 := hc 0 _ rfl
  have f1 := hc 1 _ rfl
  have f2 := hc 2 _ rfl
  have f3 := hc 3 _ rfl
  refine ⟨ad, e, ?_, ?_, ?_, ?_, (blk_cell hB.x 0).trans rfl, (blk_cell hB.x 1).trans rfl, (blk_cell hB.x 2).trans rfl, (blk_cell hB.x 3).trans rfl, (blk_cell hB.x 4).trans rfl, (blk_cell hB.y 0).trans rfl, (blk_cell hB.y 1).trans rfl, (blk_cell hB.y 2).trans rfl, (blk_cell hB.y 3).trans rfl, (blk_cell hB.y 4).trans rfl⟩
  · rw [had] at f0; exact f0
  · have := add_field ad 0 1 (by omega)
    rw [Nat.zero_add, had] at this
    rw [← this]; exact f1
  · have := add_field ad 0 2 (by omega)
    rw [Nat.zero_add, had] at this
    rw [← this]; exact f2
  · have := add_field ad 0 3 (by omega)
    rw [Nat.zero_add, had] at this
    rw [← this]; exact f3
end Go.Proofs.YtioekkdodggakaaDoor.G
-- HSmall
/-
  bournelaw25.small, walked.
-/
namespace Go.Proofs.YtioekkdodggakaaDoor.G
open Go.RowKit Go.Proofs.YtioekkdodggakaaDoorW.PrintWords Go.Proofs.YtioekkdodggakaaDoorW.PrintLast Go.Proofs.YtioekkdodggakaaDoorW.PrintMore
set_option linter.unusedVariables false
set_option linter.unusedSimpArgs false
set_option maxHeartbeats 8000000 in
set_option maxRecDepth 100000 in
theorem small_calls (w : World) (hgl : Gl w) :
    Calls Tryd.prog 7 #[] w fun e w' => e = .returned (.bool true) ∧ Below w.heap.size w w' := by
  have hu29 := Tryd.underlying29
  have hu41 := Tryd.underlying41
  have hu63 := Tryd.underlying63
  have HG := Aside0.mk hgl
  clear hgl
  go_enter Tryd.func7, Tryd.ntmps7
  go_upto_region 8 with fail
  generalize hW1 : ((((((w.alloc _).alloc _).alloc _).alloc _).alloc _).alloc _).alloc _ = W1
  have hB1 : Below w.heap.size w W1 := by
    rw [← hW1]
    exact (((((((Below.refl _ _).alloc (Nat.le_refl _) _).alloc (by simp) _).alloc (by simp; omega) _).alloc (by simp; omega) _).alloc (by simp; omega) _).alloc (by simp; omega) _).alloc (by simp; omega) _
  have hS1 : SBox w.heap.size W1 := by
    rw [← hW1]
    refine ⟨blk_alloc (blk_alloc (blk_alloc (blk_alloc (blk_alloc (blk_alloc (al0 _ _) _) _) _) _) _) _, blk_alloc (blk_alloc (blk_alloc (blk_alloc (blk_alloc (al1 _ _ _) _) _) _) _) _, ?_, ?_, ?_, ?_, ?_⟩
    · exact blk_alloc (blk_alloc (blk_alloc (blk_alloc (alS (szS (szS rfl))) _) _) _) _
    · exact blk_alloc (blk_alloc (blk_alloc (alS (szS (szS (szS rfl)))) _) _) _
    · exact blk_alloc (blk_alloc (alS (szS (szS (szS (szS rfl))))) _) _
    · exact blk_alloc (alS (szS (szS (szS (szS (szS rfl)))))) _
    · exact alS (szS (szS (szS (szS (szS (szS rfl))))))
  have HB1 := Aside0.mk hB1
  have HS1 := Aside0.mk hS1
  have HG1 := Aside0.mk (HG.out.below hB1)
  have hRd := small_read (n := w.heap.size) (W := W1.alloc (.cells #[.int .i64 0, .int .i64 2, .int .i64 110, .int .i64 43, .string tagN, .int .i64 0, .int .i64 1, .int .i64 70, .int .i64 40, .string tagN, .int .i64 0, .int .i64 2, .int .i64 110, .int .i64 43, .string tagN] 29)) (hS1.below ((Below.refl _ _).alloc (Nat.le_refl _) _)) (HG1.out.below ((Below.refl _ _).alloc (Nat.le_refl _) _)) W1.heap.size _ [yN, xN, yN] 0 10 [R0] (al0 _ _) rfl (by decide) (by decide +kernel) reads1
  have HRd := Aside0.mk hRd
  clear hW1 hB1 hS1 hRd HG
  go_wp2_with (first | (refine wpList_load_row rfl 41 (.tmp 1) rfl _ rfl 41 _ _ _ HS1.out.b hu41 rfl (by kernel_rfl) ?_) | (refine wpList_load_row rfl 29 (.tmp 3) rfl _ rfl 29 _ _ _ HS1.out.x hu29 rfl (by kernel_rfl) ?_) | (refine wpList_load_row rfl 29 (.tmp 4) rfl _ rfl 29 _ _ _ HS1.out.y hu29 rfl (by kernel_rfl) ?_) | (go_at_call 14; refine HRd.out.mono ?_; rintro e w2 ⟨A8, c8, rfl, hc8, hr8, hb8⟩))
  have HS2 := Aside0.mk (HS1.out.below (((Below.refl W1.heap.size W1).alloc (Nat.le_refl _) _).trans (hb8.mono (by simp))))
  have HG2 := Aside0.mk (HG1.out.below (((Below.refl W1.heap.size W1).alloc (Nat.le_refl _) _).trans (hb8.mono (by simp))))
  have HB2 : Aside0 (Below w.heap.size w w2) := ⟨HB1.out.trans ((((Below.refl W1.heap.size W1).alloc (Nat.le_refl _) _).trans (hb8.mono (by simp))).mono HB1.out.size)⟩
  have HR8 := Aside0.mk hr8
  clear hb8 hr8 HRd HS1 HG1 HB1
  go_cut [9] (fun v wc => v = .int .i64 0 ∧ Aside0 (Below w2.heap.size w2 wc))
  case first =>
    refine region_inv (C := fun W => Below w2.heap.size w2 W) (E := EB) (V := V9 w.heap.size) (by kernel_rfl) (V9_stays _) (dst_of (by kernel_rfl)) (in_of (by kernel_rfl)) (ord_of (by kernel_rfl)) (below_drew1 (Below.refl _ _)) (steps_of ?_) ?_
    · intro i hi aa wq K hC hst hdep hK
      have hi' : i < 26 := hi
      rcases (show i = 0 ∨ i = 1 ∨ i = 2 ∨ i = 3 ∨ i = 4 ∨ i = 5 ∨ i = 6 ∨ i = 7 ∨ i = 8 ∨ i = 9 ∨ i = 10 ∨ i = 11 ∨ i = 12 ∨ i = 13 ∨ i = 14 ∨ i = 15 ∨ i = 16 ∨ i = 17 ∨ i = 18 ∨ i = 19 ∨ i = 20 ∨ i = 21 ∨ i = 22 ∨ i = 23 ∨ i = 24 ∨ i = 25 by omega) with rfl | rfl | rfl | rfl | rfl | rfl | rfl | rfl | rfl | rfl | rfl | rfl | rfl | rfl | rfl | rfl | rfl | rfl | rfl | rfl | rfl | rfl | rfl | rfl | rfl | rfl
      · refine wpOp_of (Array.getElem?_eq_getElem hi) rfl (wp_load_row 41 (.tmp 1) rfl _ ((hst 1 (off_of (by kernel_rfl))).trans rfl) 41 _ _ _ (HS2.out.below hC).b hu41 rfl (by kernel_rfl) ?_)
        exact hK _ _ (Below.refl _ _) hC rfl
      · refine wpOp_of (Array.getElem?_eq_getElem hi) rfl (wp_load_row 29 (.tmp 5) rfl _ ((hst 5 (off_of (by kernel_rfl))).trans rfl) 29 _ _ _ (HS2.out.below hC).e hu29 rfl (by kernel_rfl) ?_)
        exact hK _ _ (Below.refl _ _) hC rfl
      · have d1 := hdep ⟨1, .data⟩ (by simp) rfl _ 31 rfl rfl
        refine wpOp_of (Array.getElem?_eq_getElem hi) rfl (op_build1 (.tmp 31) rfl eN d1 ?_)
        exact hK _ _ ((Below.refl _ _).alloc (Nat.le_refl _) _) (below_alloc hC _) ⟨_, _, rfl, al0 _ _, rfl⟩
      · have d1 := hdep ⟨0, .data⟩ (by simp) rfl _ 30 rfl rfl
        have d2 := hdep ⟨2, .data⟩ (by simp) rfl _ 32 rfl rfl
        refine wpOp_of (Array.getElem?_eq_getElem hi) rfl (op_call 14 _ Tryd.func14 (by kernel_rfl) rfl _ _ rfl #[basinV w.heap.size, aa.tmps.getD 32 undef, .int .i64 0, .int .i64 10] (by simp only [List.map_toArray, List.map_cons, List.map_nil]; exact congrArg (fun v => #[v, aa.tmps.getD 32 undef, .int .i64 0, .int .i64 10]) d1) ?_)
        refine (small_len (HS2.out.below hC) (HG2.out.below hC) [eN] 0 10 _ d2 (by decide) (by decide +kernel) reads2).mono ?_
        rintro e w' ⟨v', rfl, h1, h2⟩
        exact ⟨v', rfl, hK _ _ h2 (below_step hC h2) h1⟩
      · have d1 := hdep ⟨3, .data⟩ (by simp) rfl _ 33 rfl rfl
        obtain ⟨A7, c7, d1⟩ := d1
        refine wpOp_of (Array.getElem?_eq_getElem hi) rfl (op_len (.tmp 33) 43 49 Tryd.underlying43 rfl A7 0 c7 d1 ?_)
        exact hK _ _ (Below.refl _ _) hC rfl
      · refine wpOp_of (Array.getElem?_eq_getElem hi) rfl (wp_load_row 41 (.tmp 1) rfl _ ((hst 1 (off_of (by kernel_rfl))).trans rfl) 41 _ _ _ (HS2.out.below hC).b hu41 rfl (by kernel_rfl) ?_)
        exact hK _ _ (Below.refl _ _) hC rfl
      · refine wpOp_of (Array.getElem?_eq_getElem hi) rfl (wp_load_row 29 (.tmp 3) rfl _ ((hst 3 (off_of (by kernel_rfl))).trans rfl) 29 _ _ _ (HS2.out.below hC).x hu29 rfl (by kernel_rfl) ?_)
        exact hK _ _ (Below.refl _ _) hC rfl
      · refine wpOp_of (Array.getElem?_eq_getElem hi) rfl (wp_load_row 29 (.tmp 6) rfl _ ((hst 6 (off_of (by kernel_rfl))).trans rfl) 29 _ _ _ (HS2.out.below hC).f hu29 rfl (by kernel_rfl) ?_)
        exact hK _ _ (Below.refl _ _) hC rfl
      · have d1 := hdep ⟨6, .data⟩ (by simp) rfl _ 36 rfl rfl
        have d2 := hdep ⟨7, .data⟩ (by simp) rfl _ 37 rfl rfl
        refine wpOp_of (Array.getElem?_eq_getElem hi) rfl (op_build2 (.tmp 36) (.tmp 37) rfl xN fN d1 d2 ?_)
        exact hK _ _ ((Below.refl _ _).alloc (Nat.le_refl _) _) (below_alloc hC _) ⟨_, _, rfl, al0 _ _, rfl⟩
      · have d1 := hdep ⟨5, .data⟩ (by simp) rfl _ 35 rfl rfl
        have d2 := hdep ⟨8, .data⟩ (by simp) rfl _ 38 rfl rfl
        refine wpOp_of (Array.getElem?_eq_getElem hi) rfl (op_call 14 _ Tryd.func14 (by kernel_rfl) rfl _ _ rfl #[basinV w.heap.size, aa.tmps.getD 38 undef, .int .i64 0, .int .i64 10] (by simp only [List.map_toArray, List.map_cons, List.map_nil]; exact congrArg (fun v => #[v, aa.tmps.getD 38 undef, .int .i64 0, .int .i64 10]) d1) ?_)
        refine (small_len (HS2.out.below hC) (HG2.out.below hC) [xN, fN] 0 10 _ d2 (by decide) (by decide +kernel) reads3).mono ?_
        rintro e w' ⟨v', rfl, h1, h2⟩
        exact ⟨v', rfl, hK _ _ h2 (below_step hC h2) h1⟩
      · have d1 := hdep ⟨9, .data⟩ (by simp) rfl _ 39 rfl rfl
        obtain ⟨A7, c7, d1⟩ := d1
        refine wpOp_of (Array.getElem?_eq_getElem hi) rfl (op_len (.tmp 39) 43 49 Tryd.underlying43 rfl A7 0 c7 d1 ?_)
        exact hK _ _ (Below.refl _ _) hC rfl
      · have d1 := hdep ⟨4, .data⟩ (by simp) rfl _ 34 rfl rfl
        have d2 := hdep ⟨10, .data⟩ (by simp) rfl _ 40 rfl rfl
        refine wpOp_of (Array.getElem?_eq_getElem hi) rfl (op_add0 (.tmp 34) (.tmp 40) rfl d1 d2 ?_)
        exact hK _ _ (Below.refl _ _) hC rfl
      · refine wpOp_of (Array.getElem?_eq_getElem hi) rfl (wp_load_row 41 (.tmp 1) rfl _ ((hst 1 (off_of (by kernel_rfl))).trans rfl) 41 _ _ _ (HS2.out.below hC).b hu41 rfl (by kernel_rfl) ?_)
        exact hK _ _ (Below.refl _ _) hC rfl
      · refine wpOp_of (Array.getElem?_eq_getElem hi) rfl (wp_load_row 29 (.tmp 3) rfl _ ((hst 3 (off_of (by kernel_rfl))).trans rfl) 29 _ _ _ (HS2.out.below hC).x hu29 rfl (by kernel_rfl) ?_)
        exact hK _ _ (Below.refl _ _) hC rfl
      · refine wpOp_of (Array.getElem?_eq_getElem hi) rfl (wp_load_row 29 (.tmp 7) rfl _ ((hst 7 (off_of (by kernel_rfl))).trans rfl) 29 _ _ _ (HS2.out.below hC).a hu29 rfl (by kernel_rfl) ?_)
        exact hK _ _ (Below.refl _ _) hC rfl
      · have d1 := hdep ⟨13, .data⟩ (by simp) rfl _ 43 rfl rfl
        have d2 := hdep ⟨14, .data⟩ (by simp) rfl _ 44 rfl rfl
        refine wpOp_of (Array.getElem?_eq_getElem hi) rfl (op_build2 (.tmp 43) (.tmp 44) rfl xN aN d1 d2 ?_)
        exact hK _ _ ((Below.refl _ _).alloc (Nat.le_refl _) _) (below_alloc hC _) ⟨_, _, rfl, al0 _ _, rfl⟩
      · have d1 := hdep ⟨12, .data⟩ (by simp) rfl _ 42 rfl rfl
        have d2 := hdep ⟨15, .data⟩ (by simp) rfl _ 45 rfl rfl
        refine wpOp_of (Array.getElem?_eq_getElem hi) rfl (op_call 14 _ Tryd.func14 (by kernel_rfl) rfl _ _ rfl #[basinV w.heap.size, aa.tmps.getD 45 undef, .int .i64 0, .int .i64 10] (by simp only [List.map_toArray, List.map_cons, List.map_nil]; exact congrArg (fun v => #[v, aa.tmps.getD 45 undef, .int .i64 0, .int .i64 10]) d1) ?_)
        refine (small_len (HS2.out.below hC) (HG2.out.below hC) [xN, aN] 0 10 _ d2 (by decide) (by decide +kernel) reads4).mono ?_
        rintro e w' ⟨v', rfl, h1, h2⟩
        exact ⟨v', rfl, hK _ _ h2 (below_step hC h2) h1⟩
      · have d1 := hdep ⟨16, .data⟩ (by simp) rfl _ 46 rfl rfl
        obtain ⟨A7, c7, d1⟩ := d1
        refine wpOp_of (Array.getElem?_eq_getElem hi) rfl (op_len (.tmp 46) 43 49 Tryd.underlying43 rfl A7 0 c7 d1 ?_)
        exact hK _ _ (Below.refl _ _) hC rfl
      · have d1 := hdep ⟨11, .data⟩ (by simp) rfl _ 41 rfl rfl
        have d2 := hdep ⟨17, .data⟩ (by simp) rfl _ 47 rfl rfl
        refine wpOp_of (Array.getElem?_eq_getElem hi) rfl (op_add0 (.tmp 41) (.tmp 47) rfl d1 d2 ?_)
        exact hK _ _ (Below.refl _ _) hC rfl
      · refine wpOp_of (Array.getElem?_eq_getElem hi) rfl (wp_load_row 41 (.tmp 1) rfl _ ((hst 1 (off_of (by kernel_rfl))).trans rfl) 41 _ _ _ (HS2.out.below hC).b hu41 rfl (by kernel_rfl) ?_)
        exact hK _ _ (Below.refl _ _) hC rfl
      · refine wpOp_of (Array.getElem?_eq_getElem hi) rfl (wp_load_row 29 (.tmp 3) rfl _ ((hst 3 (off_of (by kernel_rfl))).trans rfl) 29 _ _ _ (HS2.out.below hC).x hu29 rfl (by kernel_rfl) ?_)
        exact hK _ _ (Below.refl _ _) hC rfl
      · have d1 := hdep ⟨20, .data⟩ (by simp) rfl _ 50 rfl rfl
        refine wpOp_of (Array.getElem?_eq_getElem hi) rfl (op_build1 (.tmp 50) rfl xN d1 ?_)
        exact hK _ _ ((Below.refl _ _).alloc (Nat.le_refl _) _) (below_alloc hC _) ⟨_, _, rfl, al0 _ _, rfl⟩
      · have d1 := hdep ⟨19, .data⟩ (by simp) rfl _ 49 rfl rfl
        have d2 := hdep ⟨21, .data⟩ (by simp) rfl _ 51 rfl rfl
        refine wpOp_of (Array.getElem?_eq_getElem hi) rfl (op_call 14 _ Tryd.func14 (by kernel_rfl) rfl _ _ rfl #[basinV w.heap.size, aa.tmps.getD 51 undef, .int .i64 2, .int .i64 10] (by simp only [List.map_toArray, List.map_cons, List.map_nil]; exact congrArg (fun v => #[v, aa.tmps.getD 51 undef, .int .i64 2, .int .i64 10]) d1) ?_)
        refine (small_len (HS2.out.below hC) (HG2.out.below hC) [xN] 2 10 _ d2 (by decide) (by decide +kernel) reads5).mono ?_
        rintro e w' ⟨v', rfl, h1, h2⟩
        exact ⟨v', rfl, hK _ _ h2 (below_step hC h2) h1⟩
      · have d1 := hdep ⟨22, .data⟩ (by simp) rfl _ 52 rfl rfl
        obtain ⟨A7, c7, d1⟩ := d1
        refine wpOp_of (Array.getElem?_eq_getElem hi) rfl (op_len (.tmp 52) 43 49 Tryd.underlying43 rfl A7 0 c7 d1 ?_)
        exact hK _ _ (Below.refl _ _) hC rfl
      · have d1 := hdep ⟨18, .data⟩ (by simp) rfl _ 48 rfl rfl
        have d2 := hdep ⟨23, .data⟩ (by simp) rfl _ 53 rfl rfl
        refine wpOp_of (Array.getElem?_eq_getElem hi) rfl (op_add0 (.tmp 48) (.tmp 53) rfl d1 d2 ?_)
        exact hK _ _ (Below.refl _ _) hC rfl
      · have d1 := hdep ⟨24, .data⟩ (by simp) rfl _ 54 rfl rfl
        refine wpOp_of (Array.getElem?_eq_getElem hi) rfl (op_assign (.tmp 54) rfl _ d1 ?_)
        exact hK _ _ (Below.refl _ _) hC rfl
    · intro aa wq hI
      obtain ⟨tm, df⟩ := aa
      obtain rfl : df = [] := hI.df
      have hsz : tm.size = 97 := hI.sz
      have hv9 := hI.v 25 _ 9 rfl rfl rfl
      have hB9 := hI.c
      have harr := arr_of hsz
      simp only [Array.getD_eq_getD_getElem?] at harr hv9
      have harr' : tm = #[tm[0]?.getD undef, tm[1]?.getD undef, tm[2]?.getD undef, tm[3]?.getD undef, tm[4]?.getD undef, tm[5]?.getD undef, tm[6]?.getD undef, tm[7]?.getD undef, tm[8]?.getD undef, tm[9]?.getD undef, tm[10]?.getD undef, tm[11]?.getD undef, tm[12]?.getD undef, tm[13]?.getD undef, tm[14]?.getD undef, tm[15]?.getD undef, tm[16]?.getD undef, tm[17]?.getD undef, tm[18]?.getD undef, tm[19]?.getD undef, tm[20]?.getD undef, tm[21]?.getD undef, tm[22]?.getD undef, tm[23]?.getD undef, tm[24]?.getD undef, tm[25]?.getD undef, tm[26]?.getD undef, tm[27]?.getD undef, tm[28]?.getD undef, tm[29]?.getD undef, tm[30]?.getD undef, tm[31]?.getD undef, tm[32]?.getD undef, tm[33]?.getD undef, tm[34]?.getD undef, tm[35]?.getD undef, tm[36]?.getD undef, tm[37]?.getD undef, tm[38]?.getD undef, tm[39]?.getD undef, tm[40]?.getD undef, tm[41]?.getD undef, tm[42]?.getD undef, tm[43]?.getD undef, tm[44]?.getD undef, tm[45]?.getD undef, tm[46]?.getD undef, tm[47]?.getD undef, tm[48]?.getD undef, tm[49]?.getD undef, tm[50]?.getD undef, tm[51]?.getD undef, tm[52]?.getD undef, tm[53]?.getD undef, tm[54]?.getD undef, tm[55]?.getD undef, tm[56]?.getD undef, tm[57]?.getD undef, tm[58]?.getD undef, tm[59]?.getD undef, tm[60]?.getD undef, tm[61]?.getD undef, tm[62]?.getD undef, tm[63]?.getD undef, tm[64]?.getD undef, tm[65]?.getD undef, tm[66]?.getD undef, tm[67]?.getD undef, tm[68]?.getD undef, tm[69]?.getD undef, tm[70]?.getD undef, tm[71]?.getD undef, tm[72]?.getD undef, tm[73]?.getD undef, tm[74]?.getD undef, tm[75]?.getD undef, tm[76]?.getD undef, tm[77]?.getD undef, tm[78]?.getD undef, tm[79]?.getD undef, tm[80]?.getD undef, tm[81]?.getD undef, tm[82]?.getD undef, tm[83]?.getD undef, tm[84]?.getD undef, tm[85]?.getD undef, tm[86]?.getD undef, tm[87]?.getD undef, tm[88]?.getD undef, tm[89]?.getD undef, tm[90]?.getD undef, tm[91]?.getD undef, tm[92]?.getD undef, tm[93]?.getD undef, tm[94]?.getD undef, tm[95]?.getD undef, tm[96]?.getD undef] := harr
      replace hv9 : tm[9]?.getD undef = .int .i64 0 := hv9
      have s0 := hI.st 0 (off_of (by kernel_rfl))
      simp only [Array.getD_eq_getD_getElem?, List.getElem?_toArray, List.getElem?_cons_succ, List.getElem?_cons_zero, Option.getD_some] at s0
      have s1 := hI.st 1 (off_of (by kernel_rfl))
      simp only [Array.getD_eq_getD_getElem?, List.getElem?_toArray, List.getElem?_cons_succ, List.getElem?_cons_zero, Option.getD_some] at s1
      have s2 := hI.st 2 (off_of (by kernel_rfl))
      simp only [Array.getD_eq_getD_getElem?, List.getElem?_toArray, List.getElem?_cons_succ, List.getElem?_cons_zero, Option.getD_some] at s2
      have s3 := hI.st 3 (off_of (by kernel_rfl))
      simp only [Array.getD_eq_getD_getElem?, List.getElem?_toArray, List.getElem?_cons_succ, List.getElem?_cons_zero, Option.getD_some] at s3
      have s4 := hI.st 4 (off_of (by kernel_rfl))
      simp only [Array.getD_eq_getD_getElem?, List.getElem?_toArray, List.getElem?_cons_succ, List.getElem?_cons_zero, Option.getD_some] at s4
      have s5 := hI.st 5 (off_of (by kernel_rfl))
      simp only [Array.getD_eq_getD_getElem?, List.getElem?_toArray, List.getElem?_cons_succ, List.getElem?_cons_zero, Option.getD_some] at s5
      have s6 := hI.st 6 (off_of (by kernel_rfl))
      simp only [Array.getD_eq_getD_getElem?, List.getElem?_toArray, List.getElem?_cons_succ, List.getElem?_cons_zero, Option.getD_some] at s6
      have s7 := hI.st 7 (off_of (by kernel_rfl))
      simp only [Array.getD_eq_getD_getElem?, List.getElem?_toArray, List.getElem?_cons_succ, List.getElem?_cons_zero, Option.getD_some] at s7
      have s8 := hI.st 8 (off_of (by kernel_rfl))
      simp only [Array.getD_eq_getD_getElem?, List.getElem?_toArray, List.getElem?_cons_succ, List.getElem?_cons_zero, Option.getD_some] at s8
      have s10 := hI.st 10 (off_of (by kernel_rfl))
      simp only [Array.getD_eq_getD_getElem?, List.getElem?_toArray, List.getElem?_cons_succ, List.getElem?_cons_zero, Option.getD_some] at s10
      rw [show (⟨tm, []⟩ : Act) = ⟨#[tm[0]?.getD undef, tm[1]?.getD undef, tm[2]?.getD undef, tm[3]?.getD undef, tm[4]?.getD undef, tm[5]?.getD undef, tm[6]?.getD undef, tm[7]?.getD undef, tm[8]?.getD undef, tm[9]?.getD undef, tm[10]?.getD undef, tm[11]?.getD undef, tm[12]?.getD undef, tm[13]?.getD undef, tm[14]?.getD undef, tm[15]?.getD undef, tm[16]?.getD undef, tm[17]?.getD undef, tm[18]?.getD undef, tm[19]?.getD undef, tm[20]?.getD undef, tm[21]?.getD undef, tm[22]?.getD undef, tm[23]?.getD undef, tm[24]?.getD undef, tm[25]?.getD undef, tm[26]?.getD undef, tm[27]?.getD undef, tm[28]?.getD undef, tm[29]?.getD undef, tm[30]?.getD undef, tm[31]?.getD undef, tm[32]?.getD undef, tm[33]?.getD undef, tm[34]?.getD undef, tm[35]?.getD undef, tm[36]?.getD undef, tm[37]?.getD undef, tm[38]?.getD undef, tm[39]?.getD undef, tm[40]?.getD undef, tm[41]?.getD undef, tm[42]?.getD undef, tm[43]?.getD undef, tm[44]?.getD undef, tm[45]?.getD undef, tm[46]?.getD undef, tm[47]?.getD undef, tm[48]?.getD undef, tm[49]?.getD undef, tm[50]?.getD undef, tm[51]?.getD undef, tm[52]?.getD undef, tm[53]?.getD undef, tm[54]?.getD undef, tm[55]?.getD undef, tm[56]?.getD undef, tm[57]?.getD undef, tm[58]?.getD undef, tm[59]?.getD undef, tm[60]?.getD undef, tm[61]?.getD undef, tm[62]?.getD undef, tm[63]?.getD undef, tm[64]?.getD undef, tm[65]?.getD undef, tm[66]?.getD undef, tm[67]?.getD undef, tm[68]?.getD undef, tm[69]?.getD undef, tm[70]?.getD undef, tm[71]?.getD undef, tm[72]?.getD undef, tm[73]?.getD undef, tm[74]?.getD undef, tm[75]?.getD undef, tm[76]?.getD undef, tm[77]?.getD undef, tm[78]?.getD undef, tm[79]?.getD undef, tm[80]?.getD undef, tm[81]?.getD undef, tm[82]?.getD undef, tm[83]?.getD undef, tm[84]?.getD undef, tm[85]?.getD undef, tm[86]?.getD undef, tm[87]?.getD undef, tm[88]?.getD undef, tm[89]?.getD undef, tm[90]?.getD undef, tm[91]?.getD undef, tm[92]?.getD undef, tm[93]?.getD undef, tm[94]?.getD undef, tm[95]?.getD undef, tm[96]?.getD undef], []⟩ from congrArg (fun x => (⟨x, []⟩ : Act)) harr']
      rw [hv9, s0, s1, s2, s3, s4, s5, s6, s7, s8, s10]
      clear harr harr' hI
      go_wp2
      go_meet
      case rel => exact ⟨rfl, ⟨hB9⟩⟩
  case rest =>
    obtain ⟨rfl, HBC⟩ := hcut
    have HSC := Aside0.mk (HS2.out.below HBC.out)
    have HBW := Aside0.mk (HB2.out.trans (HBC.out.mono HB2.out.size))
    have HRC := Aside0.mk (ReadsRow.imp_ HR8.out HBC.out (fun _ _ h => h))
    clear HS2 HB2 HR8 HG2 HBC
    go_wp2_with (first | (refine wpList_load_row rfl 29 (.tmp 3) rfl _ rfl 29 _ _ _ HSC.out.x hu29 rfl (by kernel_rfl) ?_) | (refine wpList_load_row rfl 29 (.tmp 7) rfl _ rfl 29 _ _ _ HSC.out.a hu29 rfl (by kernel_rfl) ?_))
    refine (small_void wc.heap.size _ [xN, aN] true (al0 _ _) rfl (by decide) (by decide +kernel) void1).mono ?_
    rintro e w4 ⟨rfl, hb4⟩
    have hb4' : Below wc.heap.size wc w4 := ((Below.refl wc.heap.size wc).alloc (Nat.le_refl _) _).trans (hb4.mono (by simp))
    have HS4 := Aside0.mk (HSC.out.below hb4')
    have HB4 := Aside0.mk (HBW.out.trans (hb4'.mono HBW.out.size))
    have HR4 := Aside0.mk (ReadsRow.imp_ HRC.out hb4' (fun _ _ h => h))
    have x0 : w4.cell? ⟨w.heap.size + 1 + 1, 0, none⟩ = some (.int .i64 0) := (blk_cell HS4.out.x 0).trans rfl
    have x1 : w4.cell? ⟨w.heap.size + 1 + 1, 1, none⟩ = some (.int .i64 1) := (blk_cell HS4.out.x 1).trans rfl
    have x2 : w4.cell? ⟨w.heap.size + 1 + 1, 2, none⟩ = some (.int .i64 70) := (blk_cell HS4.out.x 2).trans rfl
    have x3 : w4.cell? ⟨w.heap.size + 1 + 1, 3, none⟩ = some (.int .i64 40) := (blk_cell HS4.out.x 3).trans rfl
    have x4 : w4.cell? ⟨w.heap.size + 1 + 1, 4, none⟩ = some (.string tagN) := (blk_cell HS4.out.x 4).trans rfl
    have y0 : w4.cell? ⟨w.heap.size + 1 + 1 + 1, 0, none⟩ = some (.int .i64 0) := (blk_cell HS4.out.y 0).trans rfl
    have y1 : w4.cell? ⟨w.heap.size + 1 + 1 + 1, 1, none⟩ = some (.int .i64 2) := (blk_cell HS4.out.y 1).trans rfl
    have y2 : w4.cell? ⟨w.heap.size + 1 + 1 + 1, 2, none⟩ = some (.int .i64 110) := (blk_cell HS4.out.y 2).trans rfl
    have y3 : w4.cell? ⟨w.heap.size + 1 + 1 + 1, 3, none⟩ = some (.int .i64 43) := (blk_cell HS4.out.y 3).trans rfl
    have y4 : w4.cell? ⟨w.heap.size + 1 + 1 + 1, 4, none⟩ = some (.string tagN) := (blk_cell HS4.out.y 4).trans rfl
    clear hb4 hb4' HSC HBW HRC
    go_wp2_with fail
    refine (small_void w4.heap.size _ [xN, xN, yN] false (al0 _ _) rfl (by decide) (by decide +kernel) void2).mono ?_
    rintro e w5 ⟨rfl, hb5⟩
    have hb5' : Below w4.heap.size w4 w5 := ((Below.refl w4.heap.size w4).alloc (Nat.le_refl _) _).trans (hb5.mono (by simp))
    have HS5 := Aside0.mk (HS4.out.below hb5')
    have HB5 := Aside0.mk (HB4.out.trans (hb5'.mono HB4.out.size))
    have HR5 := Aside0.mk (ReadsRow.imp_ HR4.out hb5' (fun _ _ h => h))
    obtain ⟨ad, rfl, hsm⟩ := SM.start HS5.out HR5.out
    have HSM := Aside0.mk hsm
    clear hb5 hb5' HS4 HB4 HR4 x0 x1 x2 x3 x4 y0 y1 y2 y3 y4 hsm
    go_upto_region 11 with fail
    clear HS5 HR5
    have hc8z : (1 : Int) ≤ (c8 : Int) := by have h := hc8; simp only [List.length_singleton] at h; omega
    go_region_held3 (fun w' => w'.cell? ad = some (.int .i64 0) ∧ w'.cell? ⟨ad.block, ad.off + 1, none⟩ = some (.int .i64 1) ∧ w'.cell? ⟨ad.block, ad.off + 2, none⟩ = some (.int .i64 41) ∧ w'.cell? ⟨ad.block, ad.off + 3, none⟩ = some (.int .i64 42) ∧ w'.cell? ⟨w.heap.size + 1 + 1, 0, none⟩ = some (.int .i64 0) ∧ w'.cell? ⟨w.heap.size + 1 + 1, 1, none⟩ = some (.int .i64 1) ∧ w'.cell? ⟨w.heap.size + 1 + 1, 2, none⟩ = some (.int .i64 70) ∧ w'.cell? ⟨w.heap.size + 1 + 1, 3, none⟩ = some (.int .i64 40) ∧ w'.cell? ⟨w.heap.size + 1 + 1, 4, none⟩ = some (.string tagN) ∧ w'.cell? ⟨w.heap.size + 1 + 1 + 1, 0, none⟩ = some (.int .i64 0) ∧ w'.cell? ⟨w.heap.size + 1 + 1 + 1, 1, none⟩ = some (.int .i64 2) ∧ w'.cell? ⟨w.heap.size + 1 + 1 + 1, 2, none⟩ = some (.int .i64 110) ∧ w'.cell? ⟨w.heap.size + 1 + 1 + 1, 3, none⟩ = some (.int .i64 43) ∧ w'.cell? ⟨w.heap.size + 1 + 1 + 1, 4, none⟩ = some (.string tagN)) (first | assumption | exact HSM.out.step (by repeat (first | (with_reducible first | exact Below.refl _ _ | apply below_alloc | apply below_drew1) | exact hbk2 | exact hbk)))
      (first | (go_at_call 9; (refine (small_merge _ _ (encG yN ++ encG xN).toArray (encG xN).toArray (by repeat (first | exact alS (by simp) | exact al0 _ _ | refine blk_drew ?_ | refine blk_alloc ?_ _)) rfl (by repeat (first | exact alS (by simp) | exact al0 _ _ | refine blk_drew ?_ | refine blk_alloc ?_ _)) rfl).mono ?_); rintro e w7 ⟨A7, c7, rfl, hc7, hrm, hb7⟩; have hbk : Below w5.heap.size w5 w7 := below_step (by repeat (first | (with_reducible first | exact Below.refl _ _ | apply below_alloc | apply below_drew1))) hb7) | (go_at_call 10; (refine (small_same _ _ _ (encG xN ++ encG yN).toArray (ReadsRow.imp_ hrm (by repeat (first | (with_reducible first | exact Below.refl _ _ | apply below_alloc))) (fun _ _ h => h)) hc7 (by first | exact alS (by simp) | exact al0 _ _ | (refine (hb7.block _ ?hlt).trans ?hh; (case hlt => first | (simp; done) | (simp; omega)); (case hh => repeat (first | exact alS (by simp) | exact al0 _ _ | refine blk_drew ?_ | refine blk_alloc ?_ _)))) rfl).mono ?_); rintro e w8 ⟨rfl, hb8⟩; have hbk2 : Below w5.heap.size w5 w8 := below_step (by repeat (first | (with_reducible first | exact Below.refl _ _ | apply below_alloc | apply below_drew1) | exact hbk)) hb8))
    all_goals
      rename_i hHeld
      clear hHeld
      go_wp2
      go_ret
      exact ⟨by first | rfl | (simp; done), HB5.out.trans (hbk2.mono HB5.out.size)⟩
end Go.Proofs.YtioekkdodggakaaDoor.G
