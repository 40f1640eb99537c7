/-
  The small functions: at, Index, Same, Has, turned.
-/
import Derived.Test.YtibnodjlcaodeaaTA2
import Derived.Test.YtibnodjlcaodeaaTK3
import Derived.Test.YtibnodjlcaodeaaTK5
import Derived.Test.YtibnodjlcaodeaaTK11
import Derived.Test.YtibnodjlcaodeaaTK14
import Derived.Test.YtibnodjlcaodeaaTK15
namespace Go.Proofs.Ytibnodjlcaodeaa.G
open Go.RowKit Go.Proofs.YtibnodjlcaodeaaW.PrintWords Go.Proofs.YtibnodjlcaodeaaW.PrintLast Go.Proofs.YtibnodjlcaodeaaW.PrintMore
set_option linter.unusedVariables false
set_option linter.unusedSimpArgs false

theorem Ev_unroll {α : Type} {g : Nat → Option α} {r : α} (h : Ev (fun k => g (k + 1)) r) : Ev g r := Ev.step (fun _ => rfl) h
theorem Ev_pos {α : Type} {c : Prop} [Decidable c] {f g : Nat → Option α} {r : α} (hc : c) (h : Ev f r) : Ev (fun k => if c then f k else g k) r := Ev.congr (fun _ => if_pos hc) h
theorem Ev_neg {α : Type} {c : Prop} [Decidable c] {f g : Nat → Option α} {r : α} (hc : ¬ c) (h : Ev g r) : Ev (fun k => if c then f k else g k) r := Ev.congr (fun _ => if_neg hc) h
theorem Ev_some {α β : Type} {a : α} {f : Nat → α → Option β} {r : β} (h : Ev (fun k => f k a) r) : Ev (fun k => (some a).bind (f k)) r := h
theorem Ev_eq {α β : Type} {x : Option α} {a : α} {f : Nat → α → Option β} {r : β} (hx : x = some a) (h : Ev (fun k => f k a) r) : Ev (fun k => x.bind (f k)) r := by subst hx; exact h

/-- The place of x, or -1. -/
def atI : List Int → Int → Int
  | [], _ => -1
  | y :: ys, x => if y = x then 0 else if atI ys x < 0 then -1 else atI ys x + 1
theorem atI_cases (xs : List Int) (x : Int) : (x ∉ xs ∧ atI xs x = -1) ∨ ∃ i : Nat, atI xs x = i ∧ xs[i]? = some x ∧ ∀ j < i, xs[j]? ≠ some x := by
  induction xs with
  | nil => exact .inl ⟨by simp, rfl⟩
  | cons y ys ih =>
    by_cases e : y = x
    · subst e
      exact .inr ⟨0, by simp [atI], by simp, fun j hj => by omega⟩
    · rcases ih with ⟨h1, h2⟩ | ⟨i, h1, h2, h3⟩
      · exact .inl ⟨by simp only [List.mem_cons, not_or]; exact ⟨fun h => e h.symm, h1⟩, by simp [atI, e, h2]⟩
      · refine .inr ⟨i + 1, ?_, by simpa using h2, fun j hj => ?_⟩
        · simp only [atI, if_neg e, h1]
          rw [if_neg (by omega)]; omega
        · cases j with
          | zero => simpa using e
          | succ j => simpa using h3 j (by omega)
theorem atI_nonneg {xs : List Int} {x : Int} : 0 ≤ atI xs x ↔ x ∈ xs := by
  rcases atI_cases xs x with ⟨h1, h2⟩ | ⟨i, h1, h2, h3⟩
  · rw [h2]; exact ⟨fun h => by omega, fun h => absurd h h1⟩
  · rw [h1]; exact ⟨fun _ => List.mem_of_getElem? h2, fun _ => by omega⟩
theorem atI_neg {xs : List Int} {x : Int} : atI xs x < 0 ↔ x ∉ xs := by
  rw [← atI_nonneg]; omega
theorem atI_lt (xs : List Int) (x : Int) : atI xs x < xs.length ∧ -1 ≤ atI xs x := by
  rcases atI_cases xs x with ⟨h1, h2⟩ | ⟨i, h1, h2, h3⟩
  · rw [h2]; omega
  · have := (List.getElem?_eq_some_iff.1 h2).1
    omega
theorem atI_app {xs ys : List Int} {x : Int} (h : x ∉ xs) (hx : x ∈ ys) : atI (xs ++ ys) x = xs.length + atI ys x := by
  induction xs with
  | nil => simp
  | cons y xs ih =>
    simp only [List.mem_cons, not_or] at h
    have := atI_nonneg.2 hx
    simp only [List.cons_append, atI, if_neg (fun e => h.1 (Eq.symm e)), ih h.2]
    rw [if_neg (by omega)]
    simp only [List.length_cons]; omega
theorem rd_get {xs : List Int} {i : Nat} {x : Int} (h : xs[i]? = some x) : rd xs i = x := by
  unfold rd
  rw [Int.toNat_natCast, List.getD_eq_getElem?_getD, h]; rfl
theorem atI_at {xs : List Int} (hd : xs.Nodup) {i : Nat} (hi : i < xs.length) : atI xs (rd xs i) = i := by
  have hx : xs[i]? = some (rd xs i) := by rw [List.getElem?_eq_getElem hi, rd_get (List.getElem?_eq_getElem hi)]
  rcases atI_cases xs (rd xs i) with ⟨h1, h2⟩ | ⟨j, h1, h2, h3⟩
  · exact absurd (List.mem_of_getElem? hx) h1
  · rw [h1]
    rcases Nat.lt_trichotomy i j with h | h | h
    · exact absurd hx (h3 i h)
    · rw [h]
    · exact absurd (h2.trans hx.symm) (by
        have hj : j < xs.length := by omega
        rw [List.getElem?_eq_getElem hj, List.getElem?_eq_getElem hi]
        intro e
        have := (List.getElem_inj hd).1 (Option.some.inj e)
        omega)

theorem at_aux (x : Int) (xs : List Int) (hb : xs.length < 1000000000) : ∀ (d : Nat) (pre ys : List Int), xs = pre ++ ys → ys.length = d → x ∉ pre → Ev (fun k => bournelaw11_at.l0 k xs x (pre.length : Int)) (atI xs x) := by
  intro d
  induction d with
  | zero =>
    intro pre ys h hd hx
    obtain rfl := List.eq_nil_of_length_eq_zero hd
    rw [List.append_nil] at h
    subst h
    refine Ev.step (fun k => ?_) (Ev.now _)
    simp only [bournelaw11_at.l0]
    rw [if_neg (by omega)]
    rcases atI_cases xs x with ⟨h1, h2⟩ | ⟨i, h1, h2, h3⟩
    · rw [h2]
    · exact absurd (List.mem_of_getElem? h2) hx
  | succ d ih =>
    intro pre ys h hd hx
    match ys, hd with
    | y :: ys, hd =>
      have hl : xs.length = pre.length + (ys.length + 1) := by rw [h]; simp
      have hr : rd xs (pre.length : Int) = y := by rw [h]; exact rd_mid _ _ _
      by_cases e : y = x
      · subst e
        refine Ev.step (fun k => ?_) (Ev.now _)
        simp only [bournelaw11_at.l0]
        rw [if_pos (by omega), if_pos (by omega), hr, if_pos rfl, h, atI_app hx (by simp)]
        simp [atI]
      · have := ih (pre ++ [y]) ys (by rw [h]; simp) (by simpa using hd) (by simp only [List.mem_append, List.mem_singleton, not_or]; exact ⟨hx, fun h => e h.symm⟩)
        refine Ev.step (fun k => ?_) this
        simp only [bournelaw11_at.l0]
        rw [if_pos (by omega), if_pos (by omega), hr, if_neg e, wrap_le (by omega) (by omega)]
        simp
theorem at_run (xs : List Int) (x : Int) (hb : xs.length < 1000000000) : Ev (fun k => bournelaw11_at.f k xs x) (atI xs x) := by
  exact at_aux x xs hb _ [] xs rfl rfl (by simp)

theorem index_aux (x : Int) (xs : List Int) (hb : xs.length < 1000000000) : ∀ (d : Nat) (pre ys : List Int), xs = pre ++ ys → ys.length = d → x ∉ pre → Ev (fun k => slices_Index_int_int.l0 k xs x (xs.length : Int) (pre.length : Int)) (atI xs x) := by
  intro d
  induction d with
  | zero =>
    intro pre ys h hd hx
    obtain rfl := List.eq_nil_of_length_eq_zero hd
    rw [List.append_nil] at h
    subst h
    refine Ev.step (fun k => ?_) (Ev.now _)
    simp only [slices_Index_int_int.l0]
    rw [if_neg (by omega)]
    rcases atI_cases xs x with ⟨h1, h2⟩ | ⟨i, h1, h2, h3⟩
    · rw [h2]
    · exact absurd (List.mem_of_getElem? h2) hx
  | succ d ih =>
    intro pre ys h hd hx
    match ys, hd with
    | y :: ys, hd =>
      have hl : xs.length = pre.length + (ys.length + 1) := by rw [h]; simp
      have hr : rd xs (pre.length : Int) = y := by rw [h]; exact rd_mid _ _ _
      by_cases e : x = y
      · subst e
        refine Ev.step (fun k => ?_) (Ev.now _)
        simp only [slices_Index_int_int.l0]
        rw [if_pos (by omega), if_pos (by omega), if_pos (by omega), hr, if_pos rfl, h, atI_app hx (by simp)]
        simp [atI]
      · have := ih (pre ++ [y]) ys (by rw [h]; simp) (by simpa using hd) (by simp only [List.mem_append, List.mem_singleton, not_or]; exact ⟨hx, e⟩)
        refine Ev.step (fun k => ?_) this
        simp only [slices_Index_int_int.l0]
        rw [if_pos (by omega), if_pos (by omega), if_pos (by omega), hr, if_neg e, wrap_le (by omega) (by omega)]
        simp
theorem index_run (xs : List Int) (x : Int) (hb : xs.length < 1000000000) : Ev (fun k => slices_Index_int_int.f k xs x) (atI xs x) := by
  exact index_aux x xs hb _ [] xs rfl rfl (by simp)

theorem same_aux (xs : List Int) (hb : xs.length < 1000000000) : ∀ (d i : Nat), i + d = xs.length → Ev (fun k => bourneref11_Same.l0 k xs xs (i : Int)) true := by
  intro d
  induction d with
  | zero =>
    intro i hi
    refine Ev.step (fun k => ?_) (Ev.now _)
    simp only [bourneref11_Same.l0]
    rw [if_neg (by omega)]
  | succ d ih =>
    intro i hi
    refine Ev.step (fun k => ?_) (ih (i + 1) (by omega))
    simp only [bourneref11_Same.l0]
    rw [if_pos (by omega), if_pos (by omega), if_pos (by omega), wrap_le (by omega) (by omega)]
    rfl
/-- A list is the same as itself. -/
theorem same_run (xs : List Int) (hb : xs.length < 1000000000) : Ev (fun k => bourneref11_Same.f k xs xs) true := by
  refine Ev.congr (fun k => ?_) (same_aux xs hb xs.length 0 (by omega))
  unfold bourneref11_Same.f
  rw [if_pos rfl]; rfl

theorem rd_T31_mid (pre rest : List S31) (x : S31) : rd_T31 (pre ++ x :: rest) (pre.length : Int) = x := by
  unfold rd_T31
  rw [Int.toNat_natCast, List.getD_eq_getElem?_getD, List.getElem?_append_right (Nat.le_refl _)]
  simp

def hasB (l : List S31) (a b : Int) : Bool := l.any fun x => decide (x.f0 = a) && decide (x.f1 = b)
theorem has_aux (l : List S31) (a b : Int) (hb : l.length < 1000000000) : ∀ (d : Nat) (pre ys : List S31), l = pre ++ ys → ys.length = d → Ev (fun k => bourneref11_Has.l0 k l a b (pre.length : Int)) (hasB ys a b) := by
  intro d
  induction d with
  | zero =>
    intro pre ys h hd
    obtain rfl := List.eq_nil_of_length_eq_zero hd
    rw [List.append_nil] at h
    subst h
    refine Ev.step (fun k => ?_) (Ev.now _)
    simp only [bourneref11_Has.l0]
    rw [if_neg (by omega)]
    rfl
  | succ d ih =>
    intro pre ys h hd
    match ys, hd with
    | y :: ys, hd =>
      have hl : l.length = pre.length + (ys.length + 1) := by rw [h]; simp
      have hr : rd_T31 l (pre.length : Int) = y := by rw [h]; exact rd_T31_mid _ _ _
      have e0 : hasB (y :: ys) a b = ((decide (y.f0 = a) && decide (y.f1 = b)) || hasB ys a b) := rfl
      by_cases h1 : y.f0 = a ∧ y.f1 = b
      · refine Ev.step (fun k => ?_) (Ev.now _)
        simp only [bourneref11_Has.l0]
        rw [if_pos (by omega), if_pos (by omega), hr, if_pos h1.1, if_pos h1.2, e0]
        simp [h1]
      · have := ih (pre ++ [y]) ys (by rw [h]; simp) (by simpa using hd)
        have e1 : hasB (y :: ys) a b = hasB ys a b := by
          rw [e0]
          have : (decide (y.f0 = a) && decide (y.f1 = b)) = false := by rw [← Bool.not_eq_true]; simpa using h1
          rw [this, Bool.false_or]
        rw [e1]
        refine Ev.step (fun k => ?_) this
        simp only [bourneref11_Has.l0]
        rw [if_pos (by omega), if_pos (by omega), hr, wrap_le (by omega) (by omega)]
        by_cases h2 : y.f0 = a
        · rw [if_pos h2, if_neg (fun h3 => h1 ⟨h2, h3⟩)]; simp
        · rw [if_neg h2]; simp
theorem has_run (l : List S31) (a b : Int) (hb : l.length < 1000000000) : Ev (fun k => bourneref11_Has.f k l a b) (hasB l a b) := has_aux l a b hb _ [] l rfl rfl

def turnedL (l : List S31) : List S31 := l.map fun x => ⟨x.f1, x.f0⟩
theorem turned_aux (l : List S31) (hb : l.length < 1000000000) : ∀ (d : Nat) (pre ys : List S31), l = pre ++ ys → ys.length = d → Ev (fun k => graph_turned.l0 k (turnedL pre) l (l.length : Int) (pre.length : Int)) (turnedL l) := by
  intro d
  induction d with
  | zero =>
    intro pre ys h hd
    obtain rfl := List.eq_nil_of_length_eq_zero hd
    rw [List.append_nil] at h
    subst h
    refine Ev.step (fun k => ?_) (Ev.now _)
    simp only [graph_turned.l0]
    rw [if_neg (by omega)]
  | succ d ih =>
    intro pre ys h hd
    match ys, hd with
    | y :: ys, hd =>
      have hl : l.length = pre.length + (ys.length + 1) := by rw [h]; simp
      have hr : rd_T31 l (pre.length : Int) = y := by rw [h]; exact rd_T31_mid _ _ _
      have := ih (pre ++ [y]) ys (by rw [h]; simp) (by simpa using hd)
      refine Ev.step (fun k => ?_) this
      simp only [graph_turned.l0]
      rw [if_pos (by omega), if_pos (by omega), if_pos (by omega), hr, wrap_le (by omega) (by omega), if_pos (by simp [turnedL]; omega)]
      simp [turnedL]
theorem turned_run (l : List S31) (hb : l.length < 1000000000) : Ev (fun k => graph_turned.f k l) (turnedL l) := turned_aux l hb _ [] l rfl rfl
theorem arcB_turned (l : List S31) : arcB (turnedL l) = flip (arcB l) := by
  funext v w
  show (turnedL l).any _ = l.any _
  unfold turnedL
  rw [List.any_map]
  congr 1
  funext x
  simp only [Function.comp, Bool.and_comm]
theorem right_turned (n : Int) (l : List S31) : graph_Right.f n (turnedL l) = graph_Right.f n l := by
  unfold graph_Right.f turnedL
  rw [List.length_map, List.all_map]
  congr 2
  congr 1
  funext x
  simp only [Function.comp, arcIn, Bool.and_comm]
theorem arcs_in {n : Nat} {l : List S31} (h : graph_Right.f n l = some true) : ∀ v w, arcB l v w = true → v < n ∧ w < n := by
  obtain ⟨h0, h1, h2, h3⟩ := right_of h
  intro v w he
  unfold arcB at he
  simp only [List.any_eq_true, Bool.and_eq_true, decide_eq_true_eq] at he
  obtain ⟨a, ha, e1, e2⟩ := he
  have := h3 a ha
  omega
theorem hasB_arcB (l : List S31) (a b : Nat) : hasB l a b = arcB l a b := rfl
theorem links_rows {n : Nat} {l : List S31} (h : graph_Right.f n l = some true) : graph_links.f n l = some (rows n (arcB l)) := by
  rw [links_eq h, Int.toNat_natCast]; rfl
theorem links_rows_turned {n : Nat} {l : List S31} (h : graph_Right.f n l = some true) : graph_links.f n (turnedL l) = some (rows n (flip (arcB l))) := by
  rw [links_rows (by rw [right_turned]; exact h), arcB_turned]
theorem right_cases (n : Int) (l : List S31) : graph_Right.f n l = some true ∨ graph_Right.f n l = some false := by
  unfold graph_Right.f
  cases (decide (0 ≤ n) && decide (n ≤ 256) && decide (l.length ≤ 4096) && l.all (arcIn n)) <;> simp
end Go.Proofs.Ytibnodjlcaodeaa.G
