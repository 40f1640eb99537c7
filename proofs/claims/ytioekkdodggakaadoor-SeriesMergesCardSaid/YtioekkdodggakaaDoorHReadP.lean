import Derived.Test.YtioekkdodggakaaDoorHRight
import Derived.Test.YtioekkdodggakaaDoorHVoids
import Derived.Test.YtioekkdodggakaaDoorHExact
import Derived.Maps.AppendAt
/-
  What series.Readings computes, as lists; its map of spans.
-/
namespace Go.Proofs.YtioekkdodggakaaDoor.G
open Go.RowKit Go.Proofs.YtioekkdodggakaaDoorW.PrintWords Go.Proofs.YtioekkdodggakaaDoorW.PrintLast Go.Proofs.YtioekkdodggakaaDoorW.PrintMore
set_option linter.unusedVariables false
set_option linter.unusedSimpArgs false
def encS (x : S47) : List Value := [.int .i64 x.f0, .int .i64 x.f1]
def encR (x : S49) : List Value := [.int .i64 x.f0, .int .i64 x.f1, .int .i64 x.f2.f0, .int .i64 x.f2.f1]
theorem encS_len (x : S47) : (encS x).length = 2 := rfl
theorem encR_len (x : S49) : (encR x).length = 4 := rfl
theorem encS_one (x : S47) : ∀ v ∈ encS x, v.oneCell' = true := by
  intro v hv
  simp only [encS, List.mem_cons, List.not_mem_nil, or_false] at hv
  rcases hv with rfl | rfl <;> rfl
theorem encR_one (x : S49) : ∀ v ∈ encR x, v.oneCell' = true := by
  intro v hv
  simp only [encR, List.mem_cons, List.not_mem_nil, or_false] at hv
  rcases hv with rfl | rfl | rfl | rfl <;> rfl
instance : Inhabited S47 := ⟨z47⟩
instance : Inhabited S49 := ⟨z49⟩
/-- The gauge of a telegram. -/
def gaugeOf (gs : List S63) (x : S29) : S63 := rd_T63 gs x.f0
def lowH (gs : List S63) (x : S29) : Int := hourI (satI (x.f2 - (gaugeOf gs x).f4))
def highH (gs : List S63) (x : S29) : Int := hourI (satI (x.f2 + (gaugeOf gs x).f4))
def spanG (gs : List S63) (x : S29) : S47 := ⟨satI (x.f3 - (gaugeOf gs x).f3), satI (x.f3 + (gaugeOf gs x).f3)⟩
def okB (gs : List S63) (l : List S29) (a b : Int) (x : S29) : Bool := rightB gs.length x && (!decide (voidP l x.f0) && (decide (0 ≤ (gaugeOf gs x).f4) && (decide (lowH gs x = highH gs x) && (decide (a ≤ lowH gs x) && decide (lowH gs x < b)))))
/-- What is said about an hour of a gauge. -/
def spansOf (gs : List S63) (ok : S29 → Bool) (p : List S29) (h g : Int) : List S47 := (p.filter fun x => ok x && decide (lowH gs x = h ∧ x.f0 = g)).map (spanG gs)
theorem spans_skip {gs : List S63} {ok : S29 → Bool} {p : List S29} {x : S29} (hx : ok x = false) (h g : Int) : spansOf gs ok (p ++ [x]) h g = spansOf gs ok p h g := by
  unfold spansOf
  rw [List.filter_append]
  simp [hx]
theorem spans_take {gs : List S63} {ok : S29 → Bool} {p : List S29} {x : S29} (hx : ok x = true) : spansOf gs ok (p ++ [x]) (lowH gs x) x.f0 = spansOf gs ok p (lowH gs x) x.f0 ++ [spanG gs x] := by
  unfold spansOf
  rw [List.filter_append]
  simp [hx]
theorem spans_other {gs : List S63} {ok : S29 → Bool} {p : List S29} {x : S29} {h g : Int} (hn : ¬ (lowH gs x = h ∧ x.f0 = g)) : spansOf gs ok (p ++ [x]) h g = spansOf gs ok p h g := by
  unfold spansOf
  rw [List.filter_append]
  simp [hn]
theorem spans_len (gs : List S63) (ok : S29 → Bool) (p : List S29) (h g : Int) : (spansOf gs ok p h g).length ≤ p.length := by
  unfold spansOf
  rw [List.length_map]
  exact List.length_filter_le _ _
/-- The map of spans. -/
structure ValI (gs : List S63) (ok : S29 → Bool) (p : List S29) (base : Nat) (W : World) (M : Value → Value → Prop) : Prop where
  key : ∀ key v, M key v → ∃ h g, IsI h ∧ IsI g ∧ key = k2 h g ∧ spansOf gs ok p h g ≠ [] ∧ Row encS 47 2 W base v (spansOf gs ok p h g)
  all : ∀ h g, spansOf gs ok p h g ≠ [] → ∃ v, M (k2 h g) v
  apart : ∀ key v key' v', M key v → M key' v' → key ≠ key' → v.ownBlock ≠ v'.ownBlock
theorem ValI.start (gs : List S63) (ok : S29 → Bool) (base : Nat) (W : World) : ValI gs ok [] base W (fun _ _ => False) :=
  ⟨fun _ _ h => h.elim, fun h g hn => absurd rfl hn, fun _ _ _ _ h => h.elim⟩
section
variable {gs : List S63} {ok : S29 → Bool} {p : List S29} {base : Nat} {W W1 : World} {M : Value → Value → Prop}
theorem Row.some_block {α : Type} {enc : α → List Value} {e k : Nat} {v : Value} {l : List α} (h : Row enc e k W base v l) (hne : l ≠ []) : ∃ j, v.ownBlock = some j ∧ j < W.heap.size ∧ base ≤ j := by
  rcases h.2 with ⟨_, h0⟩ | ⟨g, cap, cur, rfl, hg, hb, _⟩
  · exact absurd (List.eq_nil_of_length_eq_zero h0) hne
  · exact ⟨g, rfl, (Array.getElem?_eq_some_iff.1 hb).1, hg⟩
theorem Row.ne_obj {α : Type} {enc : α → List Value} {e k : Nat} {v : Value} {l : List α} (h : Row enc e k W base v l) {j : Nat} {o : Obj} (ho : W.heap[j]? = some o) (hn : ∀ cells t ro, o ≠ .cells cells t ro) : v.ownBlock ≠ some j := by
  intro hv
  obtain ⟨cells, hc⟩ := own_typed h j hv
  rw [hc] at ho
  exact hn _ _ _ (Option.some.inj ho).symm
theorem ValI.other (h : ValI gs ok p base W M) {row : Option Nat} (hg : W.grownBy W1 row) (hne : ∀ key v, M key v → v.ownBlock ≠ row) : ValI gs ok p base W1 M :=
  ⟨fun key v hm => by
    obtain ⟨a, b, h1, h2, h3, h4, h5⟩ := h.key key v hm
    exact ⟨a, b, h1, h2, h3, h4, h5.other hg (.inr (hne key v hm))⟩, h.all, h.apart⟩
theorem ValI.below (h : ValI gs ok p base W M) (hb : Below W.heap.size W W1) : ValI gs ok p base W1 M :=
  ⟨fun key v hm => by
    obtain ⟨a, b, h1, h2, h3, h4, h5⟩ := h.key key v hm
    exact ⟨a, b, h1, h2, h3, h4, h5.below hb⟩, h.all, h.apart⟩
theorem ValI.obj (h : ValI gs ok p base W M) {j : Nat} {o : Obj} (ho : W.heap[j]? = some o) (hn : ∀ cells t ro, o ≠ .cells cells t ro) (hg : W.grownBy W1 (some j)) : ValI gs ok p base W1 M :=
  h.other hg (fun key v hm => by
    obtain ⟨a, b, _, _, _, _, h5⟩ := h.key key v hm
    exact h5.ne_obj ho hn)
theorem ValI.skip (h : ValI gs ok p base W M) {x : S29} (hx : ok x = false) : ValI gs ok (p ++ [x]) base W M :=
  ⟨fun key v hm => by
    obtain ⟨a, b, h1, h2, h3, h4, h5⟩ := h.key key v hm
    exact ⟨a, b, h1, h2, h3, by rw [spans_skip hx]; exact h4, by rw [spans_skip hx]; exact h5⟩, fun a b hn => h.all a b (by rw [spans_skip hx] at hn; exact hn), h.apart⟩
/-- 'values[k] = append(values[k], span)': the map's old row v0 (none: nil) becomes v1. -/
theorem ValI.add (h : ValI gs ok p base W M) {x : S29} (hx : ok x = true) (hlo : IsI (lowH gs x)) (hg0 : IsI x.f0) {v0 v1 : Value} (h0 : M (k2 (lowH gs x) x.f0) v0 ∨ (∀ v, ¬ M (k2 (lowH gs x) x.f0) v) ∧ v0 = .slice none 0 0)
    (hg : W.grownBy W1 v0.ownBlock) (hr : Row encS 47 2 W1 base v1 (spansOf gs ok p (lowH gs x) x.f0 ++ [spanG gs x])) (hat : v1.ownBlock = v0.ownBlock ∨ ∃ b, v1.ownBlock = some b ∧ W.heap.size ≤ b) :
    ValI gs ok (p ++ [x]) base W1 (setM M (k2 (lowH gs x) x.f0) v1) := by
  have hne0 : ∀ key v, key ≠ k2 (lowH gs x) x.f0 → M key v → v.ownBlock ≠ v0.ownBlock := by
    intro key v hk hm
    rcases h0 with h0 | ⟨_, rfl⟩
    · exact h.apart _ _ _ _ hm h0 hk
    · obtain ⟨a, b, _, _, _, h4, h5⟩ := h.key key v hm
      obtain ⟨j, hj, _⟩ := h5.some_block h4
      rw [hj]
      intro e; cases e
  have hne1 : ∀ key v, key ≠ k2 (lowH gs x) x.f0 → M key v → v.ownBlock ≠ v1.ownBlock := by
    intro key v hk hm
    rcases hat with hat | ⟨b', hb', hle⟩
    · rw [hat]; exact hne0 key v hk hm
    · obtain ⟨a, b, _, _, _, h4, h5⟩ := h.key key v hm
      obtain ⟨j, hj, hlt, _⟩ := h5.some_block h4
      rw [hj, hb']
      intro e; injection e with e; omega
  refine ⟨?_, ?_, ?_⟩
  · rintro key v (⟨rfl, rfl⟩ | ⟨hk, hm⟩)
    · exact ⟨lowH gs x, x.f0, hlo, hg0, rfl, by rw [spans_take hx]; simp, by rw [spans_take hx]; exact hr⟩
    · obtain ⟨a, b, h1, h2, rfl, h4, h5⟩ := h.key key v hm
      have hn : ¬ (lowH gs x = a ∧ x.f0 = b) := by rintro ⟨rfl, rfl⟩; exact hk rfl
      exact ⟨a, b, h1, h2, rfl, by rw [spans_other hn]; exact h4, by rw [spans_other hn]; exact h5.other hg (.inr (hne0 _ _ hk hm))⟩
  · intro a b hn
    by_cases e : lowH gs x = a ∧ x.f0 = b
    · obtain ⟨rfl, rfl⟩ := e
      exact ⟨v1, .inl ⟨rfl, rfl⟩⟩
    · rw [spans_other e] at hn
      obtain ⟨v, hv⟩ := h.all a b hn
      refine ⟨v, .inr ⟨fun he => ?_, hv⟩⟩
      obtain ⟨e1, e2⟩ := k2_inj he
      exact e ⟨e1.symm, e2.symm⟩
  · rintro key v key' v' (⟨rfl, rfl⟩ | ⟨hk, hm⟩) (⟨rfl, rfl⟩ | ⟨hk', hm'⟩) hne
    · exact absurd rfl hne
    · exact (hne1 _ _ hk' hm').symm
    · exact hne1 _ _ hk hm
    · exact h.apart _ _ _ _ hm hm' hne
end
/-! the meeting of spans -/
def meetS (s : S47 × Bool) (v : S47) : S47 × Bool := if s.2 = true then (if mx s.1.f0 v.f0 ≤ mn s.1.f1 v.f1 then (⟨mx s.1.f0 v.f0, mn s.1.f1 v.f1⟩, true) else (⟨0, 0⟩, false)) else s
def meetL : List S47 → S47 × Bool
  | [] => (⟨0, 0⟩, false)
  | a :: r => r.foldl meetS (a, decide (a.f0 ≤ a.f1))
/-- The reading of a key. -/
def readOf (gs : List S63) (ok : S29 → Bool) (l : List S29) (k : Int × Int) : Option S49 := if (meetL (spansOf gs ok l k.1 k.2)).2 = true then some ⟨k.2, k.1, (meetL (spansOf gs ok l k.1 k.2)).1⟩ else none
theorem mx_le {a b c : Int} : mx a b ≤ c ↔ a ≤ c ∧ b ≤ c := by unfold mx; split <;> omega
theorem le_mn {a b c : Int} : c ≤ mn a b ↔ c ≤ a ∧ c ≤ b := by unfold mn; split <;> omega
theorem mx_or (a b : Int) : mx a b = a ∨ mx a b = b := by unfold mx; split <;> simp
theorem mn_or (a b : Int) : mn a b = a ∨ mn a b = b := by unfold mn; split <;> simp
/-- s holds the meeting of what S says. -/
def IsMeet (S : S47 → Prop) (s : S47) : Prop := (∃ v, S v ∧ v.f0 = s.f0) ∧ (∃ v, S v ∧ v.f1 = s.f1) ∧ ∀ v, S v → v.f0 ≤ s.f0 ∧ s.f1 ≤ v.f1
theorem IsMeet.unique {S S' : S47 → Prop} {s s' : S47} (h : IsMeet S s) (h' : IsMeet S' s') (e : ∀ v, S v ↔ S' v) : s = s' := by
  obtain ⟨⟨a, ha, ha0⟩, ⟨b, hb, hb1⟩, hc⟩ := h
  obtain ⟨⟨a', ha', ha0'⟩, ⟨b', hb', hb1'⟩, hc'⟩ := h'
  have h1 := hc a' ((e _).2 ha')
  have h2 := hc b' ((e _).2 hb')
  have h3 := hc' a ((e _).1 ha)
  have h4 := hc' b ((e _).1 hb)
  cases s; cases s'
  simp only at *
  congr 1 <;> omega
theorem foldMeet (r : List S47) : ∀ (q : List S47) (s : S47), IsMeet (· ∈ q) s → s.f0 ≤ s.f1 → (((r.foldl meetS (s, true)).2 = true → IsMeet (· ∈ q ++ r) (r.foldl meetS (s, true)).1 ∧ (r.foldl meetS (s, true)).1.f0 ≤ (r.foldl meetS (s, true)).1.f1) ∧ ((r.foldl meetS (s, true)).2 = false → ∀ t, IsMeet (· ∈ q ++ r) t → t.f1 < t.f0)) := by
  induction r with
  | nil =>
    intro q s hs hle
    rw [List.append_nil]
    exact ⟨fun _ => ⟨hs, hle⟩, fun h => by cases h⟩
  | cons v r ih =>
    intro q s hs hle
    have hq : ∀ u, u ∈ q ++ v :: r ↔ u ∈ (q ++ [v]) ++ r := fun u => by simp
    have hm : IsMeet (· ∈ q ++ [v]) ⟨mx s.f0 v.f0, mn s.f1 v.f1⟩ := by
      obtain ⟨⟨a, ha, ha0⟩, ⟨b, hb, hb1⟩, hc⟩ := hs
      refine ⟨?_, ?_, ?_⟩
      · rcases mx_or s.f0 v.f0 with e | e
        · exact ⟨a, by simp [ha], by rw [ha0]; exact e.symm⟩
        · exact ⟨v, by simp, e.symm⟩
      · rcases mn_or s.f1 v.f1 with e | e
        · exact ⟨b, by simp [hb], by rw [hb1]; exact e.symm⟩
        · exact ⟨v, by simp, e.symm⟩
      · intro u hu
        have h1 := (mx_le (a := s.f0) (b := v.f0) (c := mx s.f0 v.f0)).1 (Int.le_refl _)
        have h2 := (le_mn (a := s.f1) (b := v.f1) (c := mn s.f1 v.f1)).1 (Int.le_refl _)
        rw [List.mem_append, List.mem_singleton] at hu
        simp only
        rcases hu with hu | rfl
        · have := hc u hu; omega
        · omega
    rw [List.foldl_cons]
    by_cases hv : mx s.f0 v.f0 ≤ mn s.f1 v.f1
    · have e : meetS (s, true) v = (⟨mx s.f0 v.f0, mn s.f1 v.f1⟩, true) := by unfold meetS; rw [if_pos rfl, if_pos hv]
      rw [e]
      have h3 := ih (q ++ [v]) _ hm hv
      have e2 : ∀ t, IsMeet (· ∈ q ++ v :: r) t ↔ IsMeet (· ∈ (q ++ [v]) ++ r) t := fun t => by rw [show q ++ v :: r = (q ++ [v]) ++ r by simp]
      exact ⟨fun h => ⟨(e2 _).2 (h3.1 h).1, (h3.1 h).2⟩, fun h t ht => h3.2 h t ((e2 t).1 ht)⟩
    · have e : meetS (s, true) v = (⟨0, 0⟩, false) := by unfold meetS; rw [if_pos rfl, if_neg hv]
      rw [e]
      have hf : ∀ r : List S47, r.foldl meetS (⟨0, 0⟩, false) = (⟨0, 0⟩, false) := by
        intro r
        induction r with
        | nil => rfl
        | cons u r ih => rw [List.foldl_cons]; exact ih
      rw [hf]
      refine ⟨(fun h => by cases h), fun _ t ht => ?_⟩
      obtain ⟨⟨a, ha, ha0⟩, ⟨b, hb, hb1⟩, hc⟩ := hm
      have h5 := ht.2.2 a ((hq a).2 (List.mem_append_left _ ha))
      have h6 := ht.2.2 b ((hq b).2 (List.mem_append_left _ hb))
      simp only at ha0 hb1
      omega
theorem meetL_spec (q : List S47) (hne : q ≠ []) : ((meetL q).2 = true → IsMeet (· ∈ q) (meetL q).1 ∧ (meetL q).1.f0 ≤ (meetL q).1.f1) ∧ ((meetL q).2 = false → ∀ t, IsMeet (· ∈ q) t → t.f1 < t.f0) := by
  cases q with
  | nil => exact absurd rfl hne
  | cons a r =>
    have h1 : IsMeet (· ∈ [a]) a := ⟨⟨a, by simp, rfl⟩, ⟨a, by simp, rfl⟩, fun v hv => by obtain rfl := List.mem_singleton.1 hv; exact ⟨Int.le_refl _, Int.le_refl _⟩⟩
    show ((r.foldl meetS (a, decide (a.f0 ≤ a.f1))).2 = true → IsMeet (· ∈ a :: r) (r.foldl meetS (a, decide (a.f0 ≤ a.f1))).1 ∧ (r.foldl meetS (a, decide (a.f0 ≤ a.f1))).1.f0 ≤ (r.foldl meetS (a, decide (a.f0 ≤ a.f1))).1.f1) ∧ ((r.foldl meetS (a, decide (a.f0 ≤ a.f1))).2 = false → ∀ t, IsMeet (· ∈ a :: r) t → t.f1 < t.f0)
    by_cases ha : a.f0 ≤ a.f1
    · rw [decide_eq_true ha]
      exact foldMeet r [a] a h1 ha
    · rw [decide_eq_false ha]
      have hf : ∀ r : List S47, r.foldl meetS (a, false) = (a, false) := by
        intro r
        induction r with
        | nil => rfl
        | cons u r ih => rw [List.foldl_cons]; exact ih
      rw [hf]
      refine ⟨(fun h => by cases h), fun _ t ht => ?_⟩
      have := ht.2.2 a (by simp)
      omega
/-- R is the reading of its hour and gauge. -/
def IsRead (gs : List S63) (ok : S29 → Bool) (l : List S29) (R : S49) : Prop := IsMeet (fun v => ∃ x ∈ l, ok x = true ∧ lowH gs x = R.f1 ∧ x.f0 = R.f0 ∧ v = spanG gs x) R.f2 ∧ R.f2.f0 ≤ R.f2.f1
theorem mem_spans {gs : List S63} {ok : S29 → Bool} {l : List S29} {h g : Int} (v : S47) : v ∈ spansOf gs ok l h g ↔ ∃ x ∈ l, ok x = true ∧ lowH gs x = h ∧ x.f0 = g ∧ v = spanG gs x := by
  unfold spansOf
  rw [List.mem_map]
  constructor
  · rintro ⟨x, hx, rfl⟩
    rw [List.mem_filter] at hx
    obtain ⟨h1, h2⟩ := hx
    rw [Bool.and_eq_true, decide_eq_true_eq] at h2
    exact ⟨x, h1, h2.1, h2.2.1, h2.2.2, rfl⟩
  · rintro ⟨x, hx, h1, h2, h3, rfl⟩
    exact ⟨x, List.mem_filter.2 ⟨hx, by rw [Bool.and_eq_true, decide_eq_true_eq]; exact ⟨h1, h2, h3⟩⟩, rfl⟩
theorem isMeet_congr {S S' : S47 → Prop} (e : ∀ v, S v ↔ S' v) (s : S47) : IsMeet S s ↔ IsMeet S' s := by
  have : S = S' := funext fun v => propext (e v)
  rw [this]
theorem readOf_iff {gs : List S63} {ok : S29 → Bool} {l : List S29} (R : S49) : (spansOf gs ok l R.f1 R.f0 ≠ [] ∧ readOf gs ok l (R.f1, R.f0) = some R) ↔ IsRead gs ok l R := by
  have hc : ∀ s, IsMeet (· ∈ spansOf gs ok l R.f1 R.f0) s ↔ IsMeet (fun v => ∃ x ∈ l, ok x = true ∧ lowH gs x = R.f1 ∧ x.f0 = R.f0 ∧ v = spanG gs x) s := isMeet_congr mem_spans
  unfold IsRead
  rw [← hc]
  constructor
  · rintro ⟨hne, hr⟩
    have hs := meetL_spec _ hne
    unfold readOf at hr
    simp only at hr
    split at hr
    · rename_i ht
      obtain ⟨h1, h2⟩ := hs.1 ht
      have e := Option.some.inj hr
      have e2 : (meetL (spansOf gs ok l R.f1 R.f0)).1 = R.f2 := by rw [← e]
      rw [e2] at h1 h2
      exact ⟨h1, h2⟩
    · cases hr
  · rintro ⟨h1, h2⟩
    have hne : spansOf gs ok l R.f1 R.f0 ≠ [] := by
      obtain ⟨⟨v, hv, _⟩, _⟩ := h1
      exact List.ne_nil_of_mem hv
    refine ⟨hne, ?_⟩
    have hs := meetL_spec _ hne
    cases hb : (meetL (spansOf gs ok l R.f1 R.f0)).2 with
    | false => exact absurd (hs.2 hb _ h1) (by omega)
    | true =>
      obtain ⟨h3, _⟩ := hs.1 hb
      have e := IsMeet.unique h3 h1 (fun _ => Iff.rfl)
      unfold readOf
      simp only
      rw [if_pos hb, e]
end Go.Proofs.YtioekkdodggakaaDoor.G
