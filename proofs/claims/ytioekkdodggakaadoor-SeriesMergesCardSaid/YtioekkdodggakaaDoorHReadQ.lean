import Derived.Test.YtioekkdodggakaaDoorHRead0
import Derived.Test.YtioekkdodggakaaDoorK28
import Derived.Test.YtioekkdodggakaaDoorK29
/-
  series.Readings' second loop, plainly.
-/
namespace Go.Proofs.YtioekkdodggakaaDoor.G
open Go.RowKit Go.Proofs.YtioekkdodggakaaDoorW.PrintWords Go.Proofs.YtioekkdodggakaaDoorW.PrintLast Go.Proofs.YtioekkdodggakaaDoorW.PrintMore
set_option linter.unusedVariables false
set_option linter.unusedSimpArgs false
theorem sameKey_l2 {a b c d : Int} (ha : IsI a) (hb : IsI b) (hc : IsI c) (hd : IsI d) : (l2 a b).sameKey (l2 c d) = decide ((a, b) = (c, d)) := by
  by_cases h : (a, b) = (c, d)
  · rw [decide_eq_true h]
    injection h with h1 h2
    subst h1 h2
    exact WideAt.sameKey_self (law94.key (keyOf94 ha hb))
  · rw [decide_eq_false h]
    exact Maps.sameKey_ne (fun e => by
      obtain ⟨h1, h2⟩ := l2_inj ha hb hc hd e
      exact h (by rw [h1, h2]))
/-- The keys that have been visited. -/
def Seen (gs : List S63) (ok : S29 → Bool) (l : List S29) (left : Lit → Bool) (L : List (Int × Int)) : Prop := L.Nodup ∧ (∀ p ∈ L, IsI p.1 ∧ IsI p.2) ∧ ∀ h g, IsI h → IsI g → ((h, g) ∈ L ↔ left (l2 h g) = false ∧ spansOf gs ok l h g ≠ [])
section
variable {gs : List S63} {ok : S29 → Bool} {l : List S29} {left : Lit → Bool} {L : List (Int × Int)}
theorem Seen.step (hS : Seen gs ok l left L) {h g : Int} (hh : IsI h) (hg : IsI g) (hl : left (l2 h g) = true) (hne : spansOf gs ok l h g ≠ []) : Seen gs ok l (fun z => left z && !z.sameKey (l2 h g)) (L ++ [(h, g)]) := by
  obtain ⟨h1, h2, h3⟩ := hS
  have hnot : (h, g) ∉ L := fun hm => by have := ((h3 h g hh hg).1 hm).1; rw [hl] at this; cases this
  refine ⟨?_, ?_, ?_⟩
  · rw [List.nodup_append]
    refine ⟨h1, by simp, fun a ha b hb => ?_⟩
    rw [List.mem_singleton] at hb
    rintro rfl
    subst hb
    exact hnot ha
  · intro p hp
    rw [List.mem_append, List.mem_singleton] at hp
    rcases hp with hp | rfl
    · exact h2 p hp
    · exact ⟨hh, hg⟩
  · intro a b ha hb
    rw [List.mem_append, List.mem_singleton, h3 a b ha hb]
    simp only [sameKey_l2 ha hb hh hg]
    by_cases e : (a, b) = (h, g)
    · rw [decide_eq_true e]
      injection e with e1 e2
      subst e1 e2
      simp [hne]
    · rw [decide_eq_false e]
      simp [e]
theorem spans_isI {h g : Int} (hn : ∀ x ∈ l, IsI x.f0) (hne : spansOf gs ok l h g ≠ []) : IsI h ∧ IsI g := by
  obtain ⟨v, hv⟩ := List.exists_mem_of_ne_nil _ hne
  obtain ⟨x, hx, _, h1, h2, _⟩ := (mem_spans v).1 hv
  exact ⟨h1 ▸ lowH_isI gs x, h2 ▸ hn x hx⟩
theorem readOf_key {p : Int × Int} {R : S49} (h : readOf gs ok l p = some R) : p = (R.f1, R.f0) := by
  unfold readOf at h
  split at h
  · have e := Option.some.inj h
    rw [← e]
  · cases h
theorem seen_reads (hS : Seen gs ok l left L) (hn : ∀ x ∈ l, IsI x.f0) (hl : ∀ kl, left kl = false) (R : S49) : R ∈ L.filterMap (readOf gs ok l) ↔ IsRead gs ok l R := by
  rw [List.mem_filterMap, ← readOf_iff]
  constructor
  · rintro ⟨p, hp, hr⟩
    have e := readOf_key hr
    subst e
    obtain ⟨i1, i2⟩ := hS.2.1 _ hp
    exact ⟨((hS.2.2 _ _ i1 i2).1 hp).2, hr⟩
  · rintro ⟨hne, hr⟩
    obtain ⟨i1, i2⟩ := spans_isI hn hne
    exact ⟨_, (hS.2.2 _ _ i1 i2).2 ⟨hl _, hne⟩, hr⟩
theorem reads_nodup (hL : L.Nodup) : ((L.filterMap (readOf gs ok l)).map fun R => (R.f1, R.f0)).Nodup := by
  induction L with
  | nil => simp
  | cons p r ih =>
    rw [List.nodup_cons] at hL
    rw [List.filterMap_cons]
    cases hr : readOf gs ok l p with
    | none => exact ih hL.2
    | some R =>
      rw [List.map_cons, List.nodup_cons]
      refine ⟨fun hm => ?_, ih hL.2⟩
      obtain ⟨R', hR', e⟩ := List.mem_map.1 hm
      obtain ⟨q, hq, hq2⟩ := List.mem_filterMap.1 hR'
      have e1 := readOf_key hr
      have e2 := readOf_key hq2
      rw [e1, ← e, ← e2] at hL
      exact hL.1 hq
theorem strict_of {r outl : List S49} (hp : r.Perm outl) (hs : r.Pairwise (fun a b => ¬ cmpR b a < 0)) (hn : (outl.map fun R => (R.f1, R.f0)).Nodup) : r.Pairwise ltR := by
  have h1 : (r.map fun R => (R.f1, R.f0)).Nodup := (hp.map _).nodup_iff.2 hn
  have h2 : r.Pairwise (fun a b => (a.f1, a.f0) ≠ (b.f1, b.f0)) := by
    unfold List.Nodup at h1
    rwa [List.pairwise_map] at h1
  refine (List.Pairwise.and hs h2).imp ?_
  rintro a b ⟨h3, h4⟩
  rw [cmpR_neg] at h3
  unfold ltR at *
  by_cases e : a.f1 = b.f1
  · by_cases e2 : a.f0 = b.f0
    · exact absurd (by rw [e, e2]) h4
    · omega
  · omega
end
theorem bcell {W w1 : World} (hb : Below W.heap.size W w1) : (∀ b o, b < W.heap.size → w1.cell? ⟨b, o, none⟩ = W.cell? ⟨b, o, none⟩) ∧ (∀ b o, b < W.heap.size → w1.frozen? ⟨b, o, none⟩ = W.frozen? ⟨b, o, none⟩) :=
  ⟨fun b o h => hb.cell (p := ⟨b, o, none⟩) h, fun b o h => hb.frozen (p := ⟨b, o, none⟩) h⟩
/-- The row's head, in a world later than Wk. -/
def TwoAt (Wk : World) (g : Nat) (a : S47) (w : World) : Prop := Below Wk.heap.size Wk w ∧ w.cell? ⟨g, 0, none⟩ = some (.int .i64 a.f0) ∧ w.cell? ⟨g, 1, none⟩ = some (.int .i64 a.f1)
theorem TwoAt.of {Wk w : World} {g : Nat} {a : S47} (h : TwoAt Wk g a Wk) (hb : Below Wk.heap.size Wk w) : TwoAt Wk g a w :=
  ⟨hb, (hb.cell (World.block_lt_of_cell? Wk _ h.2.1)).trans h.2.1, (hb.cell (World.block_lt_of_cell? Wk _ h.2.2)).trans h.2.2⟩
/-- The meeting of a list's beginning. -/
theorem meetL_step (q : List S47) (j : Nat) (hj : 0 < j) (h : j < q.length) : meetL (q.take (j + 1)) = meetS (meetL (q.take j)) (q[j]) := by
  cases q with
  | nil => simp at h
  | cons a r =>
    obtain ⟨i, rfl⟩ : ∃ i, j = i + 1 := ⟨j - 1, by omega⟩
    have hi : i < r.length := by simpa using h
    show (r.take (i + 1)).foldl meetS _ = meetS ((r.take i).foldl meetS _) r[i]
    rw [List.take_succ_eq_append_getElem hi, List.foldl_append]
    rfl
theorem reads_S47 {W : World} {base g n cap : Nat} {q : List S47} (h : Row encS 47 2 W base (.slice (some ⟨g, 0, none⟩) n cap) q) (j : Nat) (hj : j < q.length) : W.cell? ⟨g, j * 2, none⟩ = some (.int .i64 q[j].f0) ∧ W.cell? ⟨g, j * 2 + 1, none⟩ = some (.int .i64 q[j].f1) := by
  obtain ⟨R, _⟩ := ST.RowAt.start encS_len h
  have hH := R.holds
  have key : ∀ i, i < 2 → W.cell? ⟨g, j * 2 + i, none⟩ = some ((encS q[j])[i]!) := by
    intro i hi
    have h1 := (hH (j * 2 + i) (by rw [Go.Sort.size_flatK]; simp; omega)).1
    rw [Nat.zero_add, Go.Sort.get_flatK _ _ _ _ (by simp; omega)] at h1
    have e1 : (j * 2 + i) / 2 = j := by omega
    have e2 : (j * 2 + i) % 2 = i := by omega
    rw [e1, e2, getElem!_pos q.toArray j (by simpa using hj)] at h1
    simpa using h1
  exact ⟨key 0 (by omega), key 1 (by omega)⟩
theorem meet_f (m : S47 × Bool) (hm : m.2 = true) (b : S47) : span_Meet.f m.1.f0 m.1.f1 b.f0 b.f1 = some ((meetS m b).1.f0, (meetS m b).1.f1, (meetS m b).2) := by
  unfold span_Meet.f span_Right.f meetS
  rw [if_pos hm]
  by_cases h : mx m.1.f0 b.f0 ≤ mn m.1.f1 b.f1
  · rw [if_pos h, decide_eq_true h]; rfl
  · rw [if_neg h, decide_eq_false h]; rfl
theorem meetL_one (q : List S47) (h : 0 < q.length) : meetL (q.take (0 + 1)) = (q[0], decide (q[0].f0 ≤ q[0].f1)) := by
  cases q with
  | nil => simp at h
  | cons a r => rfl
theorem ranges_below {k b r n cnt : Nat} {w w' : World} {D : DataW Value} {left : Lit → Bool} (h : w.ranges Tryd.prog k RH b r n D left cnt) (hb : Below w.heap.size w w') : w'.ranges Tryd.prog k RH b r n D left cnt := by
  obtain ⟨es, clock, since, seen, c0, h1, h2, h3, h4, h5, h6⟩ := h
  exact ⟨es, clock, since, seen, c0, (hb.block b (Array.getElem?_eq_some_iff.1 h1).1).trans h1, h2, h3, h4, (hb.block r (Array.getElem?_eq_some_iff.1 h5).1).trans h5, h6⟩
theorem ranges_grown {k b r n cnt : Nat} {w w' : World} {D : DataW Value} {left : Lit → Bool} (h : w.ranges Tryd.prog k RH b r n D left cnt) {row : Option Nat} (hg : w.grownBy w' row) (h1' : some b ≠ row) (h2' : some r ≠ row) : w'.ranges Tryd.prog k RH b r n D left cnt := by
  obtain ⟨es, clock, since, seen, c0, h1, h2, h3, h4, h5, h6⟩ := h
  exact ⟨es, clock, since, seen, c0, (hg.block b (Array.getElem?_eq_some_iff.1 h1).1 h1').trans h1, h2, h3, h4, (hg.block r (Array.getElem?_eq_some_iff.1 h5).1 h2').trans h5, h6⟩
theorem ranges_objs {k b r n cnt : Nat} {w : World} {D : DataW Value} {left : Lit → Bool} (h : w.ranges Tryd.prog k RH b r n D left cnt) {α : Type} {enc : α → List Value} {e z base : Nat} {v : Value} {l : List α} (ho : Row enc e z w base v l) : some b ≠ v.ownBlock ∧ some r ≠ v.ownBlock := by
  obtain ⟨es, clock, since, seen, c0, h1, h2, h3, h4, h5, h6⟩ := h
  exact ⟨(ho.ne_obj h1 (fun _ _ _ e => by cases e)).symm, (ho.ne_obj h5 (fun _ _ _ e => by cases e)).symm⟩
theorem ValI.apartR {gs : List S63} {ok : S29 → Bool} {p : List S29} {base : Nat} {W W1 : World} {M : Value → Value → Prop} (h : ValI gs ok p base W M) {vo : Value} {outl : List S49} (ho : Row encR 49 4 W base vo outl) (hg : W.grownBy W1 vo.ownBlock) : ValI gs ok p base W1 M :=
  h.other hg (fun key v hm => by
    obtain ⟨a, b, _, _, _, h4, h5⟩ := h.key key v hm
    obtain ⟨j, hj, _⟩ := h5.some_block h4
    rcases own_type_ne h5 ho (by decide) with h6 | h6
    · rw [hj] at h6; cases h6
    · exact h6)
/-- append(v, ys...). -/
theorem wpl_append_at {α : Type} [Inhabited α] {enc : α → List Value} {w : World} {o : Oper} {a : Act} {Q : Exit → Act → World → Prop} {ops : Array Oper} {rest : List Oper} (hgd : o.guard = none) (s x : Operand) (t : TypeId) (ho : o.op = .call { callee := .builtin .append, args := #[s, x], argTypes := #[t, t] })
    (base : Nat) (e : TypeId) (z : Value) (k bytes : Nat) (ht : Tryd.prog.underlying t = some (.slice e)) (hinfo : (Tryd.prog.info? e).map (fun i => (i.zero, i.size, i.bytes)) = some (some z, k, bytes)) (hzs : z.cells.size = k) (hsz : 0 < k)
    (v : Value) (xs ys : List α) (hk : ∀ x, (enc x).length = k) (hs : a.eval s = v) (hown : Row enc e k w base v xs) (h1 : ∀ x, ∀ u ∈ enc x, u.oneCell' = true)
    (ad : Addr) (m c : Nat) (hx : a.eval x = .slice (some ad) m c) (hm : m = ys.length) (hy : ∀ j u, (ys.flatMap enc)[j]? = some u → w.cell? (ad.add j) = some u)
    (hmx : xs.length + ys.length ≤ maxLen) (hbytes : (xs.length + ys.length) * bytes ≤ 140737488355328) (hbase : base ≤ w.heap.size)
    (h : ∀ v' w', Row enc e k w' base v' (xs ++ ys) → w.grownBy w' v.ownBlock → wpList Tryd.prog ops Q rest (a.put o.dst v') w') :
    wpList Tryd.prog ops Q (o :: rest) a w := by
  subst hm
  obtain ⟨i0, hi, hz0, hz1, hz2⟩ := info_parts hinfo
  refine wpList_append_own_at w hgd s x t ho base e i0 z k bytes ht hi hz0 hz1 hz2 hzs hsz v xs.length (xs.flatMap enc) hs hown ad ys.length c (ys.flatMap enc) hx (ST.flat_length hk ys) hy (fun u hu => by
    obtain ⟨x, _, hx⟩ := List.mem_flatMap.1 hu
    exact h1 x u hx) hmx hbytes hbase ?_
  intro v' w' h2 h3 _ _
  refine h v' w' ?_ h3
  unfold Row
  rw [List.length_append, List.flatMap_append]
  exact h2
/-- A literal of one element lies in a new block. -/
theorem lit_cells {α : Type} {enc : α → List Value} {W : World} {lb e : Nat} {x : α} {cs : Array Value} (hlb : W.heap[lb]? = some (.cells cs e (0, 0))) (he : cs = (enc x).toArray) : ∀ j u, ([x].flatMap enc)[j]? = some u → W.cell? ((⟨lb, 0, none⟩ : Addr).add j) = some u := by
  subst he
  intro j u hj
  have hadd : (⟨lb, 0, none⟩ : Addr).add j = ⟨lb, j, none⟩ := by unfold Addr.add; split <;> simp_all
  rw [hadd, cell_of_row _ _ _ _ _ _ hlb, List.getElem?_toArray]
  simpa using hj
end Go.Proofs.YtioekkdodggakaaDoor.G
