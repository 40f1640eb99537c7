import Derived.Test.YtioekkdodggakaaDoorHBase
/-
  Rows of flat elements: appended to, read; slices.Grow, slices.Concat of two.
-/
namespace Go.Proofs.YtioekkdodggakaaDoor.G
open Go.RowKit Go.Proofs.YtioekkdodggakaaDoorW.PrintWords Go.Proofs.YtioekkdodggakaaDoorW.PrintLast Go.Proofs.YtioekkdodggakaaDoorW.PrintMore
set_option linter.unusedVariables false
set_option linter.unusedSimpArgs false
/-- A row that is read, as one list of cells (R: what an element's cells say). -/
theorem row_reps {α : Type} {R : α → List Value → Prop} {sz : Nat} {w : World} {A : Option Addr} {n : Nat} {l : List α} (h : ReadsRow R sz w A n l) :
    ∃ cs, Reps R sz l cs ∧ cs.length = n * sz ∧ ∀ ad, A = some ad → ∀ j u, cs[j]? = some u → w.cell? (ad.add j) = some u := by
  obtain ⟨hl, hm, hr⟩ := h
  rcases Nat.eq_zero_or_pos n with h0 | h0
  · obtain rfl : l = [] := List.eq_nil_of_length_eq_zero (by omega)
    exact ⟨[], Reps.none _ _, by simp [h0], fun ad _ j u hu => by simp at hu⟩
  · obtain ⟨ad, rfl, hc⟩ := hr h0
    have key : ∀ m, m ≤ l.length → ∃ cs, Reps R sz (l.take m) cs ∧ cs.length = m * sz ∧ ∀ j u, cs[j]? = some u → w.cell? (ad.add j) = some u := by
      intro m
      induction m with
      | zero => intro _; exact ⟨[], by rw [List.take_zero]; exact Reps.none _ _, by simp, fun j u hu => by simp at hu⟩
      | succ m ih =>
        intro hm
        obtain ⟨cs, h1, h2, h3⟩ := ih (by omega)
        obtain ⟨c, hcl, hR, hcell⟩ := hc m _ (List.getElem?_eq_getElem (by omega))
        refine ⟨cs ++ c, by rw [List.take_succ_eq_append_getElem (by omega)]; exact h1.snoc hR hcl, by rw [List.length_append, h2, hcl, Nat.add_mul, Nat.one_mul], fun j u hu => ?_⟩
        rcases Nat.lt_or_ge j cs.length with hj | hj
        · rw [List.getElem?_append_left hj] at hu
          exact h3 j u hu
        · rw [List.getElem?_append_right hj] at hu
          have := hcell _ u hu
          rwa [show m * sz + (j - cs.length) = j by omega] at this
    obtain ⟨cs, h1, h2, h3⟩ := key l.length (Nat.le_refl _)
    rw [List.take_length] at h1
    exact ⟨cs, h1, by rw [h2, hl], fun a ha j u hu => by cases ha; exact h3 j u hu⟩

section
variable {α : Type} {R : α → List Value → Prop} {w : World} {o : Oper} {a : Act} {K : Act → World → Prop} {Q : Exit → Act → World → Prop} {ops : Array Oper} {rest : List Oper}
/-- append(xs, ys...): the op. -/
theorem wp_append_row (s x : Operand) (t : TypeId) (ho : o.op = .call { callee := .builtin .append, args := #[s, x], argTypes := #[t, t] })
    (base : Nat) (e : TypeId) (z : Value) (size bytes : Nat) (ht : Tryd.prog.underlying t = some (.slice e)) (hinfo : (Tryd.prog.info? e).map (fun i => (i.zero, i.size, i.bytes)) = some (some z, size, bytes)) (hzs : z.cells.size = size) (hsz : 0 < size)
    (v : Value) (xs ys : List α) (hs : a.eval s = v) (hown : OwnRow R e size w base v xs) (h1 : ∀ p c, R p c → ∀ u ∈ c, u.oneCell' = true)
    (A : Option Addr) (m c : Nat) (hx : a.eval x = .slice A m c) (hy : ReadsRow R size w A m ys) (hnone : A = none → c = 0)
    (hm : xs.length + ys.length ≤ maxLen) (hbytes : (xs.length + ys.length) * bytes ≤ 140737488355328) (hbase : base ≤ w.heap.size)
    (h : ∀ v' w', OwnRow R e size w' base v' (xs ++ ys) → w.grownBy w' v.ownBlock → K (a.put o.dst v') w') : o.wp Tryd.prog a w K Q := by
  obtain ⟨i0, hi, hz0, hz1, hz2⟩ := info_parts hinfo
  obtain ⟨inner, ho1, hr1⟩ := hown
  obtain rfl := hy.1
  obtain ⟨cs, hr2, hcl, hcc⟩ := row_reps hy
  cases A with
  | none =>
    have h0 : ys = [] := by
      rcases Nat.eq_zero_or_pos ys.length with h0 | h0
      · exact List.eq_nil_of_length_eq_zero h0
      · obtain ⟨ad, he, _⟩ := hy.2.2 h0; cases he
    subst h0
    obtain rfl := hnone rfl
    have hrun := run_append_owned_none (P := Tryd.prog) (w := w) base t o.type e i0 size ht hi v xs.length inner ho1
    unfold Oper.wp
    simp [execOp, ho, resolve, invoke, builtin, hs, hx, hrun, Result.andThen]
    refine h v w ?_ ⟨rfl, rfl, rfl, Nat.le_refl _, fun _ _ _ => rfl⟩
    rw [List.append_nil]
    exact ⟨inner, ho1, hr1⟩
  | some ad =>
    refine wp_append_own w s x t ho base e i0 z size bytes ht hi hz0 hz1 hz2 hzs hsz v xs.length inner hs ho1 ad ys.length c cs hx hcl (hcc ad rfl) (Kd.reps_one hr2 hsz h1) hm hbytes hbase ?_
    intro v' w' hown' hg _
    refine h v' w' ⟨inner ++ cs, ?_, Kd.reps_append hr1 hr2⟩ hg
    rw [List.length_append]
    exact hown'
theorem wpl_append_row (hgd : o.guard = none) (s x : Operand) (t : TypeId) (ho : o.op = .call { callee := .builtin .append, args := #[s, x], argTypes := #[t, t] })
    (base : Nat) (e : TypeId) (z : Value) (size bytes : Nat) (ht : Tryd.prog.underlying t = some (.slice e)) (hinfo : (Tryd.prog.info? e).map (fun i => (i.zero, i.size, i.bytes)) = some (some z, size, bytes)) (hzs : z.cells.size = size) (hsz : 0 < size)
    (v : Value) (xs ys : List α) (hs : a.eval s = v) (hown : OwnRow R e size w base v xs) (h1 : ∀ p c, R p c → ∀ u ∈ c, u.oneCell' = true)
    (A : Option Addr) (m c : Nat) (hx : a.eval x = .slice A m c) (hy : ReadsRow R size w A m ys) (hnone : A = none → c = 0)
    (hm : xs.length + ys.length ≤ maxLen) (hbytes : (xs.length + ys.length) * bytes ≤ 140737488355328) (hbase : base ≤ w.heap.size)
    (h : ∀ v' w', OwnRow R e size w' base v' (xs ++ ys) → w.grownBy w' v.ownBlock → wpList Tryd.prog ops Q rest (a.put o.dst v') w') : wpList Tryd.prog ops Q (o :: rest) a w :=
  wpList_plain hgd fun _ hK => wp_append_row s x t ho base e z size bytes ht hinfo hzs hsz v xs ys hs hown h1 A m c hx hy hnone hm hbytes hbase fun v' w' h2 h3 => hK _ _ (h v' w' h2 h3)
theorem step_append_row (hw : Region.wanted o (yielded ops a.tmps) = true) (s x : Operand) (t : TypeId) (ho : o.op = .call { callee := .builtin .append, args := #[s, x], argTypes := #[t, t] })
    (base : Nat) (e : TypeId) (z : Value) (size bytes : Nat) (ht : Tryd.prog.underlying t = some (.slice e)) (hinfo : (Tryd.prog.info? e).map (fun i => (i.zero, i.size, i.bytes)) = some (some z, size, bytes)) (hzs : z.cells.size = size) (hsz : 0 < size)
    (v : Value) (xs ys : List α) (hs : a.eval s = v) (hown : OwnRow R e size w base v xs) (h1 : ∀ p c, R p c → ∀ u ∈ c, u.oneCell' = true)
    (A : Option Addr) (m c : Nat) (hx : a.eval x = .slice A m c) (hy : ReadsRow R size w A m ys) (hnone : A = none → c = 0)
    (hm : xs.length + ys.length ≤ maxLen) (hbytes : (xs.length + ys.length) * bytes ≤ 140737488355328) (hbase : base ≤ w.heap.size)
    (h : ∀ v' w', OwnRow R e size w' base v' (xs ++ ys) → w.grownBy w' v.ownBlock → K (a.put o.dst v') w') :
    if Region.wanted o (yielded ops a.tmps) = true then Oper.wp Tryd.prog o a w K Q else K (a.put o.dst undef) w := by
  rw [if_pos hw]
  exact wp_append_row s x t ho base e z size bytes ht hinfo hzs hsz v xs ys hs hown h1 A m c hx hy hnone hm hbytes hbase h
end

section
variable {α : Type} {enc : α → List Value} {k e : Nat} {w w1 : World} {base : Nat} {v : Value} {l : List α}
/-- An element's cells are these. -/
def RE (enc : α → List Value) (x : α) (c : List Value) : Prop := c = enc x
/-- A row of flat elements of the call's own. -/
def Row (enc : α → List Value) (e k : Nat) (w : World) (base : Nat) (v : Value) (l : List α) : Prop := w.ownsRow base e k v l.length (l.flatMap enc)
theorem reps_RE (hk : ∀ x, (enc x).length = k) (l : List α) : Reps (RE enc) k l (l.flatMap enc) := by
  have key : ∀ r : List α, Reps (RE enc) k r.reverse (r.reverse.flatMap enc) := by
    intro r
    induction r with
    | nil => exact Reps.none _ _
    | cons x r ih =>
      rw [List.reverse_cons, List.flatMap_append]
      have := Reps.snoc ih (show RE enc x (enc x) from rfl) (hk x)
      simpa using this
  have := key l.reverse
  rwa [List.reverse_reverse] at this
theorem reps_RE_eq (hk : ∀ x, (enc x).length = k) : ∀ (l : List α) (cs : List Value), Reps (RE enc) k l cs → cs = l.flatMap enc
  | [], cs, h => by have := h.1; simp at this; rw [this]; rfl
  | p :: l, cs, h => by
    have h0 : cs.take k = enc p := by
      have := h.2 0 p rfl
      rwa [Nat.zero_mul, List.drop_zero] at this
    have ht : Reps (RE enc) k l (cs.drop k) := by
      refine ⟨by rw [List.length_drop, h.1, List.length_cons, Nat.add_mul, Nat.one_mul]; omega, fun j q hq => ?_⟩
      have := h.2 (j + 1) q (by simpa using hq)
      rw [List.drop_drop, show k + j * k = (j + 1) * k by rw [Nat.add_mul, Nat.one_mul, Nat.add_comm]]
      exact this
    rw [List.flatMap_cons, ← reps_RE_eq hk l _ ht, ← h0, List.take_append_drop]
theorem Row.own (hk : ∀ x, (enc x).length = k) (h : Row enc e k w base v l) : OwnRow (RE enc) e k w base v l := ⟨_, h, reps_RE hk l⟩
theorem Row.of (hk : ∀ x, (enc x).length = k) (h : OwnRow (RE enc) e k w base v l) : Row enc e k w base v l := by
  obtain ⟨inner, ho, hr⟩ := h
  rw [reps_RE_eq hk l inner hr] at ho
  exact ho
theorem RE_one (h1 : ∀ x, ∀ v ∈ enc x, v.oneCell' = true) : ∀ p c, RE enc p c → ∀ u ∈ c, u.oneCell' = true := fun p c h u hu => h1 p u (h ▸ hu)
theorem Row.below (h : Row enc e k w base v l) (hb : Below w.heap.size w w1) : Row enc e k w1 base v l := pw_own_below h hb
theorem Row.other (h : Row enc e k w base v l) {row : Option Nat} (hg : w.grownBy w1 row) (hne : v.ownBlock = none ∨ v.ownBlock ≠ row) : Row enc e k w1 base v l := own_other h hg hne
theorem Row.lower (h : Row enc e k w base v l) {base' : Nat} (hb : base' ≤ base) : Row enc e k w base' v l := own_weaken h hb
theorem Row.nil (enc : α → List Value) (e k : Nat) (w : World) (base : Nat) : Row enc e k w base (.slice none 0 0) [] := own_nil _ _ _ _
theorem Row.at_base (h : Row enc e k w base v l) : ∀ j, v.ownBlock = some j → base ≤ j ∧ j < w.heap.size := fun j hj => ⟨own_base h j hj, own_lt h j hj⟩
theorem Row.form (h : Row enc e k w base v l) : ∃ A c, v = .slice A l.length c ∧ l.length ≤ c ∧ (A = none → c = 0) := by
  rcases h.2 with ⟨rfl, h0⟩ | ⟨g, cap, cur, rfl, _, _, hn, _⟩
  · exact ⟨none, 0, by rw [h0], by omega, fun _ => rfl⟩
  · exact ⟨_, _, rfl, hn, fun e => by cases e⟩
theorem Row.reads (hk : ∀ x, (enc x).length = k) (h : Row enc e k w base v l) : ∃ A c, v = .slice A l.length c ∧ l.length ≤ c ∧ (A = none → c = 0) ∧ ReadsRow (RE enc) k w A l.length l := by
  obtain ⟨A, c, hv, hc, hn⟩ := h.form
  obtain ⟨A', c', hv', hc', hr⟩ := (h.own hk).reads
  rw [hv] at hv'
  injection hv' with e1 e2 e3
  subst e1; subst e3
  exact ⟨A, c, hv, hc, hn, hr⟩
end
theorem reads_k29 {w : World} {A : Option Addr} {n : Nat} {l : List S29} (h : ReadsRow (RE encG) 5 w A n l) : Kd.C k29 w A n l := ReadsRow.imp_ h (Below.refl _ _) (fun x c hp => by rw [show c = encG x from hp]; exact k29_mk w x)
theorem k29_reads {w : World} {A : Option Addr} {n : Nat} {l : List S29} (h : Kd.C k29 w A n l) : ReadsRow (RE encG) 5 w A n l := ReadsRow.imp_ h (Below.refl _ _) (fun x c hp => k29_open hp)

/-- append(nil, make([]Gram, m)...): the op. -/
theorem wpl_append_zeros29 {w : World} {o : Oper} {a : Act} {Q : Exit → Act → World → Prop} {ops : Array Oper} {rest : List Oper} (hgd : o.guard = none) (s x : Operand) (ho : o.op = .call { callee := .builtin .append, args := #[s, x], argTypes := #[22, 3] })
    (hs : a.eval s = .slice none 0 0) (m : Nat) (hx : a.eval x = .int .i64 m) (h0 : 0 < m) (hm : m ≤ 1000000)
    (h : ∀ g c w1, Row encG 29 5 w1 w.heap.size (.slice (some ⟨g, 0, none⟩) 0 c) [] → Below w.heap.size w w1 → wpList Tryd.prog ops Q rest (a.put o.dst (.slice (some ⟨g, 0, none⟩) m c)) w1) :
    wpList Tryd.prog ops Q (o :: rest) a w := by
  obtain ⟨i0, hi, hz0, hz1, hz2⟩ := info_parts info29
  obtain ⟨v1, w1, hrun, hown, hg, _⟩ := run_append_zeros (P := Tryd.prog) w w.heap.size 22 3 o.type 29 i0 _ 5 48 Tryd.underlying22 Tryd.underlying3 hi hz0 hz1 hz2 rfl (by omega) (by omega) (.slice none 0 0) 0 [] (own_nil _ _ _ _) .i64 m (fun u hu => by
      have := Kd.reps_one (Kd.reps_zeros (R := RE encG) (z := .agg #[.int .i64 0, .int .i64 0, .int .i64 0, .int .i64 0, .string ⟨#[]⟩]) (size := 5) (z0 := z29) rfl (by omega) rfl m) (by omega) (RE_one encG_one)
      exact this u hu) (by omega) (Nat.le_refl _)
  have HB : Below w.heap.size w w1 := (Below.refl _ _).grown hg (Nat.le_refl _) (fun j hj => by cases hj)
  rcases hown.2 with ⟨_, h1⟩ | ⟨g, cap, cur, rfl, hg, hb, hn, hc, hcs, _⟩
  · omega
  · rw [Nat.zero_add] at hrun
    refine wpList_plain hgd fun K hK => ?_
    unfold Oper.wp execOp
    simp only [ho, resolve, invoke, builtin, Sem.run_bind, Sem.run_pure, Result.andThen_ok, List.map_toArray, List.map_cons, List.map_nil, hs, hx, hrun]
    exact hK _ _ (h g cap w1 ⟨by simp, .inr ⟨g, cap, cur, rfl, hg, hb, Nat.zero_le _, hc, hcs, by simp⟩⟩ HB)
set_option maxHeartbeats 4000000 in
set_option maxRecDepth 100000 in
theorem Grow_any (m : Nat) (hm : m ≤ 1000000) (w : World) :
    Calls Tryd.prog 38 #[.slice none 0 0, .int .i64 m] w fun e w' => ∃ v, e = .returned v ∧ Row encG 29 5 w' w.heap.size v [] ∧ Below w.heap.size w w' := by
  rcases Nat.eq_zero_or_pos m with h0 | h0
  · subst h0
    go_enter Tryd.func38, Tryd.ntmps38
    go_wp2
    go_ret
    exact ⟨_, rfl, Row.nil _ _ _ _ _, Below.refl _ _⟩
  · have hm0 : (0 : Int) < (m : Int) := by omega
    go_enter Tryd.func38, Tryd.ntmps38
    go_wp2_with (at_builtin; refine wpl_append_zeros29 rfl _ _ rfl rfl m rfl h0 hm ?_; intro g c w1 hr hb; have HR := Aside0.mk hr; have HB := Aside0.mk hb; clear hr hb; have hc0 : (0 : Int) ≤ (c : Int) := by omega)
    go_ret
    exact ⟨_, rfl, HR.out, HB.out⟩
set_option maxHeartbeats 8000000 in
set_option maxRecDepth 100000 in
/-- slices.Concat of two. -/
theorem Concat_any (A B : Option Addr) (ca cb : Nat) (x y : List S29) (g : Nat) (w : World) (hg : w.heap[g]? = some (.cells #[.slice A x.length ca, .slice B y.length cb] 22 (0, 0)))
    (hx : ReadsRow (RE encG) 5 w A x.length x) (hy : ReadsRow (RE encG) 5 w B y.length y) (hcx : x.length ≤ ca) (hcy : y.length ≤ cb) (hnx : A = none → ca = 0) (hny : B = none → cb = 0) (hlx : x.length ≤ 100000) (hly : y.length ≤ 100000) :
    Calls Tryd.prog 21 #[.slice (some ⟨g, 0, none⟩) 2 2] w fun e w' => ∃ v, e = .returned v ∧ Row encG 29 5 w' w.heap.size v (x ++ y) ∧ Below w.heap.size w w' := by
  have c0 : w.cell? ⟨g, 0, none⟩ = some (.slice A x.length ca) := (blk_cell hg 0).trans rfl
  have c1 : w.cell? ⟨g, 1, none⟩ = some (.slice B y.length cb) := (blk_cell hg 1).trans rfl
  have HX := Aside0.mk hx
  have HY := Aside0.mk hy
  have HNX := Aside0.mk hnx
  have HNY := Aside0.mk hny
  have C0 := Aside0.mk c0
  have C1 := Aside0.mk c1
  clear hx hy hnx hny hg
  go_enter Tryd.func21, Tryd.ntmps21
  go_wp2
  refine wp_loop_rounds 3 ?_
  rw [rounds_succ]
  go_wp2
  rw [rounds_succ]
  go_wp2
  rw [rounds_succ]
  go_wp2_with fail
  have hG := Grow_any (x.length + y.length) (by omega) w
  rw [show (((x.length + y.length : Nat) : Int)) = (x.length : Int) + (y.length : Int) by omega] at hG
  refine hG.mono ?_
  rintro e w1 ⟨v1, rfl, ho1, hb1⟩
  have HO1 := Aside0.mk (Row.own encG_len ho1)
  have HB1 := Aside0.mk hb1
  replace c0 := (hb1.cell (World.block_lt_of_cell? w _ c0)).trans c0
  replace c1 := (hb1.cell (World.block_lt_of_cell? w _ c1)).trans c1
  clear hG ho1 hb1
  go_wp2
  refine wp_loop_rounds 3 ?_
  rw [rounds_succ]
  go_wp2_with (at_builtin; refine wpl_append_row (R := RE encG) rfl _ _ 22 rfl w.heap.size 29 _ 5 48 Tryd.underlying22 info29 rfl (by decide) v1 [] x rfl HO1.out (RE_one encG_one) A x.length ca rfl (ReadsRow.imp_ HX.out HB1.out (fun _ _ hp => hp)) HNX.out (by simp only [maxLen, List.length_nil]; omega) (by simp only [List.length_nil]; omega) HB1.out.size ?_; intro v2 w2 ho2 hg2)
  rw [List.nil_append] at ho2
  have HO2 := Aside0.mk ho2
  have hb2 := HB1.out.grown hg2 HB1.out.size (fun j hj => by obtain ⟨i, ho, _⟩ := HO1.out; exact own_base ho j hj)
  have HB2 := Aside0.mk hb2
  have c0 := (hb2.cell (World.block_lt_of_cell? w _ C0.out)).trans C0.out
  have c1 := (hb2.cell (World.block_lt_of_cell? w _ C1.out)).trans C1.out
  clear ho2 hg2 hb2 HO1
  go_wp2
  rw [rounds_succ]
  go_wp2_with (at_builtin; refine wpl_append_row (R := RE encG) rfl _ _ 22 rfl w.heap.size 29 _ 5 48 Tryd.underlying22 info29 rfl (by decide) v2 x y rfl HO2.out (RE_one encG_one) B y.length cb rfl (ReadsRow.imp_ HY.out HB2.out (fun _ _ hp => hp)) HNY.out (by simp only [maxLen]; omega) (by omega) HB2.out.size ?_; intro v3 w3 ho3 hg3)
  have HO3 := Aside0.mk ho3
  have HB3 := Aside0.mk (HB2.out.grown hg3 HB2.out.size (fun j hj => by obtain ⟨i, ho, _⟩ := HO2.out; exact own_base ho j hj))
  clear ho3 hg3 HO2
  go_wp2
  rw [rounds_succ]
  go_wp2
  go_ret
  exact ⟨_, rfl, Row.of encG_len HO3.out, HB3.out⟩
end Go.Proofs.YtioekkdodggakaaDoor.G
