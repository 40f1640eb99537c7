/-
  Several texts in one: HOwn, HReplays.
-/
import Derived.Test.YtehieahpocbboaaHC
import Derived.Laws.AppendOwnNone
import Derived.Test.YtehieahpocbboaaHSmall
import Derived.Test.YtehieahpocbboaaK3
import Derived.Test.YtehieahpocbboaaKB
import Derived.Test.YtehieahpocbboaaEP
import Derived.Deep.RegionLaw
/-
  Rows of the call's own whose elements lead to what came in: appended to, read.
-/
namespace Go.Proofs.Ytehieahpocbboaa.G
open Go.RowKit Go.Proofs.YtehieahpocbboaaW.PrintWords Go.Proofs.YtehieahpocbboaaW.PrintLast Go.Proofs.YtehieahpocbboaaW.PrintMore
set_option linter.unusedVariables false
set_option linter.unusedSimpArgs false

/-- A row that is read, as one list of cells (R: what an element's cells say). -/
theorem row_reps {α : Type} {R : α → List Value → Prop} {sz : Nat} {w : World} {A : Option Addr} {n : Nat} {l : List α} (h : ReadsRow R sz w A n l) :
    ∃ cs, Reps R sz l cs ∧ cs.length = n * sz ∧ ∀ ad, A = some ad → ∀ j u, cs[j]? = some u → w.cell? (ad.add j) = some u := by
  obtain ⟨hl, hm, hr⟩ := h
  rcases Nat.eq_zero_or_pos n with h0 | h0
  · obtain rfl : l = [] := List.eq_nil_of_length_eq_zero (by omega)
    exact ⟨[], Reps.none _ _, by simp [h0], fun ad _ j u hu => by simp at hu⟩
  · obtain ⟨ad, rfl, hc⟩ := hr h0
    have key : ∀ m, m ≤ l.length → ∃ cs, Reps R sz (l.take m) cs ∧ cs.length = m * sz ∧ ∀ j u, cs[j]? = some u → w.cell? (ad.add j) = some u := by
      intro m
      induction m with
      | zero => intro _; exact ⟨[], by rw [List.take_zero]; exact Reps.none _ _, by simp, fun j u hu => by simp at hu⟩
      | succ m ih =>
        intro hm
        obtain ⟨cs, h1, h2, h3⟩ := ih (by omega)
        obtain ⟨c, hcl, hR, hcell⟩ := hc m _ (List.getElem?_eq_getElem (by omega))
        refine ⟨cs ++ c, by rw [List.take_succ_eq_append_getElem (by omega)]; exact h1.snoc hR hcl, by rw [List.length_append, h2, hcl, Nat.add_mul, Nat.one_mul], fun j u hu => ?_⟩
        rcases Nat.lt_or_ge j cs.length with hj | hj
        · rw [List.getElem?_append_left hj] at hu
          exact h3 j u hu
        · rw [List.getElem?_append_right hj] at hu
          have := hcell _ u hu
          rwa [show m * sz + (j - cs.length) = j by omega] at this
    obtain ⟨cs, h1, h2, h3⟩ := key l.length (Nat.le_refl _)
    rw [List.take_length] at h1
    exact ⟨cs, h1, by rw [h2, hl], fun a ha j u hu => by cases ha; exact h3 j u hu⟩

section
variable {α : Type} {R : α → List Value → Prop} {w : World} {o : Oper} {a : Act} {K : Act → World → Prop} {Q : Exit → Act → World → Prop} {ops : Array Oper} {rest : List Oper}
/-- append(xs, ys...): the op. -/
theorem wp_append_row (s x : Operand) (t : TypeId) (ho : o.op = .call { callee := .builtin .append, args := #[s, x], argTypes := #[t, t] })
    (base : Nat) (e : TypeId) (z : Value) (size bytes : Nat) (ht : Try.prog.underlying t = some (.slice e)) (hinfo : (Try.prog.info? e).map (fun i => (i.zero, i.size, i.bytes)) = some (some z, size, bytes)) (hzs : z.cells.size = size) (hsz : 0 < size)
    (v : Value) (xs ys : List α) (hs : a.eval s = v) (hown : OwnRow R e size w base v xs) (h1 : ∀ p c, R p c → ∀ u ∈ c, u.oneCell' = true)
    (A : Option Addr) (m c : Nat) (hx : a.eval x = .slice A m c) (hy : ReadsRow R size w A m ys) (hnone : A = none → c = 0)
    (hm : xs.length + ys.length ≤ maxLen) (hbytes : (xs.length + ys.length) * bytes ≤ 140737488355328) (hbase : base ≤ w.heap.size)
    (h : ∀ v' w', OwnRow R e size w' base v' (xs ++ ys) → w.grownBy w' v.ownBlock → K (a.put o.dst v') w') : o.wp Try.prog a w K Q := by
  obtain ⟨i0, hi, hz0, hz1, hz2⟩ := info_parts hinfo
  obtain ⟨inner, ho1, hr1⟩ := hown
  obtain rfl := hy.1
  obtain ⟨cs, hr2, hcl, hcc⟩ := row_reps hy
  cases A with
  | none =>
    have h0 : ys = [] := by
      rcases Nat.eq_zero_or_pos ys.length with h0 | h0
      · exact List.eq_nil_of_length_eq_zero h0
      · obtain ⟨ad, he, _⟩ := hy.2.2 h0; cases he
    subst h0
    obtain rfl := hnone rfl
    have hrun := run_append_owned_none (P := Try.prog) (w := w) base t o.type e i0 size ht hi v xs.length inner ho1
    unfold Oper.wp
    simp [execOp, ho, resolve, invoke, builtin, hs, hx, hrun, Result.andThen]
    refine h v w ?_ ⟨rfl, rfl, rfl, Nat.le_refl _, fun _ _ _ => rfl⟩
    rw [List.append_nil]
    exact ⟨inner, ho1, hr1⟩
  | some ad =>
    refine wp_append_own w s x t ho base e i0 z size bytes ht hi hz0 hz1 hz2 hzs hsz v xs.length inner hs ho1 ad ys.length c cs hx hcl (hcc ad rfl) (Kd.reps_one hr2 hsz h1) hm hbytes hbase ?_
    intro v' w' hown' hg _
    refine h v' w' ⟨inner ++ cs, ?_, Kd.reps_append hr1 hr2⟩ hg
    rw [List.length_append]
    exact hown'
theorem wpl_append_row (hgd : o.guard = none) (s x : Operand) (t : TypeId) (ho : o.op = .call { callee := .builtin .append, args := #[s, x], argTypes := #[t, t] })
    (base : Nat) (e : TypeId) (z : Value) (size bytes : Nat) (ht : Try.prog.underlying t = some (.slice e)) (hinfo : (Try.prog.info? e).map (fun i => (i.zero, i.size, i.bytes)) = some (some z, size, bytes)) (hzs : z.cells.size = size) (hsz : 0 < size)
    (v : Value) (xs ys : List α) (hs : a.eval s = v) (hown : OwnRow R e size w base v xs) (h1 : ∀ p c, R p c → ∀ u ∈ c, u.oneCell' = true)
    (A : Option Addr) (m c : Nat) (hx : a.eval x = .slice A m c) (hy : ReadsRow R size w A m ys) (hnone : A = none → c = 0)
    (hm : xs.length + ys.length ≤ maxLen) (hbytes : (xs.length + ys.length) * bytes ≤ 140737488355328) (hbase : base ≤ w.heap.size)
    (h : ∀ v' w', OwnRow R e size w' base v' (xs ++ ys) → w.grownBy w' v.ownBlock → wpList Try.prog ops Q rest (a.put o.dst v') w') : wpList Try.prog ops Q (o :: rest) a w :=
  wpList_plain hgd fun _ hK => wp_append_row s x t ho base e z size bytes ht hinfo hzs hsz v xs ys hs hown h1 A m c hx hy hnone hm hbytes hbase fun v' w' h2 h3 => hK _ _ (h v' w' h2 h3)
theorem step_append_row (hw : Region.wanted o (yielded ops a.tmps) = true) (s x : Operand) (t : TypeId) (ho : o.op = .call { callee := .builtin .append, args := #[s, x], argTypes := #[t, t] })
    (base : Nat) (e : TypeId) (z : Value) (size bytes : Nat) (ht : Try.prog.underlying t = some (.slice e)) (hinfo : (Try.prog.info? e).map (fun i => (i.zero, i.size, i.bytes)) = some (some z, size, bytes)) (hzs : z.cells.size = size) (hsz : 0 < size)
    (v : Value) (xs ys : List α) (hs : a.eval s = v) (hown : OwnRow R e size w base v xs) (h1 : ∀ p c, R p c → ∀ u ∈ c, u.oneCell' = true)
    (A : Option Addr) (m c : Nat) (hx : a.eval x = .slice A m c) (hy : ReadsRow R size w A m ys) (hnone : A = none → c = 0)
    (hm : xs.length + ys.length ≤ maxLen) (hbytes : (xs.length + ys.length) * bytes ≤ 140737488355328) (hbase : base ≤ w.heap.size)
    (h : ∀ v' w', OwnRow R e size w' base v' (xs ++ ys) → w.grownBy w' v.ownBlock → K (a.put o.dst v') w') :
    if Region.wanted o (yielded ops a.tmps) = true then Oper.wp Try.prog o a w K Q else K (a.put o.dst undef) w := by
  rw [if_pos hw]
  exact wp_append_row s x t ho base e z size bytes ht hinfo hzs hsz v xs ys hs hown h1 A m c hx hy hnone hm hbytes hbase h
end
theorem info29 : (Try.prog.info? 29).map (fun i => (i.zero, i.size, i.bytes)) = some (some (.agg #[.int .i64 0, .int .i64 0, .int .i64 0, .int .i64 0, .slice none 0 0]), 5, 56) := by kernel_rfl
/-- A row that came in, read with its elements as they are at the start. -/
theorem C_from {α : Type} {d : Kd α} {w w' : World} {A : Option Addr} {n : Nat} {l : List α} (h : Kd.C d w A n l) (hb : Below w.heap.size w w') : ReadsRow (d.K w) d.sz w' A n l := ReadsRow.imp_ h hb (fun _ _ hp => hp)
theorem k29_one (w : World) : ∀ p c, k29.K w p c → ∀ u ∈ c, u.oneCell' = true := fun _ _ h => k29.K_one h
theorem k27_one (w : World) : ∀ p c, k27.K w p c → ∀ u ∈ c, u.oneCell' = true := fun _ _ h => k27.K_one h
theorem own_empty {α : Type} (R : α → List Value → Prop) (e size : Nat) (W : World) (base : Nat) (hb : base ≤ W.heap.size) : OwnRow R e size (W.alloc (.cells #[] e)) base (.slice (some ⟨W.heap.size, 0, none⟩) 0 0) [] :=
  ⟨[], ⟨by simp, .inr ⟨W.heap.size, 0, #[], rfl, hb, heap_alloc_new W _, Nat.le_refl _, by simp [maxLen], by simp, by simp⟩⟩, Reps.none _ _⟩
theorem src_take {w W : World} {A : Option Addr} {l : List S29} {n : Nat} (h : Kd.C k29 w A l.length l) (hb : Below w.heap.size w W) (hn : n ≤ l.length) : ReadsRow (k29.K w) 5 W A n (l.take n) := by
  have h1 := Kd.C_take (m := n) h hn
  have e : (l.take n).length = n := by rw [List.length_take]; omega
  rw [e] at h1
  exact C_from h1 hb
theorem src_drop {w W : World} {ad : Addr} {l : List S29} {n c : Nat} (h : Kd.C k29 w (some ad) l.length l) (hb : Below w.heap.size w W) (hn : n ≤ l.length) (hc : l.length ≤ c) (hne : ¬ c = n) : ReadsRow (k29.K w) 5 W (some (ad.add (n * 5))) (l.length - n) (l.drop n) := by
  have h1 := Kd.C_drop (m := n) h hn hc
  rw [if_neg hne, List.length_drop] at h1
  exact C_from h1 hb
theorem src_drop0 {w W : World} {A : Option Addr} {l : List S29} {n c : Nat} (h : Kd.C k29 w A l.length l) (hn : n ≤ l.length) (hc : l.length ≤ c) (he : c = n) : ReadsRow (k29.K w) 5 W A (l.length - n) (l.drop n) := by
  have e : l.length = n := by omega
  refine ⟨by simp, by omega, fun h => by omega⟩
theorem src_empty {R : S29 → List Value → Prop} {sz : Nat} {W : World} {A : Option Addr} {l : List S29} {c : Nat} (hc : l.length ≤ c) : ReadsRow R sz W A 0 (l.drop c) :=
  ⟨by simp; omega, by omega, fun h => by omega⟩
theorem OwnRow_C {α : Type} {d : Kd α} {w w' : World} {e base : Nat} {v : Value} {xs : List α} (h : OwnRow (d.K w) e d.sz w' base v xs) (hb : Below w.heap.size w w') : ∃ A c, v = .slice A xs.length c ∧ xs.length ≤ c ∧ Kd.C d w' A xs.length xs := by
  obtain ⟨A, c, rfl, hl, hr⟩ := h.reads
  exact ⟨A, c, rfl, hl, hr.imp_ (Below.refl _ _) (fun _ _ hp => d.K_below hb hp)⟩
theorem lit29 (w W : World) (x : S29) (A : Option Addr) (c : Nat) (hc : x.f2.f2.length ≤ c) (hC : Kd.C (Kd.slice 54 k54) w A x.f2.f2.length x.f2.f2) : ReadsRow (k29.K w) 5 (W.alloc (.cells #[.int .i64 x.f0, .int .i64 x.f1, .int .i64 x.f2.f0, .int .i64 x.f2.f1, .slice A x.f2.f2.length c] 29)) (some ⟨W.heap.size, 0, none⟩) 1 [x] := by
  refine ⟨rfl, by omega, fun _ => ⟨_, rfl, fun j s hj => ?_⟩⟩
  match j, hj with
  | 0, hj =>
    simp at hj; subst hj
    refine ⟨_, rfl, k29_mk w x hc hC, fun i u hu => ?_⟩
    have had : ∀ m, (⟨W.heap.size, 0, none⟩ : Addr).add m = ⟨W.heap.size, m, none⟩ := fun m => by unfold Addr.add; split <;> simp_all
    rw [had, show 0 * 5 + i = i by omega, Lib.cell_of_heap (heap_alloc_new W _), List.getElem?_toArray]
    exact hu
theorem own_none {α : Type} {R : α → List Value → Prop} {w : World} {e size base : Nat} {A : Option Addr} {n c : Nat} {l : List α} (h : OwnRow R e size w base (.slice A n c) l) : A = none → c = 0 := by
  obtain ⟨inner, ho, _⟩ := h
  rcases ho.2 with ⟨hv, _⟩ | ⟨g, cap, cur, hv, _⟩
  · injection hv with _ _ h3; exact fun _ => h3
  · injection hv with h1; rintro rfl; cases h1
end Go.Proofs.Ytehieahpocbboaa.G
/-
  bournelaw29.CastReplays, walked.
-/
namespace Go.Proofs.Ytehieahpocbboaa.G
open Go.RowKit Go.Proofs.YtehieahpocbboaaW.PrintWords Go.Proofs.YtehieahpocbboaaW.PrintLast Go.Proofs.YtehieahpocbboaaW.PrintMore
set_option linter.unusedVariables false
set_option linter.unusedSimpArgs false
theorem own_below {α : Type} {R : α → List Value → Prop} {e size : Nat} {w w1 : World} {base : Nat} {v : Value} {xs : List α} (h : OwnRow R e size w base v xs) (hb : Below w.heap.size w w1) : OwnRow R e size w1 base v xs := h.below hb
theorem OwnRow_base {α : Type} {R : α → List Value → Prop} {e size : Nat} {w : World} {base : Nat} {v : Value} {xs : List α} (h : OwnRow R e size w base v xs) : ∀ k, v.ownBlock = some k → base ≤ k ∧ k < w.heap.size := by
  obtain ⟨inner, ho, _⟩ := h
  exact fun k hk => ⟨own_base ho k hk, own_lt ho k hk⟩
theorem OwnRow_ne {α β : Type} {R : α → List Value → Prop} {R' : β → List Value → Prop} {e e' size size' : Nat} {w : World} {base base' : Nat} {v v' : Value} {xs : List α} {ys : List β} (h : OwnRow R e size w base v xs) (h' : OwnRow R' e' size' w base' v' ys) (hne : e ≠ e') : v.ownBlock = none ∨ v.ownBlock ≠ v'.ownBlock := by
  obtain ⟨i1, ho1, _⟩ := h
  obtain ⟨i2, ho2, _⟩ := h'
  cases hb : v.ownBlock with
  | none => exact .inl rfl
  | some k => exact .inr (fun e => own_types ho1 ho2 hne k hb e.symm)
theorem known_step (l : List S29) (j : Nat) (hj : j < l.length) (p : S29 → Bool) : ((l.drop j).reverse.filter p) = ((l.drop (j + 1)).reverse.filter p) ++ (if p (rd_T29 l j) then [rd_T29 l j] else []) := by
  have e : rd_T29 l j = l[j] := by
    unfold rd_T29
    rw [Int.toNat_natCast, List.getD_eq_getElem?_getD, List.getElem?_eq_getElem hj]; rfl
  rw [e, List.drop_eq_getElem_cons hj, List.reverse_cons, List.filter_append]
  congr 1
  by_cases hp : p l[j] = true
  · simp [hp]
  · simp [hp]
theorem OkN_of {l l' : List S29} (h : OkN l) (hl : l'.length ≤ 1000) (hm : ∀ x ∈ l', x ∈ l) : OkN l' := ⟨hl, fun n hn => h.2 n (hm n hn)⟩
theorem known_le (l : List S29) (j : Nat) (p : S29 → Bool) : ((l.drop j).reverse.filter p).length ≤ l.length := by
  have := List.length_filter_le p (l.drop j).reverse
  rw [List.length_reverse, List.length_drop] at this
  omega
set_option maxHeartbeats 8000000 in
set_option maxRecDepth 100000 in
theorem Replays_in (A : Option Addr) (c : Nat) (l : List S29) (n : Nat) (h : Int) (w : World) (hr : Kd.C k29 w A l.length l) (hc : l.length ≤ c) (hcn : A = none → c = 0) (hok : OkN l) (hl : l.length ≤ 40) (hh : IsI h) (hn : n ≤ l.length) (k : Nat)
    (hf : bournelaw29_few.f k l = some true) (h1 : bourneref29_SameAll.f k (admitted h l) (admitted h ((l.drop n ++ l.take n) ++ l)) = some true) (h2 : bourneref29_SameAll.f k (admitted h l) (admitted h ((l.drop n ++ l.take n).reverse.filter fun x => decide (x.f1 ≤ h))) = some true) :
    Calls Try.prog 3 #[.slice A l.length c, .int .i64 n, .int .i64 h] w fun e w' => e = .returned (.bool true) ∧ Below w.heap.size w w' := by
  have HR := Aside0.mk hr
  have HOK := Aside0.mk hok
  have HF := Aside0.mk hf
  have H1 := Aside0.mk h1
  have H2 := Aside0.mk h2
  have HCN := Aside0.mk hcn
  clear hr hok hf h1 h2 hcn
  have hd1 : decide ((n : Int) < 0) = false := decide_eq_false (by omega)
  have hd2 : decide ((l.length : Int) < (n : Int)) = false := decide_eq_false (by omega)
  have hd3 : decide (l.length < n) = false := decide_eq_false (by omega)
  go_enter Try.func3, Try.ntmps3
  go_wp2_with fail
  refine (small_calls _).mono ?_
  rintro e w1 ⟨rfl, hb1⟩
  have HB1 := Aside0.mk hb1
  clear hb1
  go_wp2_with fail
  refine (bournelaw29_few.calls k A c l true _ (Kd.C_below HR.out HB1.out) hc HF.out).mono ?_
  rintro e w2 ⟨rfl, hb2⟩
  have HB2 := Aside0.mk (HB1.out.trans (hb2.below.mono HB1.out.size))
  clear hb2 HB1
  have hB2s := HB2.out.size
  by_cases hcn0 : c = n
  case' pos =>
    have hcne := eq_true hcn0
    have hcle := eq_true (show n ≤ c by omega)
    have hnl := eq_true hn
    clear hcne
    obtain rfl : n = c := hcn0.symm
    clear hcn0
    have hcn0 := True.intro
    have hcne := True.intro
    go_wp2
    go_region_law (first
      | (refine step_append_row (R := k29.K w) (by rfl) (.tmp 33) (.tmp 36) 22 rfl w.heap.size 29 _ 5 56 Try.underlying22 info29 rfl (by decide) _ [] (l.drop n) rfl (own_empty _ _ _ w2 _ hB2s) (k29_one w) A 0 0 rfl (src_empty hc) (fun e => rfl) (by simp [maxLen]; omega) (by simp; omega) (by simp; omega) ?_; intro v3 w3 ho3 hg3)
      | (refine step_append_row (R := k29.K w) (by rfl) (.tmp 37) (.tmp 40) 22 rfl w.heap.size 29 _ 5 56 Try.underlying22 info29 rfl (by decide) _ ([] ++ l.drop n) (l.take n) rfl ho3 (k29_one w) A n n rfl (src_take HR.out ((below_drew1 (HB2.out.alloc hB2s _)).grown hg3 (by simp; omega) (fun k hk => by cases hk; exact hB2s)) hn) HCN.out (by simp [maxLen]; omega) (by simp; omega) (Nat.le_trans (by simp; omega) hg3.size) ?_; intro v4 w4 ho4 hg4))
  case' neg =>
    obtain ⟨ad, rfl⟩ : ∃ ad, A = some ad := by
      cases A with
      | none => exact absurd (HCN.out rfl) (by omega)
      | some ad => exact ⟨ad, rfl⟩
    have hcne := eq_false hcn0
    have hcle := eq_true (show n ≤ c by omega)
    have hnl := eq_true hn
    go_wp2
    go_region_law (first
      | (refine step_append_row (R := k29.K w) (by rfl) (.tmp 33) (.tmp 36) 22 rfl w.heap.size 29 _ 5 56 Try.underlying22 info29 rfl (by decide) _ [] (l.drop n) rfl (own_empty _ _ _ w2 _ hB2s) (k29_one w) (some (ad.add (n * 5))) (l.length - n) (c - n) rfl (src_drop HR.out (below_drew1 (HB2.out.alloc hB2s _)) hn hc hcn0) (fun e => by cases e) (by simp [maxLen]; omega) (by simp; omega) (by simp; omega) ?_; intro v3 w3 ho3 hg3)
      | (refine step_append_row (R := k29.K w) (by rfl) (.tmp 37) (.tmp 40) 22 rfl w.heap.size 29 _ 5 56 Try.underlying22 info29 rfl (by decide) _ ([] ++ l.drop n) (l.take n) rfl ho3 (k29_one w) (some ad) n c rfl (src_take HR.out ((below_drew1 (HB2.out.alloc hB2s _)).grown hg3 (by simp; omega) (fun k hk => by cases hk; exact hB2s)) hn) (fun e => by cases e) (by simp [maxLen]; omega) (by simp; omega) (Nat.le_trans (by simp; omega) hg3.size) ?_; intro v4 w4 ho4 hg4))
  all_goals
    obtain ⟨other, hother⟩ : ∃ other, other = [] ++ l.drop n ++ l.take n := ⟨_, rfl⟩
    rw [← hother] at ho4
    have e1 : other = l.drop n ++ l.take n := by rw [hother, List.nil_append]
    have hB3 := (below_drew1 (HB2.out.alloc hB2s (.cells #[] 29))).grown hg3 (by simp; omega) (fun k hk => by cases hk; exact hB2s)
    have HB4 := Aside0.mk (hB3.grown hg4 hB3.size (fun k hk => (OwnRow_base ho3 k hk).1))
    have HO4 := Aside0.mk ho4
    rw [← e1] at H1 H2
    have HOL : Aside0 (other.length = l.length ∧ ∀ x ∈ other, x ∈ l) := ⟨by
      rw [e1]
      refine ⟨by simp; omega, fun x hx => ?_⟩
      rcases List.mem_append.1 hx with hx | hx
      · exact List.mem_of_mem_drop hx
      · exact List.mem_of_mem_take hx⟩
    clear hB3 hg3 hg4 ho3 ho4 e1 hother HB2 hB2s hcne hcle hnl hcn0
    have hol40 : other.length ≤ 40 := by have := HOL.out.1; omega
    obtain ⟨A6, c6, rfl, hle6⟩ := HO4.out.slice_
    obtain ⟨_, _, he6, _, hrd6⟩ := HO4.out.reads
    injection he6 with e61 e62 e63
    subst e61 e63
    have HR6 := Aside0.mk hrd6
    clear hrd6 e62
    go_wp2
    go_loopw [10, 11] (fun v i wr => ∃ j : Nat, j ≤ other.length ∧ i = .int .i64 ((j : Int) - 1) ∧ Aside0 (OwnRow (k29.K w) 29 5 wr w4.heap.size v ((other.drop j).reverse.filter fun x => decide (x.f1 ≤ h))) ∧ Aside0 (Below w4.heap.size w4 wr)) (fun _ i _ => (intOf i + 1).toNat)
    case atStart => exact ⟨other.length, Nat.le_refl _, rfl, ⟨by rw [List.drop_length]; exact OwnRow.none_ _ _ _ _ _⟩, ⟨Below.refl _ _⟩⟩
    case round =>
      obtain ⟨j, hj, rfl, HK, HB⟩ := hrel
      have hBs := HB.out.size
      by_cases hj0 : j = 0
      · subst hj0
        rw [List.drop_zero] at HK
        obtain ⟨known, hkn⟩ : ∃ known, known = other.reverse.filter fun x => decide (x.f1 ≤ h) := ⟨_, rfl⟩
        rw [← hkn] at HK H2
        have HKN : Aside0 (OkN known) := ⟨by
          refine OkN_of HOK.out ?_ (fun x hx => ?_)
          · have := List.length_filter_le (fun x : S29 => decide (x.f1 ≤ h)) other.reverse
            rw [← hkn, List.length_reverse] at this
            omega
          · rw [hkn] at hx
            exact HOL.out.2 x (List.mem_reverse.1 (List.mem_filter.1 hx).1)⟩
        have HOA : Aside0 (OkN (other ++ l)) := ⟨by
          refine OkN_of HOK.out (by rw [List.length_append]; omega) (fun x hx => ?_)
          rcases List.mem_append.1 hx with hx | hx
          · exact HOL.out.2 x hx
          · exact hx⟩
        clear hkn
        obtain ⟨A9, c9, rfl, hle9⟩ := HK.out.slice_
        have HBw := Aside0.mk (HB4.out.trans (HB.out.mono HB4.out.size))
        have hBws := HBw.out.size
        go_wp2_with fail
        refine (Admitted_any w _ _ l h _ HBw.out (C_from HR.out HBw.out) hc HOK.out.1 HOK.out.2 hh).mono ?_
        rintro e w6 ⟨va, rfl, hoa, hb6⟩
        have HOA6 := Aside0.mk hoa
        have HB6 := Aside0.mk (HBw.out.trans (hb6.mono HBw.out.size))
        have HB46 := Aside0.mk (HB.out.trans (hb6.mono HB.out.size))
        have HO6 := Aside0.mk (HO4.out.below HB46.out)
        have HK6 := Aside0.mk (HK.out.below hb6)
        obtain ⟨Aa, ca, rfl, hlea⟩ := hoa.slice_
        have hBs6 := HB6.out.size
        clear hoa hb6 HK
        go_wp2_with (at_builtin; refine wpl_append_row (R := k29.K w) rfl _ _ 22 rfl w.heap.size 29 _ 5 56 Try.underlying22 info29 rfl (by decide) _ other l rfl HO6.out (k29_one w) _ l.length _ rfl (C_from HR.out HB6.out) HCN.out (by simp only [maxLen]; omega) (by omega) hBs6 ?_; intro v7 w7 ho7 hg7; have HO7 := Aside0.mk ho7; have HG7 := Aside0.mk hg7; clear ho7 hg7; obtain ⟨A8, c8, rfl, hle8⟩ := HO7.out.slice_)
        have HB7 := Aside0.mk (HB6.out.grown HG7.out HB6.out.size (fun kk hkk => (OwnRow_base HO6.out kk hkk).1))
        have HA7 := Aside0.mk (HOA6.out.other HG7.out (OwnRow_ne HOA6.out HO6.out (by decide)))
        have HK7 := Aside0.mk (HK6.out.other HG7.out (by
          cases hbk : (Value.slice A9 known.length c9).ownBlock with
          | none => exact .inl rfl
          | some kk =>
            refine .inr (fun e => ?_)
            have h3 := (OwnRow_base HK6.out kk hbk).1
            have h4 := (OwnRow_base HO4.out kk e.symm).2
            omega))
        clear HG7 HO6 HK6 HOA6
        have hadm := Admitted_any w A8 c8 (other ++ l) h w7 HB7.out (by obtain ⟨_, _, he, _, hrd⟩ := HO7.out.reads; injection he with e1 e2 e3; subst e1 e3; exact hrd) hle8 HOA.out.1 HOA.out.2 hh
        rw [List.length_append] at hadm
        refine hadm.mono ?_
        rintro e w8 ⟨vb, rfl, hob, hb8⟩
        have HOB8 := Aside0.mk hob
        have HB8 := Aside0.mk (HB7.out.trans (hb8.mono HB7.out.size))
        have HA8 := Aside0.mk (HA7.out.below hb8)
        have HK8 := Aside0.mk (HK7.out.below hb8)
        obtain ⟨Ab, cb, rfl, hleb⟩ := hob.slice_
        clear hadm hob hb8 HA7 HK7 HB7 HO7
        go_wp2_with fail
        refine (Admitted_any w A9 c9 known h w8 HB8.out (by obtain ⟨_, _, he, _, hrd⟩ := HK8.out.reads; injection he with e1 e2 e3; subst e1 e3; exact hrd) hle9 HKN.out.1 HKN.out.2 hh).mono ?_
        rintro e w9 ⟨vc, rfl, hoc, hb9⟩
        have HB9 := Aside0.mk (HB8.out.trans (hb9.mono HB8.out.size))
        obtain ⟨_, _, hA9, _, hCa⟩ := OwnRow_C (d := k27) (HA8.out.below hb9) HB9.out
        obtain ⟨_, _, hB9, _, hCb⟩ := OwnRow_C (d := k27) (HOB8.out.below hb9) HB9.out
        obtain ⟨Ac, cc, rfl, hlec, hCc⟩ := OwnRow_C (d := k27) hoc HB9.out
        injection hA9 with f1 _ f2
        injection hB9 with f3 _ f4
        subst f1 f2 f3 f4
        have HCa := Aside0.mk hCa
        have HCb := Aside0.mk hCb
        have HCc := Aside0.mk hCc
        clear hoc hb9 hCa hCb hCc HA8 HOB8 HK8 HB8
        go_wp2_with fail
        refine (bourneref29_SameAll.calls k Aa ca (admitted h l) Ab cb (admitted h (other ++ l)) true _ HCa.out hlea HCb.out hleb H1.out).mono ?_
        rintro e w10 ⟨rfl, hb10⟩
        have HB10 := Aside0.mk (HB9.out.trans (hb10.mono HB9.out.size))
        have HCa' := Aside0.mk (Kd.C_below HCa.out hb10)
        have HCc' := Aside0.mk (Kd.C_below HCc.out hb10)
        clear hb10 HCa HCb HCc
        go_wp2_with fail
        refine (bourneref29_SameAll.calls k Aa ca (admitted h l) Ac cc (admitted h known) true _ HCa'.out hlea HCc'.out hlec H2.out).mono ?_
        rintro e w11 ⟨rfl, hb11⟩
        have HB11 := Aside0.mk (HB10.out.trans (hb11.mono HB10.out.size))
        clear hb11
        go_wp2
        go_ret
        exact ⟨rfl, HB11.out⟩
      · obtain ⟨m, rfl⟩ : ∃ m, j = m + 1 := ⟨j - 1, by omega⟩
        rw [show ((m + 1 : Nat) : Int) - 1 = (m : Int) by omega]
        obtain ⟨ad6, A7, c7, hA6, g0, g1, g2, g3, g4, hl7, hC7⟩ := at_R29 HR6.out (m : Int) (by omega) (by omega)
        cases hA6
        replace g0 := (HB.out.cell (World.block_lt_of_cell? w4 _ g0)).trans g0
        replace g1 := (HB.out.cell (World.block_lt_of_cell? w4 _ g1)).trans g1
        replace g2 := (HB.out.cell (World.block_lt_of_cell? w4 _ g2)).trans g2
        replace g3 := (HB.out.cell (World.block_lt_of_cell? w4 _ g3)).trans g3
        replace g4 := (HB.out.cell (World.block_lt_of_cell? w4 _ g4)).trans g4
        rw [Int.toNat_natCast] at g0 g1 g2 g3 g4
        have HST := Aside0.mk (known_step other m (by omega) (fun x => decide (x.f1 ≤ h)))
        obtain ⟨x, hx⟩ : ∃ x, x = rd_T29 other m := ⟨_, rfl⟩
        rw [← hx] at g0 g1 g2 g3 g4 hl7 hC7 HST
        clear hx
        have HC7 := Aside0.mk hC7
        clear hC7
        have hkl := known_le other (m + 1) (fun x => decide (x.f1 ≤ h))
        by_cases hk1 : x.f1 ≤ h
        · have hd4 : decide (x.f1 ≤ h) = true := decide_eq_true hk1
          have HD := Aside0.mk hd4
          clear hk1
          go_wp2_with (at_builtin; refine wpl_append_row (R := k29.K w) rfl _ _ 22 rfl w4.heap.size 29 _ 5 56 Try.underlying22 info29 rfl (by decide) _ _ [x] rfl (HK.out.below ((Below.refl _ _).alloc (Nat.le_refl _) _)) (k29_one w) (some ⟨wr.heap.size, 0, none⟩) 1 1 rfl ?c1 (fun e => by cases e) ?c3 ?c4 ?c5 ?_)
          case c1 => exact lit29 w wr x A7 c7 hl7 HC7.out
          case c3 => simp only [maxLen, List.length_cons, List.length_nil]; omega
          case c4 => simp only [List.length_cons, List.length_nil]; omega
          case c5 => simp; omega
          intro v' w' ho' hg'
          have HO' := Aside0.mk ho'
          have HBn := Aside0.mk ((HB.out.alloc hBs (.cells #[.int .i64 x.f0, .int .i64 x.f1, .int .i64 x.f2.f0, .int .i64 x.f2.f1, .slice A7 x.f2.f2.length c7] 29)).grown hg' (by simp; omega) (fun kk hkk => (OwnRow_base HK.out kk hkk).1))
          clear ho' hg'
          go_wp2
          go_roundw
          case rel => exact ⟨m, by omega, rfl, ⟨by rw [HST.out, HD.out, if_pos rfl, List.filter_reverse]; exact HO'.out⟩, HBn⟩
          case measure => first | (simp [intOf]; done) | (simp [intOf]; omega)
        · have hd4 : decide (x.f1 ≤ h) = false := decide_eq_false hk1
          have HD := Aside0.mk hd4
          clear hk1
          go_wp2
          go_roundw
          case rel => exact ⟨m, by omega, rfl, ⟨by rw [HST.out, HD.out]; simpa using HK.out⟩, HB⟩
          case measure => first | (simp [intOf]; done) | (simp [intOf]; omega)
set_option maxHeartbeats 4000000 in
set_option maxRecDepth 100000 in
theorem Replays_few (A : Option Addr) (c : Nat) (l : List S29) (n h : Int) (w : World) (hr : Kd.C k29 w A l.length l) (hc : l.length ≤ c) (hf : fewB l = false) :
    Calls Try.prog 3 #[.slice A l.length c, .int .i64 n, .int .i64 h] w fun e w' => e = .returned (.bool true) ∧ Below w.heap.size w w' := by
  have HR := Aside0.mk hr
  have HF := Aside0.mk (few_eq l 2001 (by omega))
  rw [hf] at HF
  clear hr hf
  go_enter Try.func3, Try.ntmps3
  go_wp2_with fail
  refine (small_calls _).mono ?_
  rintro e w1 ⟨rfl, hb1⟩
  have HB1 := Aside0.mk hb1
  clear hb1
  go_wp2_with fail
  refine (bournelaw29_few.calls 2001 A c l false _ (Kd.C_below HR.out HB1.out) hc HF.out).mono ?_
  rintro e w2 ⟨rfl, hb2⟩
  have HB2 := Aside0.mk (HB1.out.trans (hb2.below.mono HB1.out.size))
  clear hb2 HB1
  go_wp2
  go_ret
  exact ⟨rfl, HB2.out⟩
set_option maxHeartbeats 4000000 in
set_option maxRecDepth 100000 in
theorem Replays_out (A : Option Addr) (c : Nat) (l : List S29) (n h : Int) (w : World) (hr : Kd.C k29 w A l.length l) (hc : l.length ≤ c) (hf : fewB l = true) (hn : n < 0 ∨ (l.length : Int) < n) :
    Calls Try.prog 3 #[.slice A l.length c, .int .i64 n, .int .i64 h] w fun e w' => e = .returned (.bool true) ∧ Below w.heap.size w w' := by
  have HR := Aside0.mk hr
  have HF := Aside0.mk (few_eq l 2001 (by omega))
  rw [hf] at HF
  clear hr hf
  by_cases h0 : n < 0
  · have hd1 : decide (n < 0) = true := decide_eq_true h0
    clear hn h0
    go_enter Try.func3, Try.ntmps3
    go_wp2_with fail
    refine (small_calls _).mono ?_
    rintro e w1 ⟨rfl, hb1⟩
    have HB1 := Aside0.mk hb1
    clear hb1
    go_wp2_with fail
    refine (bournelaw29_few.calls 2001 A c l true _ (Kd.C_below HR.out HB1.out) hc HF.out).mono ?_
    rintro e w2 ⟨rfl, hb2⟩
    have HB2 := Aside0.mk (HB1.out.trans (hb2.below.mono HB1.out.size))
    clear hb2 HB1
    go_wp2
    go_ret
    exact ⟨rfl, HB2.out⟩
  · have hd1 : decide (n < 0) = false := decide_eq_false h0
    have hd2 : decide ((l.length : Int) < n) = true := decide_eq_true (by omega)
    clear hn h0
    go_enter Try.func3, Try.ntmps3
    go_wp2_with fail
    refine (small_calls _).mono ?_
    rintro e w1 ⟨rfl, hb1⟩
    have HB1 := Aside0.mk hb1
    clear hb1
    go_wp2_with fail
    refine (bournelaw29_few.calls 2001 A c l true _ (Kd.C_below HR.out HB1.out) hc HF.out).mono ?_
    rintro e w2 ⟨rfl, hb2⟩
    have HB2 := Aside0.mk (HB1.out.trans (hb2.below.mono HB1.out.size))
    clear hb2 HB1
    go_wp2
    go_ret
    exact ⟨rfl, HB2.out⟩
theorem Replays_calls (A : Option Addr) (c : Nat) (l : List S29) (n h : Int) (w : World) (hr : Kd.C k29 w A l.length l) (hc : l.length ≤ c) (hcn : A = none → c = 0) (hw : ∀ x ∈ l, WfN x) (hh : IsI h) :
    Calls Try.prog 3 #[.slice A l.length c, .int .i64 n, .int .i64 h] w fun e w' => e = .returned (.bool true) ∧ Below w.heap.size w w' := by
  cases hf : fewB l with
  | false => exact Replays_few A c l n h w hr hc hf
  | true =>
    by_cases hn : n < 0 ∨ (l.length : Int) < n
    · exact Replays_out A c l n h w hr hc hf hn
    · obtain ⟨m, rfl⟩ : ∃ m : Nat, n = m := ⟨n.toNat, by omega⟩
      obtain ⟨hok, hl⟩ := fewB_ok hf hw
      have ha := admitted_ok h l hok.2
      have hmem : ∀ x, x ∈ l.drop m ++ l.take m ↔ x ∈ l := fun x => by
        rw [List.mem_append]
        constructor
        · rintro (hx | hx)
          · exact List.mem_of_mem_drop hx
          · exact List.mem_of_mem_take hx
        · intro hx
          rw [← List.take_append_drop m l, List.mem_append] at hx
          exact hx.symm
      have e1 : admitted h ((l.drop m ++ l.take m) ++ l) = admitted h l := by
        refine admitted_congr h _ _ (fun x hx => ?_) hok.2 (fun x _ => ?_)
        · rcases List.mem_append.1 hx with hx | hx
          · exact hok.2 x ((hmem x).1 hx)
          · exact hok.2 x hx
        · rw [List.mem_append, hmem]; simp
      have e2 : admitted h ((l.drop m ++ l.take m).reverse.filter fun x => decide (x.f1 ≤ h)) = admitted h l := by
        refine admitted_congr h _ _ (fun x hx => ?_) hok.2 (fun x hx => ?_)
        · exact hok.2 x ((hmem x).1 (List.mem_reverse.1 (List.mem_filter.1 hx).1))
        · rw [List.mem_filter, List.mem_reverse, hmem]
          unfold adm at hx
          have := of_decide_eq_true hx
          simp [this.1]
      have hs := SameAll_same (admitted h l) (by omega) ha.2 1400000 (by omega)
      exact Replays_in A c l m h w hr hc hcn hok hl hh (by omega) 1400000 (by rw [few_eq l _ (by omega), hf]) (by rw [e1]; exact hs) (by rw [e2]; exact hs)
end Go.Proofs.Ytehieahpocbboaa.G
