import Derived.Test.YtehieahpocbboaaST5
import Derived.Test.YtehieahpocbboaaST6
import Derived.Test.YtehieahpocbboaaHR
import Derived.Lib.SliceRun
/-
  cast.Order: slices.Clone and slices.SortStableFunc, at most 40 news.
-/
namespace Go.Proofs.Ytehieahpocbboaa.G
open Go.RowKit Go.Proofs.YtehieahpocbboaaW.PrintWords Go.Proofs.YtehieahpocbboaaW.PrintLast Go.Proofs.YtehieahpocbboaaW.PrintMore
set_option linter.unusedVariables false
set_option linter.unusedSimpArgs false

theorem cmp_less : ∀ a b : List UInt8, Lib.compareBytes a b < 0 ↔ Op.bytesLess a b = true
  | [], [] => by simp [Lib.compareBytes, Op.bytesLess]
  | [], _ :: _ => by simp [Lib.compareBytes, Op.bytesLess]
  | _ :: _, [] => by simp [Lib.compareBytes, Op.bytesLess]
  | a :: x, b :: y => by
    simp only [Lib.compareBytes, Op.bytesLess, Bool.or_eq_true, decide_eq_true_eq, Bool.and_eq_true, beq_iff_eq]
    by_cases h1 : a < b
    · simp [h1]
    · rw [if_neg h1]
      by_cases h2 : b < a
      · rw [if_pos h2]
        constructor
        · intro h; omega
        · rintro (h | ⟨rfl, _⟩)
          · exact absurd h h1
          · exact absurd h2 h1
      · rw [if_neg h2]
        have e : a = b := by
          by_cases e : a = b
          · exact e
          · rcases UInt8.lt_or_lt_of_ne e with h | h
            · exact absurd h h1
            · exact absurd h h2
        subst e
        rw [cmp_less x y]
        simp [h1]

/-- A news whose rain lies in the world w0. -/
structure NV (w0 : World) where
  n : S29
  A : Option Addr
  c : Nat
  hc : n.f2.f2.length ≤ c
  hC : Kd.C (Kd.slice 54 k54) w0 A n.f2.f2.length n.f2.f2
  hN : IsN n
def encV {w0 : World} (x : NV w0) : List Value := [.int .i64 x.n.f0, .int .i64 x.n.f1, .int .i64 x.n.f2.f0, .int .i64 x.n.f2.f1, .slice x.A x.n.f2.f2.length x.c]
def cfV {w0 : World} (x y : NV w0) : Int := Lib.compareBytes (bytesN x.n) (bytesN y.n)
theorem encV_len {w0 : World} (x : NV w0) : (encV x).length = 5 := rfl
theorem encV_one {w0 : World} (x : NV w0) : ∀ v ∈ encV x, v.oneCell' = true := by
  intro v hv
  simp only [encV, List.mem_cons, List.not_mem_nil, or_false] at hv
  rcases hv with rfl | rfl | rfl | rfl | rfl <;> rfl
theorem encV_K {w0 : World} (x : NV w0) : k29.K w0 x.n (encV x) := k29_mk w0 x.n x.hc x.hC
theorem swoV {w0 : World} : Go.Sort.SWO (ltOf (cfV (w0 := w0))) where
  irrefl := fun x => by unfold ltOf cfV; rw [decide_eq_false_iff_not, cmp_less, less_irr]; simp
  trans := fun x y z h1 h2 => by
    unfold ltOf cfV at *
    rw [decide_eq_true_eq, cmp_less] at *
    exact less_trans _ _ _ h1 h2
  ntrans := fun x y z h1 h2 => by
    unfold ltOf cfV at *
    rw [decide_eq_false_iff_not, cmp_less] at *
    intro h3
    rcases less_tri (bytesN x.n) (bytesN y.n) with h | h | h
    · exact h1 h
    · rw [h] at h3; exact h2 h3
    · exact h2 (less_trans _ _ _ h h3)

/-- The comparison. -/
theorem cmp44 (w0 W : World) (hb0 : Below w0.heap.size w0 W) (x y : NV w0) :
    Calls Try.prog 44 #[.agg (encV x).toArray, .agg (encV y).toArray] W fun e w' => e = .returned (.int .i64 (cfV x y)) ∧ Below W.heap.size W w' := by
  obtain ⟨n, A4, c4, hl4, hC4, hN⟩ := x
  obtain ⟨old, A5, c5, hl5, hC5, hN5⟩ := y
  show Calls Try.prog 44 #[.agg #[.int .i64 n.f0, .int .i64 n.f1, .int .i64 n.f2.f0, .int .i64 n.f2.f1, .slice A4 n.f2.f2.length c4], .agg #[.int .i64 old.f0, .int .i64 old.f1, .int .i64 old.f2.f0, .int .i64 old.f2.f1, .slice A5 old.f2.f2.length c5]] W fun e w' => e = .returned (.int .i64 (Lib.compareBytes (bytesN n) (bytesN old))) ∧ Below W.heap.size W w'
  have hu29 := Try.underlying29
  have HC4 := Aside0.mk hC4
  have HC5 := Aside0.mk hC5
  have HN1 := Aside0.mk hN
  have HNo := Aside0.mk hN5
  have HW0 := Aside0.mk hb0
  clear hC4 hC5 hN hN5 hb0
  obtain ⟨W1, hW1⟩ : ∃ W1 : World, W1 = (W.alloc (.cells #[.int .i64 n.f0, .int .i64 n.f1, .int .i64 n.f2.f0, .int .i64 n.f2.f1, .slice A4 n.f2.f2.length c4] 29)).alloc (.cells #[.int .i64 old.f0, .int .i64 old.f1, .int .i64 old.f2.f0, .int .i64 old.f2.f1, .slice A5 old.f2.f2.length c5] 29) := ⟨_, rfl⟩
  have hT0 : Below W1.heap.size W1 W1 ∧ W1.cell? ⟨W.heap.size, 0, none⟩ = some (.int .i64 n.f0) ∧ W1.cell? ⟨W.heap.size, 1, none⟩ = some (.int .i64 n.f1) ∧ W1.cell? ⟨W.heap.size, 2, none⟩ = some (.int .i64 n.f2.f0) ∧ W1.cell? ⟨W.heap.size, 3, none⟩ = some (.int .i64 n.f2.f1) ∧ W1.cell? ⟨W.heap.size, 4, none⟩ = some (.slice A4 n.f2.f2.length c4) ∧ W1.cell? ⟨W.heap.size + 1, 0, none⟩ = some (.int .i64 old.f0) ∧ W1.cell? ⟨W.heap.size + 1, 1, none⟩ = some (.int .i64 old.f1) ∧ W1.cell? ⟨W.heap.size + 1, 2, none⟩ = some (.int .i64 old.f2.f0) ∧ W1.cell? ⟨W.heap.size + 1, 3, none⟩ = some (.int .i64 old.f2.f1) ∧ W1.cell? ⟨W.heap.size + 1, 4, none⟩ = some (.slice A5 old.f2.f2.length c5) := by
    rw [hW1]
    refine ⟨Below.refl _ _, ?_, ?_, ?_, ?_, ?_, ?_, ?_, ?_, ?_, ?_⟩ <;> simp [go_sem]
  have HB1 : Aside0 (Below W.heap.size W W1) := ⟨by rw [hW1]; exact ((Below.refl _ _).alloc (Nat.le_refl _) _).alloc (by simp) _⟩
  have HT0 := Aside0.mk hT0
  have HW1 := Aside0.mk hW1
  clear hW1 hT0
  go_enter Try.func44, Try.ntmps44
  go_upto_region 1 with fail
  rw [← HW1.out]
  go_region_held3 (fun w' => Below W1.heap.size W1 w' ∧ w'.cell? ⟨W.heap.size, 0, none⟩ = some (.int .i64 n.f0) ∧ w'.cell? ⟨W.heap.size, 1, none⟩ = some (.int .i64 n.f1) ∧ w'.cell? ⟨W.heap.size, 2, none⟩ = some (.int .i64 n.f2.f0) ∧ w'.cell? ⟨W.heap.size, 3, none⟩ = some (.int .i64 n.f2.f1) ∧ w'.cell? ⟨W.heap.size, 4, none⟩ = some (.slice A4 n.f2.f2.length c4) ∧ w'.cell? ⟨W.heap.size + 1, 0, none⟩ = some (.int .i64 old.f0) ∧ w'.cell? ⟨W.heap.size + 1, 1, none⟩ = some (.int .i64 old.f1) ∧ w'.cell? ⟨W.heap.size + 1, 2, none⟩ = some (.int .i64 old.f2.f0) ∧ w'.cell? ⟨W.heap.size + 1, 3, none⟩ = some (.int .i64 old.f2.f1) ∧ w'.cell? ⟨W.heap.size + 1, 4, none⟩ = some (.slice A5 old.f2.f2.length c5)) (first | assumption | exact twoStep (below_drew1 (Below.refl _ _)) HT0.out | exact twoStep hb (by assumption))
    (first | (go_at_call 45; (with_reducible refine (Try.strings_Compare _ _ _).mono ?_); rintro e w' ⟨rfl, rfl⟩) | (go_at_call 14; (with_reducible refine (BytesN old A5 c5 w0 _ (below_then HW0.out HW0.out.size (twoBelow HB1.out (by assumption))) hl5 HC5.out HNo.out).mono ?_); rintro e w' ⟨rfl, hb⟩) | (go_at_call 14; (with_reducible refine (BytesN n A4 c4 w0 _ (below_then HW0.out HW0.out.size (twoBelow HB1.out (by assumption))) hl4 HC4.out HN1.out).mono ?_); rintro e w' ⟨rfl, hb⟩))
  all_goals
    rename_i hHeld
    obtain ⟨hbS, _, _, _, _, _, _, _, _, _, _⟩ := hHeld
    have HBS := Aside0.mk (HB1.out.trans (hbS.mono HB1.out.size))
    clear hbS
    go_wp2
    go_ret
    exact ⟨by simp, HBS.out⟩

theorem reps_NV {w0 : World} : ∀ (l : List S29) (inner : List Value), Reps (k29.K w0) 5 l inner → (∀ n ∈ l, IsN n) → ∃ xs : List (NV w0), xs.map (·.n) = l ∧ xs.flatMap encV = inner
  | [], inner, h, _ => ⟨[], rfl, by
      have := h.1
      simp at this
      rw [this]; rfl⟩
  | p :: l, inner, h, hn => by
    have h0 := h.2 0 p rfl
    rw [Nat.zero_mul, List.drop_zero] at h0
    have ht : Reps (k29.K w0) 5 l (inner.drop 5) := by
      refine ⟨by rw [List.length_drop, h.1, List.length_cons]; omega, fun j q hq => ?_⟩
      have := h.2 (j + 1) q (by simpa using hq)
      rw [List.drop_drop, show 5 + j * 5 = (j + 1) * 5 by omega]
      exact this
    obtain ⟨xs, h1, h2⟩ := reps_NV l (inner.drop 5) ht (fun n h => hn n (List.mem_cons_of_mem _ h))
    obtain ⟨A, c, he, hc, hC⟩ := k29_open h0
    refine ⟨⟨p, A, c, hc, hC, hn p (List.mem_cons_self ..)⟩ :: xs, by rw [List.map_cons, h1], ?_⟩
    rw [List.flatMap_cons, h2]
    show [_, _, _, _, _] ++ _ = inner
    rw [← he, List.take_append_drop]
theorem reps_of {w0 : World} (xs : List (NV w0)) : Reps (k29.K w0) 5 (xs.map (·.n)) (xs.flatMap encV) := by
  refine snocInd (P := fun xs => Reps (k29.K w0) 5 (xs.map (·.n)) (xs.flatMap encV)) (Reps.none _ _) (fun l a h => ?_) xs
  rw [List.map_append, List.flatMap_append]
  have := Reps.snoc h (encV_K a) (encV_len a)
  simpa using this

theorem stl : ST.StL Try.prog 5 where
  mixed := by kernel_rfl
  f54 := Try.func54
  f70 := Try.func70
  f71 := Try.func71
  f79 := Try.func79
  f81 := Try.func81
  t0 := Try.underlying0
  a0 := Try.isAgg0
  z0 := Try.sizeOf0
  v0 := Try.zeroValue0
  t3 := Try.underlying3
  a3 := Try.isAgg3
  z3 := Try.sizeOf3
  v3 := Try.zeroValue3
  t4 := Try.underlying4
  a4 := Try.isAgg4
  z4 := Try.sizeOf4
  v4 := Try.zeroValue4
  t22 := Try.underlying22
  a22 := Try.isAgg22
  z22 := Try.sizeOf22
  v22 := Try.zeroValue22
  t87 := Try.underlying87
  a87 := Try.isAgg87
  z87 := Try.sizeOf87
  v87 := Try.zeroValue87
  t82 := Try.underlying82
  a82 := Try.isAgg82
  z82 := Try.sizeOf82
  v82 := Try.zeroValue82
  aE := Try.isAgg29
  zE := Try.sizeOf29

theorem eql_none (w : World) (A : Option Addr) (n c : Nat) : (binOp .eql 22 (.slice A n c) (.slice none 0 0)).run Try.prog w = .ok (.bool A.isNone) w := Lib.run_eql_slice_nil w 22 29 A n c 0 0 Try.underlying22
set_option maxRecDepth 100000 in
set_option maxHeartbeats 4000000 in
theorem clone42 (w0 : World) (A : Option Addr) (c : Nat) (l : List S29) (w : World) (hw0 : Below w0.heap.size w0 w) (hr : ReadsRow (k29.K w0) 5 w A l.length l) (hc : l.length ≤ c) (hcn : A = none → c = 0) (hl : l.length ≤ 1000) :
    Calls Try.prog 42 #[.slice A l.length c] w fun e w' => ∃ v, e = .returned v ∧ OwnRow (k29.K w0) 29 5 w' w.heap.size v l ∧ Below w.heap.size w w' := by
  cases A with
  | none =>
    obtain rfl : c = 0 := hcn rfl
    obtain rfl : l = [] := List.eq_nil_of_length_eq_zero (by omega)
    have hq : ∀ w' : World, (binOp .eql 22 (.slice none 0 0) (.slice none 0 0)).run Try.prog w' = .ok (.bool true) w' := fun w' => eql_none w' none 0 0
    clear hcn
    go_enter Try.func42, Try.ntmps42
    go_wp2
    go_ret
    exact ⟨_, rfl, OwnRow.none_ _ _ _ _ _, Below.refl _ _⟩
  | some ad =>
    have hq : ∀ w' : World, (binOp .eql 22 (.slice (some ad) l.length c) (.slice none 0 0)).run Try.prog w' = .ok (.bool false) w' := fun w' => eql_none w' (some ad) l.length c
    have HR := Aside0.mk hr
    clear hr
    go_enter Try.func42, Try.ntmps42
    go_wp2_with (at_builtin; refine wpl_append_row (R := k29.K w0) rfl _ _ 22 rfl w.heap.size 29 _ 5 56 Try.underlying22 info29 rfl (by decide) _ [] l rfl (own_empty _ _ _ w _ (Nat.le_refl _)) (k29_one w0) (some ad) l.length c rfl (ReadsRow.imp_ HR.out ((Below.refl _ _).alloc (Nat.le_refl _) _) (fun _ _ hp => hp)) (fun e => by cases e) (by simp only [maxLen, List.length_nil]; omega) (by simp only [List.length_nil]; omega) (by simp) ?_; intro v2 w2 ho2 hg2)
    have HO2 := Aside0.mk ho2
    have HB2 := Aside0.mk (((Below.refl w.heap.size w).alloc (Nat.le_refl _) _).grown hg2 (by simp) (fun k hk => by cases hk; exact Nat.le_refl _))
    clear ho2 hg2
    go_wp2
    go_ret
    exact ⟨_, rfl, HO2.out, HB2.out⟩

set_option maxRecDepth 100000 in
theorem ins_none (A : Option Addr) (c : Nat) (W : World) : Calls Try.prog 70 #[.slice A 0 c, .int .i64 0, .int .i64 0, .func (.func 44) #[] #[]] W fun e w' => e = .returned (.tuple #[]) ∧ w' = W := by
  go_enter Try.func70, Try.ntmps70
  go_wp2
  refine wp_loop_rounds 1 ?_
  rw [rounds_succ]
  go_wp2
  go_end0
  exact ⟨rfl, rfl⟩
set_option maxRecDepth 100000 in
theorem stable_none (A : Option Addr) (c : Nat) (W : World) : Calls Try.prog 54 #[.slice A 0 c, .int .i64 0, .func (.func 44) #[] #[]] W fun e w' => e = .returned (.tuple #[]) ∧ w' = W := by
  go_enter Try.func54, Try.ntmps54
  go_wp2
  refine wp_loop_rounds 1 ?_
  rw [rounds_succ]
  go_wp2_with (go_at_call 70; refine (ins_none A c _).mono ?_; rintro e w1 ⟨rfl, rfl⟩)
  refine wp_loop_rounds 1 ?_
  rw [rounds_succ]
  go_wp2
  go_end0
  exact ⟨rfl, rfl⟩
theorem sort_none (A : Option Addr) (c : Nat) (W : World) : Calls Try.prog 43 #[.slice A 0 c, .func (.func 44) #[] #[]] W fun e w' => e = .returned (.tuple #[]) ∧ w' = W := by
  go_enter Try.func43, Try.ntmps43
  go_wp2_with (go_at_call 54; refine (stable_none A c _).mono ?_; rintro e w1 ⟨rfl, rfl⟩)
  go_end0
  exact ⟨rfl, rfl⟩

/-- slices.SortStableFunc at a row of the call's own, its elements' rains in an elder world. -/
theorem sort43 (w0 W : World) (base : Nat) (v : Value) (l : List S29) (ho : OwnRow (k29.K w0) 29 5 W base v l) (hb0 : Below w0.heap.size w0 W) (hbase : w0.heap.size ≤ base) (hl : l.length ≤ 40) (hn : ∀ n ∈ l, IsN n) :
    Calls Try.prog 43 #[v, .func (.func 44) #[] #[]] W fun e w' => e = .returned (.tuple #[]) ∧ ∃ r : List S29, r.Perm l ∧ r.Pairwise (fun a b => leB (bytesN a) (bytesN b) = true) ∧ OwnRow (k29.K w0) 29 5 w' base v r ∧ W.grownBy w' v.ownBlock := by
  obtain ⟨inner, hown, hreps⟩ := ho
  by_cases hl0 : l = []
  · subst hl0
    obtain ⟨A, c, rfl⟩ : ∃ A c, v = .slice A 0 c := by
      rcases hown.2 with ⟨rfl, _⟩ | ⟨g, cap, cur, rfl, _⟩
      · exact ⟨_, _, rfl⟩
      · exact ⟨_, _, rfl⟩
    refine (sort_none A c W).mono ?_
    rintro e w' ⟨rfl, rfl⟩
    exact ⟨rfl, [], List.Perm.refl _, List.Pairwise.nil, ⟨inner, hown, hreps⟩, grown_of_below (Below.refl _ _) _⟩
  · have hpos : 0 < l.length := List.length_pos_iff.2 hl0
    obtain ⟨xs, hx1, hx2⟩ := reps_NV l inner hreps hn
    have hxl : xs.length = l.length := by rw [← hx1, List.length_map]
    rcases hown.2 with ⟨_, h0⟩ | ⟨g, cap, cur, rfl, hg, hb, hncap, hcapm, hcs, ht⟩
    · omega
    obtain ⟨x0, xs', hxs⟩ := List.exists_cons_of_ne_nil (show xs ≠ [] by rintro rfl; simp at hxl; omega)
    haveI : Inhabited (NV w0) := ⟨x0⟩
    have hsz : xs.toArray.size = l.length := by simpa using hxl
    have hH : Go.Sort.HoldsK encV 5 W g 0 xs.toArray := ST.holds_own encV_len hb xs.toArray (by rw [hsz, ht, ← hx2])
    have hlt : g < W.heap.size := by
      rcases Nat.lt_or_ge g W.heap.size with h' | h'
      · exact h'
      · rw [Array.getElem?_eq_none h'] at hb; cases hb
    have R : RowK (α := NV w0) encV 5 W g 0 xs.toArray := ⟨encV_len, encV_one, hH, hlt⟩
    have hcmp : ST.CmpB (α := NV w0) Try.prog 44 #[] encV 5 cfV g 0 xs.toArray.size W := by
      intro W' dk hs S x y
      have hbW : Below w0.heap.size w0 W' := hb0.grown S.grownBy hb0.size (fun k hk => by injection hk with hk; omega)
      rw [Array.append_empty]
      exact (cmp44 w0 W' hbW x y).mono fun e w' h => ⟨h.1, ST.grow_of_below h.2⟩
    have hc := ST.stable (α := NV w0) 5 stl encV cfV 44 #[] g 0 cap xs.toArray W (enters_of Try.func44 (by kernel_rfl) rfl) hcmp swoV R (by omega)
    rw [hsz] at hc
    have hfin : ∀ (d' : Array (NV w0)) (w' : World), ST.SB encV 5 W g 0 d' w' → Go.Sort.PermIn 0 l.length xs.toArray d' → Go.Sort.SortedIn (ltOf cfV) 0 l.length d' → ∃ r : List S29, r.Perm l ∧ r.Pairwise (fun a b => leB (bytesN a) (bytesN b) = true) ∧ OwnRow (k29.K w0) 29 5 w' base (.slice (some ⟨g, 0, none⟩) l.length cap) r ∧ W.grownBy w' (Value.slice (some ⟨g, 0, none⟩) l.length cap).ownBlock := fun d' w' S hP hS => by
      have hds : d'.size = l.length := by rw [hP.1, hsz]
      obtain ⟨cur', hb', hcs', ht'⟩ := S.block hb (by rw [hds, hcs]; exact Nat.mul_le_mul_right _ hncap)
      refine ⟨d'.toList.map (·.n), ?_, ?_, ⟨d'.toList.flatMap encV, ⟨?_, .inr ⟨g, cap, cur', ?_, hg, hb', ?_, hcapm, by rw [hcs', hcs], ?_⟩⟩, reps_of d'.toList⟩, S.grownBy⟩
      · rw [← hx1]
        have h2 := hP.2.2
        have e1 : d'.extract 0 l.length = d' := by rw [← hds]; simp
        have e2 : xs.toArray.extract 0 l.length = xs.toArray := by rw [← hsz]; simp
        rw [e1, e2] at h2
        exact h2.map _
      · rw [List.pairwise_map, List.pairwise_iff_getElem]
        intro i j hi hj hij
        rw [Array.length_toList] at hi hj
        have h3 := hS i j (Nat.zero_le _) hij (by omega)
        rw [getElem!_pos d' i hi, getElem!_pos d' j hj] at h3
        unfold ltOf cfV at h3
        rw [decide_eq_false_iff_not, cmp_less] at h3
        rw [Array.getElem_toList, Array.getElem_toList, leB_iff]
        rcases less_tri (bytesN d'[i].n) (bytesN d'[j].n) with h | h | h
        · exact .inl h
        · exact .inr h
        · exact absurd h h3
      · rw [ST.flat_length encV_len]; simp
      · simp [hds]
      · simp [hds]; exact hncap
      · rw [List.length_map, Array.length_toList, ht', ST.flatK_flat encV_len]
    have HF := Aside0.mk hfin
    clear hfin hcmp R hH hreps hx2 hn
    go_enter Try.func43, Try.ntmps43
    go_wp2_with (go_at_call 54; refine hc.mono ?_; rintro e w1 ⟨rfl, d', hS, hP, hQ⟩)
    go_end0
    exact ⟨rfl, HF.out d' w1 hS hP hQ⟩

/-- cast.Order, the rains read in an elder world: a row of the call's own that holds the news, sorted by their bytes. -/
theorem Order_any (w0 : World) (A : Option Addr) (c : Nat) (l : List S29) (w : World) (hw0 : Below w0.heap.size w0 w) (hr : ReadsRow (k29.K w0) 5 w A l.length l) (hc : l.length ≤ c) (hcn : A = none → c = 0) (hl : l.length ≤ 40) (hn : ∀ n ∈ l, IsN n) :
    Calls Try.prog 22 #[.slice A l.length c] w fun e w' => ∃ v r, e = .returned v ∧ r.Perm l ∧ r.Pairwise (fun a b => leB (bytesN a) (bytesN b) = true) ∧ OwnRow (k29.K w0) 29 5 w' w.heap.size v r ∧ Below w.heap.size w w' := by
  have hcl := clone42 w0 A c l w hw0 hr hc hcn (by omega)
  have HN := Aside0.mk hn
  have HW := Aside0.mk hw0
  clear hr hcn hn hw0
  go_enter Try.func22, Try.ntmps22
  go_wp2_with (first | (go_at_call 42; refine hcl.mono ?_; rintro e w1 ⟨v, rfl, ho, hb⟩; have hs := sort43 w0 w1 w.heap.size v l ho (HW.out.trans (hb.mono HW.out.size)) HW.out.size hl HN.out; have HB := Aside0.mk hb; clear ho hb hcl) | (go_at_call 43; refine hs.mono ?_; rintro e w2 ⟨rfl, r, hp, hq, ho2, hg⟩))
  go_ret
  exact ⟨_, r, rfl, hp, hq, ho2, HB.out.grown hg HB.out.size (fun k hk => (OwnRow_base ho2 k hk).1)⟩
end Go.Proofs.Ytehieahpocbboaa.G
