/-
  Several texts in one: HAs, HAside.
-/
import Derived.Test.YtehieahpocbboaaHR
/-
  CastAside, the plain side: one more news about an Id of its own.
-/
namespace Go.Proofs.Ytehieahpocbboaa.G
open Go.RowKit Go.Proofs.YtehieahpocbboaaW.PrintWords Go.Proofs.YtehieahpocbboaaW.PrintLast Go.Proofs.YtehieahpocbboaaW.PrintMore
set_option linter.unusedVariables false
set_option linter.unusedSimpArgs false

theorem insId_length (x : Int) : ∀ l, (insId x l).length ≤ l.length + 1
  | [] => by simp [insId]
  | y :: r => by
    have := insId_length x r
    unfold insId
    split
    · simp
    · split
      · simp
      · simp only [List.length_cons]; omega
theorem keysA_length : ∀ l : List S29, (keysA l).length ≤ l.length
  | [] => by simp [keysA]
  | a :: l => by
    have e : keysA (a :: l) = insId a.f2.f0 (keysA l) := rfl
    have h1 := insId_length a.f2.f0 (keysA l)
    have h2 := keysA_length l
    rw [e]; simp only [List.length_cons]; omega
theorem idsA_length (h : Int) (l : List S29) : (idsA h l).length ≤ l.length := Nat.le_trans (List.length_filter_le _ _) (keysA_length l)
theorem castsOf_id (h : Int) (l : List S29) (ids : List Int) : ∀ c ∈ castsOf (lastM h l) ids, c.f0 ∈ ids := by
  intro c hc
  unfold castsOf at hc
  rw [List.mem_filterMap] at hc
  obtain ⟨x, hx, hm⟩ := hc
  rw [Option.map_eq_some_iff] at hm
  obtain ⟨n, hn, rfl⟩ := hm
  rw [(lastM_from h l x n hn).2.1]
  exact hx
theorem castsOf_full (M : Int → Option S29) : ∀ (ids : List Int), (∀ x ∈ ids, (M x).isSome = true) → (castsOf M ids).length = ids.length
  | [], _ => rfl
  | x :: ids, h => by
    have h1 := h x List.mem_cons_self
    have h2 := castsOf_full M ids (fun y hy => h y (List.mem_cons_of_mem _ hy))
    obtain ⟨n, hn⟩ := Option.isSome_iff_exists.1 h1
    unfold castsOf at *
    rw [List.filterMap_cons, hn]
    simp [h2]
theorem castsOf_congr (M M' : Int → Option S29) : ∀ (ids : List Int), (∀ x ∈ ids, M' x = M x) → castsOf M' ids = castsOf M ids
  | [], _ => rfl
  | x :: ids, h => by
    have h1 := h x List.mem_cons_self
    have h2 := castsOf_congr M M' ids (fun y hy => h y (List.mem_cons_of_mem _ hy))
    unfold castsOf at *
    rw [List.filterMap_cons, List.filterMap_cons, h1, h2]
/-- What counts: it's admitted that hour, and is no withdrawal. -/
def counts (h : Int) (n : S29) : Bool := decide (n.f1 ≤ h ∧ 0 ≤ n.f0 ∧ n.f0 < 2)
theorem counts_iff (h : Int) (n : S29) : counts h n = true ↔ adm h n = true ∧ n.f0 ≠ 2 := by
  unfold counts adm
  rw [decide_eq_true_eq, decide_eq_true_eq]
  omega
theorem aside_last (h : Int) (n : S29) (l : List S29) (hok : ∀ m ∈ n :: l, IsN m) (hne : ∀ m ∈ l, m.f2.f0 ≠ n.f2.f0) :
    lastM h (n :: l) = fun x => if x = n.f2.f0 then (if adm h n = true then some n else none) else lastM h l x := by
  have e : lastM h (n :: l) = lastM h (l ++ [n]) := lastM_congr h _ _ hok (fun m hm => hok m (by simp at hm ⊢; exact hm.symm)) (fun m _ => by simp [or_comm])
  have hnone : lastM h l n.f2.f0 = none := by
    cases hM : lastM h l n.f2.f0 with
    | none => rfl
    | some o =>
      have := lastM_from h l _ o hM
      exact absurd this.2.1 (hne o this.1)
  rw [e]
  cases ha : adm h n with
  | false =>
    rw [lastM_skip h l n ha]
    funext x
    by_cases hx : x = n.f2.f0
    · rw [if_pos hx, hx, hnone]; rfl
    · rw [if_neg hx]
  | true =>
    rw [lastM_new h l n ha hnone]
    funext x
    simp
theorem aside_ids (h : Int) (n : S29) (l : List S29) (hok : ∀ m ∈ n :: l, IsN m) (hne : ∀ m ∈ l, m.f2.f0 ≠ n.f2.f0) :
    idsA h (n :: l) = if counts h n = true then insId n.f2.f0 (idsA h l) else idsA h l := by
  have el := aside_last h n l hok hne
  have hnot : ∀ x ∈ idsA h l, x ≠ n.f2.f0 := by
    intro x hx e
    obtain ⟨m, hm, _⟩ := (idsA_mem h l x).1 hx
    have := lastM_from h l x m hm
    exact hne m this.1 (this.2.1.trans e)
  have hl0 : ∀ m, lastM h l n.f2.f0 ≠ some m := fun m hm => by
    have := lastM_from h l _ m hm
    exact hne m this.1 this.2.1
  by_cases hc : counts h n = true
  · rw [if_pos hc]
    refine asc_unique _ _ (idsA_asc h _) (insId_asc _ _ (idsA_asc h l)) (fun x => ?_)
    rw [idsA_mem, insId_mem, idsA_mem, el]
    dsimp only
    obtain ⟨ha, h2⟩ := (counts_iff h n).1 hc
    by_cases hx : x = n.f2.f0
    · rw [if_pos hx, if_pos ha]
      exact ⟨fun _ => .inl hx, fun _ => ⟨n, rfl, h2⟩⟩
    · rw [if_neg hx]
      exact ⟨fun hh => .inr hh, fun hh => hh.resolve_left hx⟩
  · rw [if_neg hc]
    refine asc_unique _ _ (idsA_asc h _) (idsA_asc h l) (fun x => ?_)
    rw [idsA_mem, idsA_mem, el]
    dsimp only
    by_cases hx : x = n.f2.f0
    · rw [if_pos hx, hx]
      constructor
      · rintro ⟨m, hm, h2⟩
        split at hm
        · rename_i ha
          cases hm
          exact absurd ((counts_iff h n).2 ⟨ha, h2⟩) hc
        · cases hm
      · rintro ⟨m, hm, _⟩
        exact absurd hm (hl0 m)
    · rw [if_neg hx]
theorem filter_insId (M : Int → Option S29) (k : Int) (hM : ∀ x m, M x = some m → m.f2.f0 = x) : ∀ (ids : List Int), (∀ x ∈ ids, x ≠ k) → (castsOf M (insId k ids)).filter (fun c => decide (c.f0 ≠ k)) = castsOf M ids := by
  have hall : ∀ ids : List Int, (∀ x ∈ ids, x ≠ k) → (castsOf M ids).filter (fun c => decide (c.f0 ≠ k)) = castsOf M ids := by
    intro ids hne
    rw [List.filter_eq_self]
    intro c hc
    unfold castsOf at hc
    rw [List.mem_filterMap] at hc
    obtain ⟨x, hx, hm⟩ := hc
    rw [Option.map_eq_some_iff] at hm
    obtain ⟨m, hm, rfl⟩ := hm
    rw [hM x m hm]
    simpa using hne x hx
  have hk : ∀ ids : List Int, (castsOf M (k :: ids)).filter (fun c => decide (c.f0 ≠ k)) = (castsOf M ids).filter (fun c => decide (c.f0 ≠ k)) := by
    intro ids
    unfold castsOf
    rw [List.filterMap_cons]
    cases h : M k with
    | none => simp
    | some m =>
      have := hM k m h
      simp [this]
  intro ids
  induction ids with
  | nil => intro _; rw [show insId k [] = [k] from rfl, hk]; rfl
  | cons y r ih =>
    intro hne
    have hy := hne y List.mem_cons_self
    have hr := fun x hx => hne x (List.mem_cons_of_mem _ hx)
    unfold insId
    split
    · rw [hk]; exact hall _ hne
    · rw [if_neg (fun e => hy e.symm)]
      have e1 : castsOf M (y :: insId k r) = castsOf M [y] ++ castsOf M (insId k r) := by
        unfold castsOf; rw [← List.filterMap_append]; rfl
      have e2 : castsOf M (y :: r) = castsOf M [y] ++ castsOf M r := by
        unfold castsOf; rw [← List.filterMap_append]; rfl
      rw [e1, e2, List.filter_append, ih hr, hall [y] (fun x hx => by simp at hx; rw [hx]; exact hy)]
theorem insId_len_new (k : Int) : ∀ ids : List Int, (∀ x ∈ ids, x ≠ k) → (insId k ids).length = ids.length + 1
  | [], _ => rfl
  | y :: r, h => by
    have := insId_len_new k r (fun x hx => h x (List.mem_cons_of_mem _ hx))
    unfold insId
    split
    · rfl
    · rw [if_neg (fun e => h y List.mem_cons_self e.symm)]
      simp only [List.length_cons, this]
/-- The law's two facts. -/
theorem aside (h : Int) (n : S29) (l : List S29) (hl : l.length ≤ 30) (hok : ∀ m ∈ n :: l, IsN m) (hne : ∀ m ∈ l, m.f2.f0 ≠ n.f2.f0) :
    (admitted h (n :: l)).filter (fun c => decide (c.f0 ≠ n.f2.f0)) = admitted h l ∧ (admitted h (n :: l)).length = (admitted h l).length + (if counts h n = true then 1 else 0) := by
  have el := aside_last h n l hok hne
  have ei := aside_ids h n l hok hne
  have hlen := idsA_length h l
  have hlen2 := idsA_length h (n :: l)
  simp only [List.length_cons] at hlen2
  have hnot : ∀ x ∈ idsA h l, x ≠ n.f2.f0 := by
    intro x hx e
    obtain ⟨m, hm, _⟩ := (idsA_mem h l x).1 hx
    have := lastM_from h l x m hm
    exact hne m this.1 (this.2.1.trans e)
  have hcg : castsOf (lastM h (n :: l)) (idsA h l) = castsOf (lastM h l) (idsA h l) := castsOf_congr _ _ _ (fun x hx => by rw [el]; dsimp only; rw [if_neg (hnot x hx)])
  have hfull : ∀ l' : List S29, (castsOf (lastM h l') (idsA h l')).length = (idsA h l').length := fun l' => castsOf_full _ _ (fun x hx => by
    obtain ⟨m, hm, _⟩ := (idsA_mem h l' x).1 hx
    rw [hm]; rfl)
  unfold admitted
  rw [List.take_of_length_le (show (idsA h l).length ≤ 32 by omega), List.take_of_length_le (show (idsA h (n :: l)).length ≤ 32 by omega), hfull, hfull]
  by_cases hc : counts h n = true
  · rw [if_pos hc] at ei ⊢
    refine ⟨?_, by rw [ei, insId_len_new _ _ hnot]⟩
    rw [ei, filter_insId _ _ (fun x m hm => (lastM_from h _ x m hm).2.1) _ hnot, hcg]
  · rw [if_neg hc] at ei ⊢
    refine ⟨?_, by rw [ei]; rfl⟩
    rw [ei, hcg, List.filter_eq_self]
    intro c hcm
    have := hnot _ (castsOf_id h l _ c hcm)
    simpa using this
end Go.Proofs.Ytehieahpocbboaa.G
/-
  bournelaw29.CastAside, walked.
-/
namespace Go.Proofs.Ytehieahpocbboaa.G
open Go.RowKit Go.Proofs.YtehieahpocbboaaW.PrintWords Go.Proofs.YtehieahpocbboaaW.PrintLast Go.Proofs.YtehieahpocbboaaW.PrintMore
set_option linter.unusedVariables false
set_option linter.unusedSimpArgs false
theorem lit_own (w W : World) (base : Nat) (hb : base ≤ W.heap.size) (x : S29) (A : Option Addr) (c : Nat) (hc : x.f2.f2.length ≤ c) (hC : Kd.C (Kd.slice 54 k54) w A x.f2.f2.length x.f2.f2) :
    OwnRow (k29.K w) 29 5 (W.alloc (.cells #[.int .i64 x.f0, .int .i64 x.f1, .int .i64 x.f2.f0, .int .i64 x.f2.f1, .slice A x.f2.f2.length c] 29)) base (.slice (some ⟨W.heap.size, 0, none⟩) 1 1) [x] := by
  refine ⟨[.int .i64 x.f0, .int .i64 x.f1, .int .i64 x.f2.f0, .int .i64 x.f2.f1, .slice A x.f2.f2.length c], ⟨rfl, .inr ⟨W.heap.size, 1, _, rfl, hb, heap_alloc_new W _, Nat.le_refl _, by simp [maxLen], rfl, rfl⟩⟩, ?_⟩
  have := Reps.snoc (Reps.none (k29.K w) 5) (k29_mk w x hc hC) rfl
  simpa using this
theorem at_R27 {w0 w : World} {A : Option Addr} {n : Nat} {xs : List S27} (h : ReadsRow (k27.K w0) 3 w A n xs) (i : Int) (h0 : 0 ≤ i) (h1 : i < n) : ∃ ad A4 c4, A = some ad ∧ w.cell? (ad.add (i.toNat * 3)) = some (.int .i64 (rd_T27 xs i).f0) ∧ w.cell? ⟨(ad.add (i.toNat * 3)).block, (ad.add (i.toNat * 3)).off + 1, none⟩ = some (.int .i64 (rd_T27 xs i).f1) ∧ w.cell? ⟨(ad.add (i.toNat * 3)).block, (ad.add (i.toNat * 3)).off + 2, none⟩ = some (.slice A4 (rd_T27 xs i).f2.length c4) ∧ (rd_T27 xs i).f2.length ≤ c4 ∧ (Kd.slice 54 k54).C w0 A4 (rd_T27 xs i).f2.length (rd_T27 xs i).f2 := by
  obtain ⟨ad, c, e, _, hK, hc0⟩ := ReadsRow.get_ h z27 i h0 h1
  have hc : ∀ j u, c[j]? = some u → w.cell? (ad.add (i.toNat * 3 + j)) = some u := hc0
  obtain ⟨A4, c4, rfl, hl, hC⟩ := k27_open hK
  exact ⟨ad, A4, c4, e, hc 0 _ rfl, by rw [← add_field _ _ 1 (by omega)]; exact hc 1 _ rfl, by rw [← add_field _ _ 2 (by omega)]; exact hc 2 _ rfl, hl, hC⟩
theorem take_rd_T27 (r : List S27) (k : Nat) (h : k < r.length) : r.take (k + 1) = r.take k ++ [rd_T27 r k] ∧ rd_T27 r k ∈ r := by
  have e : rd_T27 r k = r[k] := by
    unfold rd_T27
    rw [Int.toNat_natCast, List.getD_eq_getElem?_getD, List.getElem?_eq_getElem h]; rfl
  rw [e]
  exact ⟨List.take_succ_eq_append_getElem h, List.getElem_mem _⟩
theorem lit27 (w W : World) (x : S27) (A : Option Addr) (c : Nat) (hc : x.f2.length ≤ c) (hC : Kd.C (Kd.slice 54 k54) w A x.f2.length x.f2) : ReadsRow (k27.K w) 3 (W.alloc (.cells #[.int .i64 x.f0, .int .i64 x.f1, .slice A x.f2.length c] 27)) (some ⟨W.heap.size, 0, none⟩) 1 [x] := by
  refine ⟨rfl, by omega, fun _ => ⟨_, rfl, fun j s hj => ?_⟩⟩
  match j, hj with
  | 0, hj =>
    simp at hj; subst hj
    refine ⟨_, rfl, k27_mk w x hc hC, fun i u hu => ?_⟩
    have had : ∀ m, (⟨W.heap.size, 0, none⟩ : Addr).add m = ⟨W.heap.size, m, none⟩ := fun m => by unfold Addr.add; split <;> simp_all
    rw [had, show 0 * 3 + i = i by omega, Lib.cell_of_heap (heap_alloc_new W _), List.getElem?_toArray]
    exact hu
theorem filter_take_le (l : List S27) (j : Nat) (p : S27 → Bool) : ((l.take j).filter p).length ≤ l.length := by
  have := List.length_filter_le p (l.take j)
  rw [List.length_take] at this
  omega
/-- The box of the news. -/
def NBox (W : World) (p : Nat) (a : S29) (A : Option Addr) (ca : Nat) : Prop :=
  W.cell? ⟨p, 0, none⟩ = some (.int .i64 a.f0) ∧ W.cell? ⟨p, 1, none⟩ = some (.int .i64 a.f1) ∧ W.cell? ⟨p, 2, none⟩ = some (.int .i64 a.f2.f0) ∧ W.cell? ⟨p, 3, none⟩ = some (.int .i64 a.f2.f1) ∧ W.cell? ⟨p, 4, none⟩ = some (.slice A a.f2.f2.length ca)
theorem NBox.move {W w : World} {p : Nat} {a : S29} {A : Option Addr} {ca : Nat} (h : NBox W p a A ca) (hb : Below W.heap.size W w) : NBox w p a A ca := by
  obtain ⟨a0, a1, a2, a3, a4⟩ := h
  have key : ∀ {a : Addr} {v : Value}, W.cell? a = some v → w.cell? a = some v := fun hc => (hb.cell (World.block_lt_of_cell? W _ hc)).trans hc
  exact ⟨key a0, key a1, key a2, key a3, key a4⟩
set_option maxHeartbeats 8000000 in
set_option maxRecDepth 100000 in
theorem Aside_walk (A : Option Addr) (c : Nat) (l : List S29) (n : S29) (An : Option Addr) (cn : Nat) (h : Int) (w : World) (hr : Kd.C k29 w A l.length l) (hc : l.length ≤ c) (hcn : A = none → c = 0) (hre : l.length * 56 ≤ 140737488351232)
    (hN : Kd.C (Kd.slice 54 k54) w An n.f2.f2.length n.f2.f2) (hcN : n.f2.f2.length ≤ cn) (hw : ∀ x ∈ n :: l, WfN x) (hh : IsI h) :
    Calls Try.prog 4 #[.slice A l.length c, .agg #[.int .i64 n.f0, .int .i64 n.f1, .int .i64 n.f2.f0, .int .i64 n.f2.f1, .slice An n.f2.f2.length cn], .int .i64 h] w fun e w' => e = .returned (.bool true) ∧ Below w.heap.size w w' := by
  have hu29 := Try.underlying29
  have HR := Aside0.mk hr
  have HN := Aside0.mk hN
  have HCN := Aside0.mk hcn
  have HW := Aside0.mk hw
  clear hr hN hcn hw
  go_enter Try.func4, Try.ntmps4
  go_wp2_with fail
  refine (small_calls _).mono ?_
  rintro e w1 ⟨rfl, hb1⟩
  obtain ⟨W0, hW0⟩ : ∃ W0 : World, W0 = w.alloc (.cells #[.int .i64 n.f0, .int .i64 n.f1, .int .i64 n.f2.f0, .int .i64 n.f2.f1, .slice An n.f2.f2.length cn] 29) := ⟨_, rfl⟩
  rw [← hW0] at hb1
  have HBX : Aside0 (NBox W0 w.heap.size n An cn) := ⟨by rw [hW0]; refine ⟨?_, ?_, ?_, ?_, ?_⟩ <;> simp [go_sem]⟩
  have HB0 : Aside0 (Below w.heap.size w W0) := ⟨by rw [hW0]; exact (Below.refl _ _).alloc (Nat.le_refl _) _⟩
  have HB1 := Aside0.mk hb1
  clear hW0 hb1
  obtain ⟨p0, p1, p2, p3, p4⟩ := HBX.out.move HB1.out
  have HBw1 := Aside0.mk (below_then HB0.out HB0.out.size HB1.out)
  have hs1 := HBw1.out.size
  have hs01 := HB1.out.size
  go_wp2_with (at_builtin; refine wpl_append_row (R := k29.K w) rfl _ _ 22 rfl W0.heap.size 29 _ 5 56 Try.underlying22 info29 rfl (by decide) _ [n] l rfl (lit_own w w1 _ hs01 n An cn hcN HN.out) (k29_one w) A l.length c rfl (C_from HR.out (HBw1.out.alloc hs1 _)) HCN.out (by simp only [maxLen, List.length_cons, List.length_nil]; omega) (by simp only [List.length_cons, List.length_nil]; omega) (by simp; omega) ?_; intro v2 w2 ho2 hg2; have HO2 := Aside0.mk ho2; have HG2 := Aside0.mk hg2; clear ho2 hg2; obtain ⟨A2, c2, rfl, hle2⟩ := HO2.out.slice_)
  have HB2 := Aside0.mk ((HB1.out.alloc hs01 (.cells #[.int .i64 n.f0, .int .i64 n.f1, .int .i64 n.f2.f0, .int .i64 n.f2.f1, .slice An n.f2.f2.length cn] 29)).grown HG2.out (by simp; omega) (fun k hk => by cases hk; exact hs01))
  have HBw2 := Aside0.mk (below_then HB0.out HB0.out.size HB2.out)
  have HF := Aside0.mk (few_eq ([n] ++ l) 2001 (by omega))
  have hC2 : Kd.C k29 w2 A2 ([n] ++ l).length ([n] ++ l) := by
    obtain ⟨_, _, he, _, hC⟩ := OwnRow_C (d := k29) HO2.out HBw2.out
    injection he with e1 e2 e3
    subst e1 e3
    exact hC
  have HC2 := Aside0.mk hC2
  clear hC2 HG2 HB1 HBw1 hs1 hs01 p0 p1 p2 p3 p4
  obtain ⟨fb, hfb⟩ : ∃ fb, fb = fewB ([n] ++ l) := ⟨_, rfl⟩
  rw [← hfb] at HF
  have hfew := bournelaw29_few.calls 2001 A2 c2 ([n] ++ l) fb w2 HC2.out hle2 HF.out
  have eln : ([n] ++ l).length = l.length + 1 := by simp
  rw [eln] at hfew hle2
  refine hfew.mono ?_
  rintro e w3 ⟨rfl, hd3⟩
  have HB3 := Aside0.mk (HB2.out.trans (hd3.below.mono HB2.out.size))
  have HFB := Aside0.mk hfb
  clear hd3 hfew HB2 HC2 eln hfb HF
  cases fb with
  | false =>
    go_wp2
    go_ret
    exact ⟨rfl, HB0.out.trans (HB3.out.mono HB0.out.size)⟩
  | true =>
    have hok := fewB_ok (l := [n] ++ l) HFB.out.symm (fun x hx => HW.out x (by simpa using hx))
    have HOK := Aside0.mk hok.1
    clear hok
    by_cases h30 : 30 < l.length
    · have hd1 : decide (30 < l.length) = true := decide_eq_true h30
      go_wp2
      go_ret
      exact ⟨rfl, HB0.out.trans (HB3.out.mono HB0.out.size)⟩
    · have hd1 : decide (30 < l.length) = false := decide_eq_false h30
      go_wp2
      clear hd1
      go_loopw [9] (fun i wr => ∃ j : Nat, j ≤ l.length ∧ i = .int .i64 j ∧ Aside0 (∀ m, m < j → ∀ x, l[m]? = some x → x.f2.f0 ≠ n.f2.f0) ∧ Aside0 (Below W0.heap.size W0 wr)) (fun i _ => l.length - (intOf i).toNat)
      case atStart => exact ⟨0, Nat.zero_le _, rfl, ⟨fun m hm => by omega⟩, HB3⟩
      case round =>
        clear HB3
        obtain ⟨j, hj, rfl, HNE, HB⟩ := hrel
        obtain ⟨p0, p1, p2, p3, p4⟩ := HBX.out.move HB.out
        have HBw := Aside0.mk (below_then HB0.out HB0.out.size HB.out)
        by_cases hlt : j < l.length
        · obtain ⟨ad, A4, c4, rfl, g0, g1, g2, g3, g4, hl4, hC4⟩ := at_T29 HR.out j (by omega) (by omega)
          replace g2 := (HBw.out.cell (World.block_lt_of_cell? w _ g2)).trans g2
          rw [Int.toNat_natCast] at g2
          have HT := Aside0.mk (take_rd_T29 l j hlt)
          have HX : Aside0 (l[j]? = some (rd_T29 l j)) := ⟨by
            unfold rd_T29
            rw [Int.toNat_natCast, List.getD_eq_getElem?_getD, List.getElem?_eq_getElem hlt]; rfl⟩
          obtain ⟨x, hx⟩ : ∃ x, x = rd_T29 l j := ⟨_, rfl⟩
          rw [← hx] at g2 HX
          clear hx g0 g1 g3 g4 hl4 hC4
          by_cases he : x.f2.f0 = n.f2.f0
          · rw [he] at g2
            clear he
            go_wp2
            go_quiet (fail)
            rename_i nq
            go_wp2
            go_ret
            exact ⟨rfl, HB0.out.trans ((pw_below_drewN HB.out nq).mono HB0.out.size)⟩
          · have hbe : (x.f2.f0 == n.f2.f0) = false := beq_false_of_ne he
            go_wp2
            go_quiet (fail)
            rename_i nq
            go_wp2
            go_roundw
            case rel =>
              refine ⟨j + 1, by omega, by go_num, ⟨fun m hm y hy => ?_⟩, ⟨pw_below_drewN HB.out nq⟩⟩
              rcases Nat.lt_or_ge m j with hmj | hmj
              · exact HNE.out m hmj y hy
              · obtain rfl : m = j := by omega
                rw [HX.out] at hy
                cases hy
                exact he
            case measure => simp [intOf]; omega
        · obtain rfl : j = l.length := by omega
          have HNE2 : Aside0 (∀ x ∈ l, x.f2.f0 ≠ n.f2.f0) := ⟨fun x hx => by
            obtain ⟨m, hm, rfl⟩ := List.getElem_of_mem hx
            exact HNE.out m hm _ (List.getElem?_eq_getElem hm)⟩
          have HAS := Aside0.mk (aside h n l (by omega) (fun x hx => HOK.out.2 x (by simpa using hx)) HNE2.out)
          have HOKl : Aside0 (OkN l) := ⟨by omega, fun x hx => HOK.out.2 x (by simp [hx])⟩
          clear HNE HNE2
          go_wp2_with fail
          refine (Admitted_any w _ _ l h _ HBw.out (C_from HR.out HBw.out) hc HOKl.out.1 HOKl.out.2 hh).mono ?_
          rintro e w4 ⟨va, rfl, hoa, hb4⟩
          have HB4 := Aside0.mk (HB.out.trans (hb4.mono HB.out.size))
          have HBw4 := Aside0.mk (below_then HB0.out HB0.out.size HB4.out)
          have HOA4 := Aside0.mk hoa
          obtain ⟨Aa, ca, rfl, hlea⟩ := hoa.slice_
          have hs4 := HB4.out.size
          have hsw4 := HBw4.out.size
          clear hoa hb4 HB HBw p0 p1 p2 p3 p4
          obtain ⟨p0, p1, p2, p3, p4⟩ := HBX.out.move HB4.out
          go_wp2_with (at_builtin; refine wpl_append_row (R := k29.K w) rfl _ _ 22 rfl w4.heap.size 29 _ 5 56 Try.underlying22 info29 rfl (by decide) _ [n] l rfl (lit_own w w4 _ (Nat.le_refl _) n An cn hcN HN.out) (k29_one w) _ l.length _ rfl (C_from HR.out (HBw4.out.alloc hsw4 _)) HCN.out (by simp only [maxLen, List.length_cons, List.length_nil]; omega) (by simp only [List.length_cons, List.length_nil]; omega) (by simp) ?_; intro v5 w5 ho5 hg5; have HO5 := Aside0.mk ho5; have HG5 := Aside0.mk hg5; clear ho5 hg5; obtain ⟨A5, c5, rfl, hle5⟩ := HO5.out.slice_)
          have HB45 := Aside0.mk (((Below.refl w4.heap.size w4).alloc (Nat.le_refl _) (.cells #[.int .i64 n.f0, .int .i64 n.f1, .int .i64 n.f2.f0, .int .i64 n.f2.f1, .slice An n.f2.f2.length cn] 29)).grown HG5.out (by simp) (fun k hk => by cases hk; exact Nat.le_refl _))
          have HB5 := Aside0.mk (HB4.out.trans (HB45.out.mono HB4.out.size))
          have HBw5 := Aside0.mk (below_then HB0.out HB0.out.size HB5.out)
          have HOA5 := Aside0.mk (HOA4.out.below HB45.out)
          clear HG5 HOA4 HB4 HBw4 p0 p1 p2 p3 p4 HB45 hs4 hsw4
          have hadm := Admitted_any w A5 c5 ([n] ++ l) h w5 HBw5.out (by obtain ⟨_, _, he, _, hrd⟩ := HO5.out.reads; injection he with e1 e2 e3; subst e1 e3; exact hrd) hle5 HOK.out.1 HOK.out.2 hh
          rw [show ([n] ++ l).length = l.length + 1 by simp] at hadm
          refine hadm.mono ?_
          rintro e w6 ⟨vb, rfl, hob, hb6⟩
          have HB6 := Aside0.mk (HB5.out.trans (hb6.mono HB5.out.size))
          have HBw6 := Aside0.mk (below_then HB0.out HB0.out.size HB6.out)
          have HOA6 := Aside0.mk (HOA5.out.below hb6)
          have HOB6 := Aside0.mk hob
          obtain ⟨Ab, cb, rfl, hleb⟩ := hob.slice_
          clear hadm hob hb6 HOA5 HO5 HB5 HBw5
          obtain ⟨bl, hbl⟩ : ∃ bl, bl = admitted h ([n] ++ l) := ⟨_, rfl⟩
          rw [← hbl] at HOB6 hleb ⊢
          have HAS1 : Aside0 (bl.filter (fun c => decide (c.f0 ≠ n.f2.f0)) = admitted h l ∧ bl.length = (admitted h l).length + (if counts h n = true then 1 else 0)) := ⟨by rw [hbl]; exact HAS.out⟩
          have HBL : Aside0 (bl.length ≤ 32) := ⟨by rw [hbl]; exact (admitted_ok h _ HOK.out.2).1⟩
          have hbl32 := HBL.out
          clear hbl HAS
          obtain ⟨_, _, he6, _, hrd6⟩ := HOB6.out.reads
          injection he6 with e61 e62 e63
          subst e61 e63
          have HR6 := Aside0.mk hrd6
          clear hrd6 e62
          go_wp2
          go_loopw [12, 13] (fun v i wr => ∃ j : Nat, j ≤ bl.length ∧ i = .int .i64 j ∧ Aside0 (OwnRow (k27.K w) 27 3 wr w6.heap.size v ((bl.take j).filter fun c => decide (c.f0 ≠ n.f2.f0))) ∧ Aside0 (Below w6.heap.size w6 wr)) (fun _ i _ => bl.length - (intOf i).toNat)
          case atStart => exact ⟨0, Nat.zero_le _, rfl, ⟨by rw [List.take_zero]; exact OwnRow.none_ _ _ _ _ _⟩, ⟨Below.refl _ _⟩⟩
          case round =>
            obtain ⟨j, hj, rfl, HK, HB⟩ := hrel
            obtain ⟨p0, p1, p2, p3, p4⟩ := HBX.out.move (HB6.out.trans (HB.out.mono HB6.out.size))
            have hBs := HB.out.size
            by_cases hlt : j < bl.length
            · obtain ⟨ad6, A7, c7, hA6, g0, g1, g2, hl7, hC7⟩ := at_R27 HR6.out j (by omega) (by omega)
              cases hA6
              replace g0 := (HB.out.cell (World.block_lt_of_cell? w6 _ g0)).trans g0
              replace g1 := (HB.out.cell (World.block_lt_of_cell? w6 _ g1)).trans g1
              replace g2 := (HB.out.cell (World.block_lt_of_cell? w6 _ g2)).trans g2
              rw [Int.toNat_natCast] at g0 g1 g2
              have HT := Aside0.mk (take_rd_T27 bl j hlt)
              obtain ⟨x, hx⟩ : ∃ x, x = rd_T27 bl j := ⟨_, rfl⟩
              rw [← hx] at g0 g1 g2 hl7 hC7 HT
              clear hx
              have HC7 := Aside0.mk hC7
              clear hC7
              have hkl := filter_take_le bl j (fun c => decide (c.f0 ≠ n.f2.f0))
              by_cases he : x.f0 = n.f2.f0
              · rw [he] at g0
                have HE := Aside0.mk he
                clear he
                go_wp2
                go_quiet (fail)
                rename_i nq
                go_wp2
                go_roundw
                case rel => exact ⟨j + 1, by omega, by go_num, ⟨by rw [HT.out.1, List.filter_append]; simpa [HE.out] using HK.out.below (pw_below_drewN (Below.refl _ _) nq)⟩, ⟨pw_below_drewN HB.out nq⟩⟩
                case measure => first | (simp [intOf]; done) | (simp [intOf]; omega)
              · have hbe : (x.f0 == n.f2.f0) = false := beq_false_of_ne he
                have HE := Aside0.mk he
                clear he
                go_wp2
                go_quiet (fail)
                rename_i nq
                obtain ⟨wn, hwn⟩ : ∃ wn, wn = wr.drewN nq := ⟨_, rfl⟩
                have HBn : Aside0 (Below w6.heap.size w6 wn) := ⟨by rw [hwn]; exact pw_below_drewN HB.out nq⟩
                have HKn : Aside0 (OwnRow (k27.K w) 27 3 wn w6.heap.size _ ((bl.take j).filter fun c => decide (c.f0 ≠ n.f2.f0))) := ⟨by rw [hwn]; exact HK.out.below (pw_below_drewN (Below.refl _ _) nq)⟩
                have k0 : wn.cell? (ad6.add (j * 3)) = some (.int .i64 x.f0) := by rw [hwn]; exact g0
                have k1 : wn.cell? ⟨(ad6.add (j * 3)).block, (ad6.add (j * 3)).off + 1, none⟩ = some (.int .i64 x.f1) := by rw [hwn]; exact g1
                have k2 : wn.cell? ⟨(ad6.add (j * 3)).block, (ad6.add (j * 3)).off + 2, none⟩ = some (.slice A7 x.f2.length c7) := by rw [hwn]; exact g2
                rw [← hwn]
                have hBsn := HBn.out.size
                clear hwn g0 g1 g2 HB HK p0 p1 p2 p3 p4 hBs
                go_wp2_with (at_builtin; refine wpl_append_row (R := k27.K w) rfl _ _ 30 rfl w6.heap.size 27 _ 3 40 Try.underlying30 info27 rfl (by decide) _ _ [x] rfl (HKn.out.below ((Below.refl _ _).alloc (Nat.le_refl _) _)) (k27_one w) (some ⟨wn.heap.size, 0, none⟩) 1 1 rfl ?c1 (fun e => by cases e) ?c3 ?c4 ?c5 ?_)
                case c1 => exact lit27 w wn x A7 c7 hl7 HC7.out
                case c3 => simp only [maxLen, List.length_cons, List.length_nil]; omega
                case c4 => simp only [List.length_cons, List.length_nil]; omega
                case c5 => simp; omega
                intro v' w' ho' hg'
                have HO' := Aside0.mk ho'
                have HBq := Aside0.mk ((HBn.out.alloc hBsn (.cells #[.int .i64 x.f0, .int .i64 x.f1, .slice A7 x.f2.length c7] 27)).grown hg' (by simp; omega) (fun kk hkk => (OwnRow_base HKn.out kk hkk).1))
                clear ho' hg' k0 k1 k2
                go_wp2
                go_roundw
                case rel => exact ⟨j + 1, by omega, by go_num, ⟨by rw [HT.out.1, List.filter_append]; simpa [HE.out] using HO'.out⟩, HBq⟩
                case measure => first | (simp [intOf]; done) | (simp [intOf]; omega)
            · obtain rfl : j = bl.length := by omega
              rw [List.take_length, HAS1.out.1] at HK
              have HBf := Aside0.mk (HB6.out.trans (HB.out.mono HB6.out.size))
              have HBfw := Aside0.mk (below_then HB0.out HB0.out.size HBf.out)
              obtain ⟨_, _, hA9, _, hCa⟩ := OwnRow_C (d := k27) (HOA6.out.below HB.out) HBfw.out
              obtain ⟨Ac, cc, rfl, hlec, hCc⟩ := OwnRow_C (d := k27) HK.out HBfw.out
              injection hA9 with f1 _ f2
              subst f1 f2
              have HCa := Aside0.mk hCa
              have HCc := Aside0.mk hCc
              have hado := admitted_ok h l HOKl.out.2
              have HSA := Aside0.mk (SameAll_same (admitted h l) (by omega) hado.2 1400000 (by omega))
              have hal := hado.1
              clear hado hCa hCc p0 p1 p2 p3 p4 HK
              go_wp2_with fail
              refine (bourneref29_SameAll.calls 1400000 Aa ca (admitted h l) Ac cc (admitted h l) true _ HCa.out hlea HCc.out hlec HSA.out).mono ?_
              rintro e w10 ⟨rfl, hb10⟩
              have HB10 := Aside0.mk (HBf.out.trans (hb10.mono HBf.out.size))
              obtain ⟨p0, p1, p2, p3, p4⟩ := HBX.out.move HB10.out
              have hlen := HAS1.out.2
              clear hb10 HBf HBfw
              by_cases k1 : n.f1 ≤ h
              · have d1 : decide (n.f1 ≤ h) = true := decide_eq_true k1
                by_cases k2 : 0 ≤ n.f0
                · have d2 : decide (0 ≤ n.f0) = true := decide_eq_true k2
                  by_cases k3 : n.f0 < 2
                  · have d3 : decide (n.f0 < 2) = true := decide_eq_true k3
                    have hcn : counts h n = true := decide_eq_true ⟨k1, k2, k3⟩
                    rw [if_pos hcn] at hlen
                    have hb1 : ((bl.length : Int) == ((admitted h l).length : Int) + 1) = true := by simp; omega
                    have HLn := Aside0.mk hlen
                    clear hlen k1 k2 k3 hcn
                    go_wp2
                    go_ret
                    exact ⟨rfl, HB0.out.trans (HB10.out.mono HB0.out.size)⟩
                  · have d3 : decide (n.f0 < 2) = false := decide_eq_false k3
                    have hcn : ¬ counts h n = true := fun e => k3 (of_decide_eq_true e).2.2
                    rw [if_neg hcn] at hlen
                    have hb1 : ((bl.length : Int) == ((admitted h l).length : Int) + 1) = false := beq_false_of_ne (by omega)
                    clear hlen k1 k2 k3 hcn
                    go_wp2
                    go_ret
                    exact ⟨rfl, HB0.out.trans (HB10.out.mono HB0.out.size)⟩
                · have d2 : decide (0 ≤ n.f0) = false := decide_eq_false k2
                  have hcn : ¬ counts h n = true := fun e => k2 (of_decide_eq_true e).2.1
                  rw [if_neg hcn] at hlen
                  have hb1 : ((bl.length : Int) == ((admitted h l).length : Int) + 1) = false := beq_false_of_ne (by omega)
                  clear hlen k1 k2 hcn
                  go_wp2
                  go_ret
                  exact ⟨rfl, HB0.out.trans (HB10.out.mono HB0.out.size)⟩
              · have d1 : decide (n.f1 ≤ h) = false := decide_eq_false k1
                have hcn : ¬ counts h n = true := fun e => k1 (of_decide_eq_true e).1
                rw [if_neg hcn] at hlen
                have hb1 : ((bl.length : Int) == ((admitted h l).length : Int) + 1) = false := beq_false_of_ne (by omega)
                clear hlen k1 hcn
                go_wp2
                go_ret
                exact ⟨rfl, HB0.out.trans (HB10.out.mono HB0.out.size)⟩
theorem Aside_calls (A : Option Addr) (c : Nat) (l : List S29) (n : S29) (An : Option Addr) (cn : Nat) (h : Int) (w : World) (hr : Kd.C k29 w A l.length l) (hc : l.length ≤ c) (hcn : A = none → c = 0) (hre : l.length * 56 ≤ 140737488351232)
    (hN : Kd.C (Kd.slice 54 k54) w An n.f2.f2.length n.f2.f2) (hcN : n.f2.f2.length ≤ cn) (hw : ∀ x ∈ l, WfN x) (hn : WfN n) (hh : IsI h) :
    Calls Try.prog 4 #[.slice A l.length c, .agg #[.int .i64 n.f0, .int .i64 n.f1, .int .i64 n.f2.f0, .int .i64 n.f2.f1, .slice An n.f2.f2.length cn], .int .i64 h] w fun e w' => e = .returned (.bool true) ∧ Below w.heap.size w w' :=
  Aside_walk A c l n An cn h w hr hc hcn hre hN hcN (fun x hx => by
    rcases List.mem_cons.1 hx with rfl | hx
    · exact hn
    · exact hw x hx) hh
end Go.Proofs.Ytehieahpocbboaa.G
