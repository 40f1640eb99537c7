/-
  Several texts in one: HCopy, HAt.
-/
import Derived.Test.YtehieahpocbboaaHB
import Derived.Laws.CopyOwn
/-
  copy into a row of the call's own, at elements of any size; spans as cells.
-/
namespace Go.Proofs.Ytehieahpocbboaa.G
open Go.RowKit Go.Proofs.YtehieahpocbboaaW.PrintWords Go.Proofs.YtehieahpocbboaaW.PrintLast Go.Proofs.YtehieahpocbboaaW.PrintMore
set_option linter.unusedVariables false
set_option linter.unusedSimpArgs false

theorem run_copy_sized {P : Program} (w : World) (dT sT ty elem : TypeId) (size : Nat) (g dLen dCap : Nat) (sp : Option Addr) (sLen sCap : Nat) (cur : Array Value) (t : TypeId) (cs : List Value)
    (hu : P.underlying dT = some (.slice elem)) (hs : (P.info? elem).map (·.size) = some size)
    (hg : w.heap[g]? = some (.cells cur t (0, 0))) (hn : cs.length = Nat.min sLen dLen * size)
    (hsrc : sp = none → cs = []) (hsrc2 : ∀ a, sp = some a → ∀ j v, cs[j]? = some v → w.cell? (a.add j) = some v) (hfit : cs.length ≤ cur.size) (h1 : ∀ v ∈ cs, v.oneCell' = true) :
    (Builtin.copy_ #[dT, sT] ty #[.slice (some ⟨g, 0, none⟩) dLen dCap, .slice sp sLen sCap]).run P w =
      .ok (goInt (Nat.min sLen dLen)) (w.setRow g (cs ++ cur.toList.drop cs.length).toArray) := by
  have hst := run_storeCells_at P g 0 t cs 0 cur w hg (by simpa using hfit) h1
  simp only [Nat.add_zero, Nat.zero_add, List.take_zero, List.nil_append] at hst
  cases hq : P.info? elem with
  | none => simp [hq] at hs
  | some i =>
    have hi : i.size = size := by simpa [hq] using hs
    cases sp with
    | none =>
      obtain rfl := hsrc rfl
      simp only [List.nil_append, List.length_nil, List.drop_zero, Array.toArray_toList] at hst ⊢
      simp [Builtin.copy_, run_underlying hu, Builtin.lenOf, Builtin.firstCells, sizeOf, typeInfo, hq, hi, hst]
    | some a =>
      have hl := run_firstCells_some (P := P) w size (Nat.min sLen dLen) a sLen sCap cs hn (hsrc2 a rfl)
      simp [Builtin.copy_, run_underlying hu, Builtin.lenOf, sizeOf, typeInfo, hq, hi, hl, hst]

theorem wpList_copy_sized {P : Program} {w : World} {ops : Array Oper} {rest : List Oper} {o : Oper} {a : Act} {Q : Exit → Act → World → Prop} (hgd : o.guard = none) (d s : Operand) (dT sT : TypeId)
    (ho : o.op = .call { callee := .builtin .copy, args := #[d, s], argTypes := #[dT, sT] }) (elem : TypeId) (size : Nat) (hu : P.underlying dT = some (.slice elem)) (hsz : (P.info? elem).map (·.size) = some size)
    (g n cap : Nat) (sp : Option Addr) (sLen sCap : Nat) (hd : a.eval d = .slice (some ⟨g, 0, none⟩) n cap) (hs : a.eval s = .slice sp sLen sCap)
    (base : Nat) (e : TypeId) (xs : List Value) (hown : w.ownsRow base e size (.slice (some ⟨g, 0, none⟩) n cap) n xs) (cs : List Value) (hn : cs.length = Nat.min sLen n * size)
    (hsrc : sp = none → cs = []) (hsrc2 : ∀ a, sp = some a → ∀ j v, cs[j]? = some v → w.cell? (a.add j) = some v) (h1 : ∀ v ∈ cs, v.oneCell' = true)
    (h : ∀ w', w'.ownsRow base e size (.slice (some ⟨g, 0, none⟩) n cap) n (cs ++ xs.drop cs.length) → w.grownBy w' (some g) → wpList P ops Q rest (a.put o.dst (goInt (Nat.min sLen n))) w') :
    wpList P ops Q (o :: rest) a w := by
  refine wpList_plain hgd fun K hK => ?_
  obtain ⟨hxl, h2⟩ := hown
  rcases h2 with ⟨h', _⟩ | ⟨g', cap', cur, h', hb, hg, hnc, hcm, hcs, htake⟩
  · simp at h'
  · simp only [Value.slice.injEq, Option.some.injEq, Addr.mk.injEq, and_true, true_and] at h'
    obtain ⟨rfl, rfl⟩ := h'
    have hmul : Nat.min sLen n * size ≤ n * size := Nat.mul_le_mul_right _ (Nat.min_le_right _ _)
    have hmul2 : n * size ≤ cap * size := Nat.mul_le_mul_right _ hnc
    have hrun := run_copy_sized (P := P) w dT sT o.type elem size g n cap sp sLen sCap cur e cs hu hsz hg hn hsrc hsrc2 (by omega) h1
    unfold Oper.wp
    simp [execOp, ho, resolve, invoke, builtin, hd, hs, hrun, Result.andThen]
    refine hK _ _ (h _ ?_ ?_)
    · refine ⟨?_, .inr ⟨g, cap, _, rfl, hb, setRow_heap w g cur _ e _ hg, hnc, hcm, ?_, ?_⟩⟩
      · simp; omega
      · simp; omega
      · rw [← htake]
        simp only [List.take_append]
        rw [List.take_of_length_le (show cs.length ≤ n * size by omega), List.drop_take]
    · exact ⟨rfl, rfl, rfl, by simp [World.setRow], fun k _ hk => setRow_other w g k _ (fun e => hk (by rw [e]))⟩

/-- Spans as cells. -/
def cells54 (r : List S54) : List Value := r.flatMap fun s => [.int .i64 s.f0, .int .i64 s.f1]
theorem cells54_length (r : List S54) : (cells54 r).length = r.length * 2 := by
  induction r with
  | nil => rfl
  | cons x r ih =>
    have e : cells54 (x :: r) = .int .i64 x.f0 :: .int .i64 x.f1 :: cells54 r := rfl
    rw [e]; simp only [List.length_cons]; omega
theorem cells54_append (a b : List S54) : cells54 (a ++ b) = cells54 a ++ cells54 b := by simp [cells54]
theorem cells54_get : ∀ (r : List S54) (j : Nat) (s : S54), r[j]? = some s → (cells54 r)[j * 2]? = some (.int .i64 s.f0) ∧ (cells54 r)[j * 2 + 1]? = some (.int .i64 s.f1)
  | [], j, s, h => by simp at h
  | x :: r, 0, s, h => by
    simp only [List.getElem?_cons_zero, Option.some.injEq] at h
    subst h
    exact ⟨rfl, rfl⟩
  | x :: r, j + 1, s, h => by
    rw [List.getElem?_cons_succ] at h
    have ih := cells54_get r j s h
    have e : cells54 (x :: r) = .int .i64 x.f0 :: .int .i64 x.f1 :: cells54 r := rfl
    rw [e, show (j + 1) * 2 = j * 2 + 1 + 1 by omega]
    exact ih
theorem cells54_one (r : List S54) : ∀ v ∈ cells54 r, v.oneCell' = true := by
  intro v hv
  simp only [cells54, List.mem_flatMap, List.mem_cons, List.not_mem_nil, or_false] at hv
  obtain ⟨s, _, rfl | rfl⟩ := hv <;> rfl
theorem R54_of {w : World} {base : Nat} {ok : Nat → Prop} {v : Value} {r : List S54} (h : w.ownsRow base 54 2 v r.length (cells54 r)) (hok : ∀ k, v.ownBlock = some k → ok k) : Kd.R k54 54 w base ok v r := by
  refine ⟨hok, cells54 r, h, cells54_length r, ?_⟩
  intro j p hj
  obtain ⟨h0, h1⟩ := cells54_get r j p hj
  have e : ((cells54 r).drop (j * 2)).take 2 = [.int .i64 p.f0, .int .i64 p.f1] := by
    apply List.ext_getElem?
    intro i
    rw [List.getElem?_take, List.getElem?_drop]
    match i with
    | 0 => rw [if_pos (by omega)]; exact h0
    | 1 => rw [if_pos (by omega)]; exact h1
    | i + 2 => rw [if_neg (by omega)]; rfl
  show k54.M w base _ p (((cells54 r).drop (j * 2)).take 2)
  rw [e]
  exact k54_mkM w base _ p
theorem C54_cells {w : World} {ad : Addr} {n : Nat} {r : List S54} (h : Kd.C k54 w (some ad) n r) : ∀ j u, (cells54 r)[j]? = some u → w.cell? (ad.add j) = some u := by
  intro j u hu
  have hj : j < r.length * 2 := by
    have := (List.getElem?_eq_some_iff.1 hu).1
    rwa [cells54_length] at this
  have hlt : j / 2 < r.length := by omega
  obtain ⟨ad', he, a0, a1⟩ := at_T54 h ((j / 2 : Nat) : Int) (by omega) (by have := h.1; omega)
  cases he
  obtain ⟨h0, h1⟩ := cells54_get r (j / 2) r[j / 2] (List.getElem?_eq_getElem hlt)
  have hrd : rd_T54 r ((j / 2 : Nat) : Int) = r[j / 2] := by
    unfold rd_T54
    rw [Int.toNat_natCast, List.getD_eq_getElem?_getD, List.getElem?_eq_getElem hlt]; rfl
  rw [hrd, Int.toNat_natCast] at a0 a1
  rcases Nat.mod_two_eq_zero_or_one j with hm | hm
  · have e : j / 2 * 2 = j := by omega
    rw [e] at h0 a0
    rw [h0] at hu
    rw [a0, Option.some.inj hu]
  · have e : j / 2 * 2 + 1 = j := by omega
    rw [e] at h1
    rw [h1] at hu
    rw [← e, add_field ad _ 1 (by omega), a1, Option.some.inj hu]
end Go.Proofs.Ytehieahpocbboaa.G
/-
  cast.At.
-/
namespace Go.Proofs.Ytehieahpocbboaa.G
open Go.RowKit Go.Proofs.YtehieahpocbboaaW.PrintWords Go.Proofs.YtehieahpocbboaaW.PrintLast Go.Proofs.YtehieahpocbboaaW.PrintMore
set_option linter.unusedVariables false
set_option linter.unusedSimpArgs false

def rowAt (from_ hour : Int) (rain : List (List S54)) : List S54 := if from_ ≤ hour ∧ hour - from_ < rain.length then rd_L3 rain (hour - from_) else []
def padS (n : Nat) (r : List S54) : List S54 := r.take n ++ List.replicate (n - r.length) z54
theorem padS_length (n : Nat) (r : List S54) : (padS n r).length = n := by
  unfold padS
  rw [List.length_append, List.length_take, List.length_replicate]
  omega
theorem made54 (n : Nat) : (madeCells #[.int .i64 0, .int .i64 0] (n * 2)).toList = cells54 (List.replicate n z54) := by
  apply List.ext_getElem?
  intro j
  by_cases hj : j < n * 2
  · have hlt : j / 2 < n := by omega
    obtain ⟨h0, h1⟩ := cells54_get (List.replicate n z54) (j / 2) z54 (by rw [List.getElem?_replicate, if_pos hlt])
    have hl : (madeCells #[.int .i64 0, .int .i64 0] (n * 2)).toList[j]? = some (.int .i64 0) := by
      unfold madeCells
      rw [Array.getElem?_toList, Array.getElem?_map, Array.getElem?_range, if_pos hj]
      rcases Nat.mod_two_eq_zero_or_one j with hm | hm
      · simp [hm]
      · simp [hm]
    rw [hl]
    rcases Nat.mod_two_eq_zero_or_one j with hm | hm
    · rw [show j / 2 * 2 = j by omega] at h0; rw [h0]; rfl
    · rw [show j / 2 * 2 + 1 = j by omega] at h1; rw [h1]; rfl
  · rw [List.getElem?_eq_none (by rw [Array.length_toList, size_madeCells]; omega), List.getElem?_eq_none (by rw [cells54_length, List.length_replicate]; omega)]
set_option maxHeartbeats 4000000 in
set_option maxRecDepth 100000 in
theorem At_out (a0 a1 : Int) (A : Option Addr) (c : Nat) (l : List (List S54)) (h p : Int) (w : World) (hp : p < 1 ∨ p > 64) :
    Calls Try.prog 17 #[.agg #[.int .i64 a0, .int .i64 a1, .slice A l.length c], .int .i64 h, .int .i64 p] w fun e w' => e = .returned (.slice none 0 0) ∧ Below w.heap.size w w' := by
  have hu27 := Try.underlying27
  by_cases h1 : p < 1
  · have hd : decide (p < 1) = true := decide_eq_true h1
    clear h1
    go_enter Try.func17, Try.ntmps17
    go_wp2
    go_ret
    exact ⟨rfl, (Below.refl _ _).alloc (Nat.le_refl _) _⟩
  · have hd : decide (p < 1) = false := decide_eq_false h1
    have hd2 : decide (64 < p) = true := decide_eq_true (by omega)
    clear h1
    go_enter Try.func17, Try.ntmps17
    go_wp2
    go_ret
    exact ⟨rfl, (Below.refl _ _).alloc (Nat.le_refl _) _⟩
/-- The box of a parameter, behind a make. -/
theorem box_cells {w w' : World} {x y z : Value} (hg : (w.alloc (.cells #[x, y, z] 27)).grownBy w' none) : w'.cell? ⟨w.heap.size, 0, none⟩ = some x ∧ w'.cell? ⟨w.heap.size, 1, none⟩ = some y ∧ w'.cell? ⟨w.heap.size, 2, none⟩ = some z := by
  have hb : w'.heap[w.heap.size]? = some (.cells #[x, y, z] 27 (0, 0)) := (hg.block w.heap.size (by simp) (by simp)).trans (heap_alloc_new w _)
  refine ⟨?_, ?_, ?_⟩ <;> (rw [Lib.cell_of_heap hb]; rfl)
set_option maxHeartbeats 4000000 in
set_option maxRecDepth 100000 in
theorem At_none (a0 a1 : Int) (A : Option Addr) (c : Nat) (l : List (List S54)) (h : Int) (n : Nat) (w : World) (h1 : 1 ≤ n) (h2 : n ≤ 64) (hr : Kd.C (Kd.slice 54 k54) w A l.length l) (hc : l.length ≤ c) (ha : IsI a1) (hh : IsI h) (hno : ¬ (a1 ≤ h ∧ h - a1 < l.length)) :
    Calls Try.prog 17 #[.agg #[.int .i64 a0, .int .i64 a1, .slice A l.length c], .int .i64 h, .int .i64 n] w fun e w' => ∃ v, e = .returned v ∧ Kd.R k54 54 w' w.heap.size (fun _ => True) v (List.replicate n z54) ∧ Below w.heap.size w w' := by
  have hu27 := Try.underlying27
  obtain ⟨i0, hi, hz0, hz1, hz2⟩ := info_parts info54
  have hd : decide ((n : Int) < 1) = false := decide_eq_false (by omega)
  have hd2 : decide (64 < (n : Int)) = false := decide_eq_false (by omega)
  by_cases h3 : a1 ≤ h
  · have hd3 : decide (a1 ≤ h) = true := decide_eq_true h3
    have hl := hr.2.1
    have hw1 : IntKind.u64.wrap (IntKind.u64.wrap h - IntKind.u64.wrap a1) = h - a1 := by
      simp only [IntKind.wrap, IntKind.bits, IntKind.signed]; simp; unfold IsI at ha hh; omega
    have hw2 : IntKind.u64.wrap (l.length : Int) = l.length := wraps_u64 _ (by omega) (by omega)
    have hd4 : decide (h - a1 < (l.length : Int)) = false := decide_eq_false (by omega)
    clear h3 hno
    go_enter Try.func17, Try.ntmps17
    go_wp2_with (at_make; refine wpList_make_full _ rfl _ _ 50 rfl w.heap.size 54 i0 _ 2 Try.underlying50 hi hz0 hz1 .i64 .i64 n n n rfl rfl rfl rfl ?b2 ?b3 ?b4 ?_)
    case b2 => rw [hz2]; omega
    case b3 => unfold maxLen; omega
    case b4 => simp
    intro w1 hown hg
    rw [made54] at hown
    obtain ⟨g0, g1, g2⟩ := box_cells hg
    have HO := Aside0.mk hown
    have HG := Aside0.mk hg
    clear hown hg hd hd2
    go_wp2
    go_ret
    refine ⟨_, rfl, R54_of ?_ (fun _ _ => trivial), ?_⟩
    · rw [List.length_replicate]; exact HO.out
    · exact ((Below.refl _ _).alloc (Nat.le_refl _) _).grown HG.out (by simp) (fun k hk => by cases hk)
  · have hd3 : decide (a1 ≤ h) = false := decide_eq_false h3
    clear h3 hno
    go_enter Try.func17, Try.ntmps17
    go_wp2_with (at_make; refine wpList_make_full _ rfl _ _ 50 rfl w.heap.size 54 i0 _ 2 Try.underlying50 hi hz0 hz1 .i64 .i64 n n n rfl rfl rfl rfl ?e2 ?e3 ?e4 ?_)
    case e2 => rw [hz2]; omega
    case e3 => unfold maxLen; omega
    case e4 => simp
    intro w1 hown hg
    rw [made54] at hown
    obtain ⟨g0, g1, g2⟩ := box_cells hg
    have HO := Aside0.mk hown
    have HG := Aside0.mk hg
    clear hown hg hd hd2
    go_wp2
    go_ret
    refine ⟨_, rfl, R54_of ?_ (fun _ _ => trivial), ?_⟩
    · rw [List.length_replicate]; exact HO.out
    · exact ((Below.refl _ _).alloc (Nat.le_refl _) _).grown HG.out (by simp) (fun k hk => by cases hk)
set_option maxHeartbeats 4000000 in
set_option maxRecDepth 100000 in
theorem At_some (a0 a1 : Int) (A : Option Addr) (c : Nat) (l : List (List S54)) (h : Int) (n : Nat) (w : World) (h1 : 1 ≤ n) (h2 : n ≤ 64) (hr : Kd.C (Kd.slice 54 k54) w A l.length l) (hc : l.length ≤ c) (ha : IsI a1) (hh : IsI h) (h3 : a1 ≤ h) (h4 : h - a1 < l.length) :
    Calls Try.prog 17 #[.agg #[.int .i64 a0, .int .i64 a1, .slice A l.length c], .int .i64 h, .int .i64 n] w fun e w' => ∃ v, e = .returned v ∧ Kd.R k54 54 w' w.heap.size (fun _ => True) v (padS n (rd_L3 l (h - a1))) ∧ Below w.heap.size w w' := by
  have hu27 := Try.underlying27
  obtain ⟨i0, hi, hz0, hz1, hz2⟩ := info_parts info54
  have hd : decide ((n : Int) < 1) = false := decide_eq_false (by omega)
  have hd2 : decide (64 < (n : Int)) = false := decide_eq_false (by omega)
  have hd3 : decide (a1 ≤ h) = true := decide_eq_true h3
  have hl := hr.2.1
  have hw1 : IntKind.u64.wrap (IntKind.u64.wrap h - IntKind.u64.wrap a1) = h - a1 := by
    simp only [IntKind.wrap, IntKind.bits, IntKind.signed]; simp; unfold IsI at ha hh; omega
  have hw2 : IntKind.u64.wrap (l.length : Int) = l.length := wraps_u64 _ (by omega) (by omega)
  have hd4 : decide (h - a1 < (l.length : Int)) = true := decide_eq_true h4
  have hw3 : wrap64 (h - a1) = h - a1 := by unfold wrap64; omega
  obtain ⟨ad, A1, c1, rfl, hx, hl1, hi1⟩ := at_L3 hr (h - a1) (by omega) h4
  have HI1 := Aside0.mk hi1
  have hxl := World.block_lt_of_cell? w _ hx
  obtain ⟨row, hrow⟩ : ∃ row, row = rd_L3 l (h - a1) := ⟨_, rfl⟩
  rw [← hrow] at hx hl1 HI1 ⊢
  clear hi1 hrow hr
  have hp0 := eq_true (show 0 ≤ h - a1 by omega)
  have hp2 := eq_true h3
  have hp3 := eq_false (show ¬ h < a1 by omega)
  have hp1 := eq_true h4
  clear h3 h4
  go_enter Try.func17, Try.ntmps17
  go_wp2_with (at_make; refine wpList_make_full _ rfl _ _ 50 rfl w.heap.size 54 i0 _ 2 Try.underlying50 hi hz0 hz1 .i64 .i64 n n n rfl rfl rfl rfl ?b2 ?b3 ?b4 ?_)
  case b2 => rw [hz2]; omega
  case b3 => unfold maxLen; omega
  case b4 => simp
  intro w1 hown hg
  rw [made54] at hown
  obtain ⟨g0, g1, g2⟩ := box_cells hg
  have HB : Aside0 (Below w.heap.size w w1) := ⟨((Below.refl _ _).alloc (Nat.le_refl _) _).grown hg (by simp) (fun k hk => by cases hk)⟩
  have hx1 : w1.cell? (ad.add (h - a1).toNat) = some (.slice A1 row.length c1) := (HB.out.cell hxl).trans hx
  have HO := Aside0.mk hown
  clear hown hg hd hd2 hx hxl
  have hcs : (cells54 (row.take n)).length = Nat.min row.length n * 2 := by
    rw [cells54_length, List.length_take, Nat.min_comm]
  have HC := Aside0.mk hcs
  clear hcs
  go_wp2_with (refine wpList_copy_sized rfl _ _ 50 50 rfl 54 2 Try.underlying50 (by rw [hi]; simp [hz1]) _ n n A1 row.length c1 rfl rfl w.heap.size 54 _ HO.out (cells54 (row.take n)) HC.out ?k1 ?k2 (cells54_one _) ?_)
  case k1 =>
    intro hA
    have := HI1.out.2.2
    have h0 : row.length = 0 := by
      rcases Nat.eq_zero_or_pos row.length with h0 | h0
      · exact h0
      · obtain ⟨ad2, he, _⟩ := this h0
        rw [he] at hA; cases hA
    rw [List.eq_nil_of_length_eq_zero h0]; simp [cells54]
  case k2 =>
    intro a ha2 j v hv
    subst ha2
    have hv2 : (cells54 row)[j]? = some v := by
      have e := List.take_append_drop n row
      rw [← e, cells54_append, List.getElem?_append_left (List.getElem?_eq_some_iff.1 hv).1]
      exact hv
    have hcell := C54_cells HI1.out j v hv2
    exact (HB.out.cell (World.block_lt_of_cell? w _ hcell)).trans hcell
  intro w2 hown2 hg2
  have HO2 := Aside0.mk hown2
  have HB2 : Aside0 (Below w.heap.size w w2) := ⟨HB.out.grown hg2 HB.out.size (fun k hk => by cases hk; exact Nat.le_succ _)⟩
  clear hown2 hg2 g0 g1 g2 hx1
  go_wp2
  go_ret
  refine ⟨_, rfl, R54_of ?_ (fun _ _ => trivial), HB2.out⟩
  rw [padS_length]
  have e : (cells54 (row.take n) ++ (cells54 (List.replicate n z54)).drop (cells54 (row.take n)).length) = cells54 (padS n row) := by
    unfold padS
    rw [cells54_append]
    congr 1
    rw [cells54_length, List.length_take]
    have e2 := congrArg cells54 (List.replicate_append_replicate (n := min n row.length) (m := n - row.length) (a := z54))
    rw [show min n row.length + (n - row.length) = n by omega, cells54_append] at e2
    rw [← e2, List.drop_append, List.drop_of_length_le (by rw [cells54_length, List.length_replicate]; exact Nat.le_refl _), cells54_length, List.length_replicate, Nat.sub_self]
    simp
  rw [← e]
  exact HO2.out
def cast_At.f (a0 a1 : Int) (l : List (List S54)) (h p : Int) : Option (List S54) :=
  if IsI a1 ∧ IsI h then (if p < 1 ∨ p > 64 then some [] else some (padS p.toNat (rowAt a1 h l))) else none
theorem cast_At.calls (a0_0 : Int) (a0_1 : Int) (A0_2 : Option Addr) (c0_2 : Nat) (l0_2 : List (List (S54))) (a1 : Int) (a2 : Int) (r : List S54) (w : World) (hr0_2 : Kd.C (Kd.slice 54 k54) w A0_2 l0_2.length l0_2) (hc0_2 : l0_2.length ≤ c0_2) (h : cast_At.f a0_0 a0_1 l0_2 a1 a2 = some r) :
    Calls Try.prog 17 #[.agg #[.int .i64 a0_0, .int .i64 a0_1, .slice A0_2 l0_2.length c0_2], .int .i64 a1, .int .i64 a2] w fun e w' => ∃ v0_ : Value, e = .returned (v0_) ∧ Kd.R k54 54 w' w.heap.size (fun _ => True) v0_ r ∧ Below w.heap.size w w' := by
  unfold cast_At.f at h
  split at h
  · rename_i hI
    split at h
    · rename_i hp
      obtain rfl := Option.some.inj h
      refine (At_out a0_0 a0_1 A0_2 c0_2 l0_2 a1 a2 w hp).mono ?_
      rintro e w' ⟨rfl, hb⟩
      exact ⟨_, rfl, Kd.R_nil _ _ _ _ _, hb⟩
    · rename_i hp
      obtain rfl := Option.some.inj h
      obtain ⟨n, rfl⟩ : ∃ n : Nat, a2 = n := ⟨a2.toNat, by omega⟩
      rw [Int.toNat_natCast]
      by_cases hno : a0_1 ≤ a1 ∧ a1 - a0_1 < l0_2.length
      · unfold rowAt
        rw [if_pos hno]
        exact At_some a0_0 a0_1 A0_2 c0_2 l0_2 a1 n w (by omega) (by omega) hr0_2 hc0_2 hI.1 hI.2 hno.1 hno.2
      · unfold rowAt
        rw [if_neg hno]
        have e : padS n [] = List.replicate n z54 := by simp [padS]
        rw [e]
        exact At_none a0_0 a0_1 A0_2 c0_2 l0_2 a1 n w (by omega) (by omega) hr0_2 hc0_2 hI.1 hI.2 hno
  · cases h
end Go.Proofs.Ytehieahpocbboaa.G
