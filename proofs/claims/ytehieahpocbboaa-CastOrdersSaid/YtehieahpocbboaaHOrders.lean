/-
  Several texts in one: HOrd, HOrders.
-/
import Derived.Test.YtehieahpocbboaaHR
import Derived.Test.YtehieahpocbboaaK17
/-
  bournelaw29.CastOrders: the plain side and the walk.
-/
namespace Go.Proofs.Ytehieahpocbboaa.G
open Go.RowKit Go.Proofs.YtehieahpocbboaaW.PrintWords Go.Proofs.YtehieahpocbboaaW.PrintLast Go.Proofs.YtehieahpocbboaaW.PrintMore
set_option linter.unusedVariables false
set_option linter.unusedSimpArgs false

/-! rows, as printed -/
def rowsB (rain : List (List S54)) : List ByteArray := rain.map fun r => ⟨(numsL (endsL r)).toArray⟩
theorem rows_l1 (a b : Int) (rain : List (List S54)) (i : Nat) (hi : i < rain.length) (hr : IsRain rain) (acc : List ByteArray) (ha : acc.length ≤ 2000) : ∀ (j m k : Nat), m + j = (rd_L3 rain i).length → j + 3000 < k →
    bournelaw29_rows.l1 k acc (i : Int) (endsL ((rd_L3 rain i).take m)) (m : Int) a b rain = bournelaw29_rows.l0 (k - j - 1) (acc ++ [(⟨(numsL (endsL (rd_L3 rain i))).toArray⟩ : ByteArray)]) ((i + 1 : Nat) : Int) a b rain := by
  have hrow := hr.2 _ (take_rd_L3 rain i hi).2
  have hr1 := hr.1
  intro j
  induction j with
  | zero =>
    intro m k hm hk
    obtain ⟨k, rfl⟩ : ∃ n, k = n + 1 := ⟨k - 1, by omega⟩
    simp only [bournelaw29_rows.l1]
    have e2 : wrap64 ((i : Int) + 1) = ((i + 1 : Nat) : Int) := by unfold wrap64; omega
    rw [if_pos (by omega), if_pos (by omega), if_neg (by omega), List.take_of_length_le (by omega), rNums_eq _ (by rw [endsL_length]; omega) (endsL_is _ hrow.2) k (by rw [endsL_length]; omega)]
    simp only [Option.bind_some]
    rw [if_pos (by omega), e2]
    rfl
  | succ j ih =>
    intro m k hm hk
    obtain ⟨k, rfl⟩ : ∃ n, k = n + 1 := ⟨k - 1, by omega⟩
    simp only [bournelaw29_rows.l1]
    have e2 : wrap64 ((m : Int) + 1) = ((m + 1 : Nat) : Int) := by unfold wrap64; omega
    rw [if_pos (by omega), if_pos (by omega), if_pos (by omega), if_pos (by omega)]
    simp only [Option.bind_some]
    rw [if_pos (by rw [endsL_length, List.length_take]; simp; omega), e2]
    have := ih (m + 1) k (by omega) (by omega)
    rw [(take_rd_T54 (rd_L3 rain i) m (by omega)).1, endsL_snoc] at this
    rw [this, show k + 1 - (j + 1) - 1 = k - j - 1 by omega]
set_option maxRecDepth 100000 in
theorem rows_l0 (a b : Int) (rain : List (List S54)) (hr : IsRain rain) : ∀ (j i k : Nat), i + j = rain.length → j * 1010 + 5000 < k →
    bournelaw29_rows.l0 k (rowsB (rain.take i)) (i : Int) a b rain = some (rowsB rain) := by
  intro j
  induction j with
  | zero =>
    intro i k hi hk
    obtain ⟨k, rfl⟩ : ∃ n, k = n + 1 := ⟨k - 1, by omega⟩
    simp only [bournelaw29_rows.l0]
    rw [if_neg (by omega), List.take_of_length_le (by omega)]
  | succ j ih =>
    intro i k hi hk
    obtain ⟨k, rfl⟩ : ∃ n, k = n + 1 := ⟨k - 1, by omega⟩
    have h1 := hr.1
    have ht := take_rd_L3 rain i (by omega)
    have hrow := hr.2 _ ht.2
    simp only [bournelaw29_rows.l0]
    rw [if_pos (by omega)]
    have := rows_l1 a b rain i (by omega) hr (rowsB (rain.take i)) (by unfold rowsB; rw [List.length_map, List.length_take]; omega) (rd_L3 rain i).length 0 k (by omega) (by omega)
    rw [List.take_zero] at this
    have e0 : bournelaw29_rows.l1 k (rowsB (rain.take i)) (i : Int) [] 0 a b rain = _ := this
    rw [e0]
    have := ih (i + 1) (k - (rd_L3 rain i).length - 1) (by omega) (by omega)
    rw [ht.1] at this
    rw [← this]
    congr 2
    unfold rowsB
    rw [List.map_append]
    rfl
set_option maxRecDepth 100000 in
theorem rows_eq (a b : Int) (rain : List (List S54)) (hr : IsRain rain) (k : Nat) (hk : rain.length * 1010 + 6000 < k) : bournelaw29_rows.f k a b rain = some (rowsB rain) := by
  have := rows_l0 a b rain hr rain.length 0 k (by omega) (by omega)
  rw [List.take_zero] at this
  exact this

/-! the order -/
theorem np_intL {a b : Int} (ha : IsI a) (hb : IsI b) (h : a ≠ b) : NP (intL a) (intL b) := by
  constructor
  · intro t e
    exact h (intL_inj a b t [] ha hb (by rw [e, List.append_nil])).1
  · intro t e
    exact h (intL_inj b a t [] hb ha (by rw [e, List.append_nil])).1.symm
theorem np_numsL {a b : List Int} (ha : ∀ n ∈ a, IsI n) (hb : ∀ n ∈ b, IsI n) (h : a ≠ b) : NP (numsL a) (numsL b) := by
  constructor
  · intro t e
    exact h (numsL_inj a b t [] ha hb (by rw [e, List.append_nil])).1
  · intro t e
    exact h (numsL_inj b a t [] hb ha (by rw [e, List.append_nil])).1.symm
theorem less_cons (c : UInt8) (x y : List UInt8) : Op.bytesLess (c :: x) (c :: y) = Op.bytesLess x y := less_same [c] x y
/-- Either the first numbers differ, or the rest decides. -/
theorem head_less (a b : Int) (x y : List UInt8) (us vs : List Int) (ha : IsI a) (hb : IsI b) (h : a = b → Op.bytesLess x y = Op.bytesLess (numsL us) (numsL vs)) :
    Op.bytesLess (intL a ++ x) (intL b ++ y) = Op.bytesLess (numsL (a :: us)) (numsL (b :: vs)) := by
  rw [numsL_cons, numsL_cons, less_cons]
  by_cases e : a = b
  · subst e
    rw [less_same, less_same, h rfl]
  · rw [less_np _ _ _ _ (np_intL ha hb e), less_np _ _ _ _ (np_intL ha hb e)]
def headL (n : S29) : List Int := [n.f1, n.f0, n.f2.f0, n.f2.f1]
theorem headL_is (n : S29) (h : IsN n) : ∀ x ∈ headL n, IsI x := by
  intro x hx
  simp only [headL, List.mem_cons, List.not_mem_nil, or_false] at hx
  rcases hx with rfl | rfl | rfl | rfl
  · exact h.2.1
  · exact h.1
  · exact h.2.2.1
  · exact h.2.2.2.1
theorem orders_head (m n : S29) (hm : IsN m) (hn : IsN n) (h : headL m ≠ headL n) : Op.bytesLess (bytesN m) (bytesN n) = Op.bytesLess (numsL (headL m)) (numsL (headL n)) := by
  unfold bytesN newsL headL
  simp only [List.append_assoc]
  refine head_less _ _ _ _ _ _ hm.2.1 hn.2.1 fun e1 => head_less _ _ _ _ _ _ hm.1 hn.1 fun e2 => head_less _ _ _ _ _ _ hm.2.2.1 hn.2.2.1 fun e3 => ?_
  rw [numsL_cons, numsL_cons, less_cons]
  by_cases e4 : m.f2.f1 = n.f2.f1
  · exact absurd (by unfold headL; rw [e1, e2, e3, e4]) h
  · rw [less_np _ _ _ _ (np_intL hm.2.2.2.1 hn.2.2.2.1 e4), less_np _ _ _ _ (np_intL hm.2.2.2.1 hn.2.2.2.1 e4)]
theorem orders_tail (m n : S29) (h : headL m = headL n) : Op.bytesLess (bytesN m) (bytesN n) = Op.bytesLess (rowsL m.f2.f2 ++ [0]) (rowsL n.f2.f2 ++ [0]) := by
  unfold headL at h
  simp only [List.cons.injEq, and_true] at h
  unfold bytesN newsL
  rw [h.1, h.2.1, h.2.2.1, h.2.2.2]
  simp only [List.append_assoc]
  rw [less_same, less_same, less_same, less_same]
theorem rows_diff : ∀ (i : Nat) (a b : List (List S54)), (∀ r ∈ a, ∀ s ∈ r, IsS s) → (∀ r ∈ b, ∀ s ∈ r, IsS s) → a.take i = b.take i → ∀ (ha : i < a.length) (hb : i < b.length), a[i] ≠ b[i] →
    Op.bytesLess (rowsL a ++ [0]) (rowsL b ++ [0]) = Op.bytesLess (numsL (endsL a[i])) (numsL (endsL b[i]))
  | 0, r :: a, s :: b, hra, hrb, _, _, _, hne => by
    rw [rowsL_cons, rowsL_cons, List.cons_append, List.cons_append, less_cons, List.append_assoc, List.append_assoc]
    exact less_np _ _ _ _ (np_numsL (endsL_is r (hra r List.mem_cons_self)) (endsL_is s (hrb s List.mem_cons_self)) (fun e => hne (endsL_inj _ _ e)))
  | i + 1, r :: a, s :: b, hra, hrb, ht, ha, hb, hne => by
    simp only [List.take_succ_cons, List.cons.injEq] at ht
    obtain ⟨rfl, ht⟩ := ht
    rw [rowsL_cons, rowsL_cons, List.cons_append, List.cons_append, less_cons, List.append_assoc, List.append_assoc, less_same]
    exact rows_diff i a b (fun x hx => hra x (List.mem_cons_of_mem _ hx)) (fun x hx => hrb x (List.mem_cons_of_mem _ hx)) ht (by simpa using ha) (by simpa using hb) hne
theorem rows_same : ∀ (a b : List (List S54)), a.take (min a.length b.length) = b.take (min a.length b.length) → Op.bytesLess (rowsL a ++ [0]) (rowsL b ++ [0]) = decide (a.length < b.length)
  | [], [], _ => by simp [rowsL, Op.bytesLess]
  | [], s :: b, _ => by rw [rowsL_cons]; simp [rowsL, Op.bytesLess]
  | r :: a, [], _ => by rw [rowsL_cons]; simp [rowsL, Op.bytesLess]
  | r :: a, s :: b, ht => by
    have e : min (r :: a).length (s :: b).length = min a.length b.length + 1 := by simp only [List.length_cons]; omega
    rw [e, List.take_succ_cons, List.take_succ_cons, List.cons.injEq] at ht
    obtain ⟨rfl, ht⟩ := ht
    rw [rowsL_cons, rowsL_cons, List.cons_append, List.cons_append, less_cons, List.append_assoc, List.append_assoc, less_same, rows_same a b ht]
    simp only [List.length_cons]
    congr 1
    simp
theorem rows_eq_len (a b : List (List S54)) (ht : a.take (min a.length b.length) = b.take (min a.length b.length)) : a = b ↔ a.length = b.length := by
  constructor
  · rintro rfl; rfl
  · intro h
    rw [h, Nat.min_self, List.take_of_length_le (by omega), List.take_of_length_le (by omega)] at ht
    exact ht
theorem tail_eq (m n : S29) (hm : IsN m) (hn : IsN n) (h : headL m = headL n) : bytesN m = bytesN n ↔ m.f2.f2 = n.f2.f2 := by
  constructor
  · intro e; rw [bytesN_inj m n hm hn e]
  · intro e
    unfold headL at h
    simp only [List.cons.injEq, and_true] at h
    unfold bytesN
    rw [h.1, h.2.1, h.2.2.1, h.2.2.2, e]
end Go.Proofs.Ytehieahpocbboaa.G
/-
  bournelaw29.CastOrders, walked.
-/
namespace Go.Proofs.Ytehieahpocbboaa.G
open Go.RowKit Go.Proofs.YtehieahpocbboaaW.PrintWords Go.Proofs.YtehieahpocbboaaW.PrintLast Go.Proofs.YtehieahpocbboaaW.PrintMore
set_option linter.unusedVariables false
set_option linter.unusedSimpArgs false
theorem C_lit4 (W : World) (x y z u : Int) : Kd.C (Kd.int .i64) (W.alloc (.cells #[.int .i64 x, .int .i64 y, .int .i64 z, .int .i64 u] 3)) (some ⟨W.heap.size, 0, none⟩) 4 [x, y, z, u] := by
  refine ⟨rfl, by omega, fun _ => ⟨_, rfl, fun j s hj => ?_⟩⟩
  have had : ∀ m, (⟨W.heap.size, 0, none⟩ : Addr).add m = ⟨W.heap.size, m, none⟩ := fun m => by unfold Addr.add; split <;> simp_all
  refine ⟨[.int .i64 s], rfl, rfl, fun i v hv => ?_⟩
  have hi := (List.getElem?_eq_some_iff.1 hv).1
  simp at hi
  subst hi
  simp at hv
  subst hv
  rw [had, show j * (Kd.int .i64).sz + 0 = j by show j * 1 + 0 = j; omega, Lib.cell_of_heap (heap_alloc_new W _)]
  match j, hj with
  | 0, hj => simp at hj; subst hj; rfl
  | 1, hj => simp at hj; subst hj; rfl
  | 2, hj => simp at hj; subst hj; rfl
  | 3, hj => simp at hj; subst hj; rfl
/-- The two boxes of the parameters. -/
def TwoBox (W : World) (p q : Nat) (a b : S29) (A B : Option Addr) (ca cb : Nat) : Prop :=
  W.cell? ⟨p, 0, none⟩ = some (.int .i64 a.f0) ∧ W.cell? ⟨p, 1, none⟩ = some (.int .i64 a.f1) ∧ W.cell? ⟨p, 2, none⟩ = some (.int .i64 a.f2.f0) ∧ W.cell? ⟨p, 3, none⟩ = some (.int .i64 a.f2.f1) ∧ W.cell? ⟨p, 4, none⟩ = some (.slice A a.f2.f2.length ca) ∧
  W.cell? ⟨q, 0, none⟩ = some (.int .i64 b.f0) ∧ W.cell? ⟨q, 1, none⟩ = some (.int .i64 b.f1) ∧ W.cell? ⟨q, 2, none⟩ = some (.int .i64 b.f2.f0) ∧ W.cell? ⟨q, 3, none⟩ = some (.int .i64 b.f2.f1) ∧ W.cell? ⟨q, 4, none⟩ = some (.slice B b.f2.f2.length cb)
theorem TwoBox.move {W w : World} {p q : Nat} {a b : S29} {A B : Option Addr} {ca cb : Nat} (h : TwoBox W p q a b A B ca cb) (hb : Below W.heap.size W w) : TwoBox w p q a b A B ca cb := by
  obtain ⟨a0, a1, a2, a3, a4, b0, b1, b2, b3, b4⟩ := h
  have key : ∀ {a : Addr} {v : Value}, W.cell? a = some v → w.cell? a = some v := fun hc => (hb.cell (World.block_lt_of_cell? W _ hc)).trans hc
  exact ⟨key a0, key a1, key a2, key a3, key a4, key b0, key b1, key b2, key b3, key b4⟩
theorem two_few {w W : World} {a b : S29} {A B : Option Addr} {ca cb : Nat} (hA : Kd.C (Kd.slice 54 k54) w A a.f2.f2.length a.f2.f2) (hca : a.f2.f2.length ≤ ca) (hB : Kd.C (Kd.slice 54 k54) w B b.f2.f2.length b.f2.f2) (hcb : b.f2.f2.length ≤ cb) (hb : Below w.heap.size w W) (r : Bool) (k : Nat) (hf : bournelaw29_few.f k [a, b] = some r) :
    Calls Try.prog 10 #[.slice (some ⟨W.heap.size, 0, none⟩) 2 2] (W.alloc (.cells #[.int .i64 a.f0, .int .i64 a.f1, .int .i64 a.f2.f0, .int .i64 a.f2.f1, .slice A a.f2.f2.length ca, .int .i64 b.f0, .int .i64 b.f1, .int .i64 b.f2.f0, .int .i64 b.f2.f1, .slice B b.f2.f2.length cb] 29)) fun e w' => e = .returned (.bool r) ∧ Below W.heap.size W w' := by
  have hb2 : Below w.heap.size w (W.alloc (.cells #[.int .i64 a.f0, .int .i64 a.f1, .int .i64 a.f2.f0, .int .i64 a.f2.f1, .slice A a.f2.f2.length ca, .int .i64 b.f0, .int .i64 b.f1, .int .i64 b.f2.f0, .int .i64 b.f2.f1, .slice B b.f2.f2.length cb] 29)) := hb.alloc hb.size _
  refine (bournelaw29_few.calls k (some ⟨W.heap.size, 0, none⟩) 2 [a, b] r _ (C_two (Kd.C_below hA hb2) hca (Kd.C_below hB hb2) hcb (fun i u hu => ?_)) (Nat.le_refl _) hf).mono ?_
  · rw [Lib.cell_of_heap (heap_alloc_new W _), List.getElem?_toArray]; exact hu
  · rintro e w' ⟨rfl, hd⟩
    exact ⟨rfl, ((Below.refl _ _).alloc (Nat.le_refl _) _).trans (hd.below.mono (by simp))⟩
theorem nums_head {W : World} (n : S29) (hn : IsN n) :
    Calls Try.prog 13 #[.slice (some ⟨W.heap.size, 0, none⟩) 4 4] (W.alloc (.cells #[.int .i64 n.f1, .int .i64 n.f0, .int .i64 n.f2.f0, .int .i64 n.f2.f1] 3)) fun e w' => e = .returned (.string ⟨(numsL (headL n)).toArray⟩) ∧ Below W.heap.size W w' := by
  refine (wire_Nums.calls (some ⟨W.heap.size, 0, none⟩) 4 (headL n) ⟨(numsL (headL n)).toArray⟩ _ (C_lit4 W _ _ _ _) (Nat.le_refl _) ?_).mono ?_
  · unfold wire_Nums.f
    rw [if_pos ⟨by simp [headL], headL_is n hn⟩]
  · rintro e w' ⟨rfl, hd⟩
    exact ⟨rfl, ((Below.refl _ _).alloc (Nat.le_refl _) _).trans (hd.mono (by simp))⟩
set_option maxHeartbeats 8000000 in
set_option maxRecDepth 100000 in
theorem Orders_walk (a b : S29) (A B : Option Addr) (ca cb : Nat) (w : World) (hA : Kd.C (Kd.slice 54 k54) w A a.f2.f2.length a.f2.f2) (hca : a.f2.f2.length ≤ ca) (hB : Kd.C (Kd.slice 54 k54) w B b.f2.f2.length b.f2.f2) (hcb : b.f2.f2.length ≤ cb) (hab : fewB [a, b] = true) (ha : IsN a) (hb : IsN b) :
    Calls Try.prog 5 #[.agg #[.int .i64 a.f0, .int .i64 a.f1, .int .i64 a.f2.f0, .int .i64 a.f2.f1, .slice A a.f2.f2.length ca], .agg #[.int .i64 b.f0, .int .i64 b.f1, .int .i64 b.f2.f0, .int .i64 b.f2.f1, .slice B b.f2.f2.length cb]] w fun e w' => e = .returned (.bool true) ∧ Below w.heap.size w w' := by
  have hu29 := Try.underlying29
  have HA := Aside0.mk hA
  have HB := Aside0.mk hB
  have HF := Aside0.mk (few_eq [a, b] 2001 (by omega))
  rw [hab] at HF
  have Ha := Aside0.mk ha
  have Hb := Aside0.mk hb
  clear hA hB hab ha hb
  go_enter Try.func5, Try.ntmps5
  go_wp2_with fail
  refine (small_calls _).mono ?_
  rintro e w1 ⟨rfl, hb1⟩
  obtain ⟨W0, hW0⟩ : ∃ W0 : World, W0 = (w.alloc (.cells #[.int .i64 a.f0, .int .i64 a.f1, .int .i64 a.f2.f0, .int .i64 a.f2.f1, .slice A a.f2.f2.length ca] 29)).alloc (.cells #[.int .i64 b.f0, .int .i64 b.f1, .int .i64 b.f2.f0, .int .i64 b.f2.f1, .slice B b.f2.f2.length cb] 29) := ⟨_, rfl⟩
  rw [← hW0] at hb1
  have HBX : Aside0 (TwoBox W0 w.heap.size (w.heap.size + 1) a b A B ca cb) := ⟨by rw [hW0]; refine ⟨?_, ?_, ?_, ?_, ?_, ?_, ?_, ?_, ?_, ?_⟩ <;> simp [go_sem]⟩
  have HB0 : Aside0 (Below w.heap.size w W0) := ⟨by rw [hW0]; exact ((Below.refl _ _).alloc (Nat.le_refl _) _).alloc (by simp) _⟩
  have HB1 := Aside0.mk hb1
  clear hW0 hb1
  obtain ⟨p0, p1, p2, p3, p4, q0, q1, q2, q3, q4⟩ := HBX.out.move HB1.out
  go_wp2_with fail
  refine (two_few HA.out hca HB.out hcb (below_then HB0.out HB0.out.size HB1.out) true 2001 HF.out).mono ?_
  rintro e w2 ⟨rfl, hb2⟩
  have HB2 := Aside0.mk (HB1.out.trans (hb2.mono HB1.out.size))
  clear hb2 HB1 p0 p1 p2 p3 p4 q0 q1 q2 q3 q4
  obtain ⟨p0, p1, p2, p3, p4, q0, q1, q2, q3, q4⟩ := HBX.out.move HB2.out
  go_wp2_with fail
  refine (nums_head a Ha.out).mono ?_
  rintro e w3 ⟨rfl, hb3⟩
  have HB3 := Aside0.mk (HB2.out.trans (hb3.mono HB2.out.size))
  clear hb3 HB2 p0 p1 p2 p3 p4 q0 q1 q2 q3 q4
  obtain ⟨p0, p1, p2, p3, p4, q0, q1, q2, q3, q4⟩ := HBX.out.move HB3.out
  go_wp2_with fail
  refine (nums_head b Hb.out).mono ?_
  rintro e w4 ⟨rfl, hb4⟩
  have HB4 := Aside0.mk (HB3.out.trans (hb4.mono HB3.out.size))
  clear hb4 HB3 p0 p1 p2 p3 p4 q0 q1 q2 q3 q4
  obtain ⟨p0, p1, p2, p3, p4, q0, q1, q2, q3, q4⟩ := HBX.out.move HB4.out
  go_wp2_with fail
  refine (BytesN a A ca w _ (below_then HB0.out HB0.out.size HB4.out) hca HA.out Ha.out).mono ?_
  rintro e w5 ⟨rfl, hb5⟩
  have HB5 := Aside0.mk (HB4.out.trans (hb5.mono HB4.out.size))
  clear hb5 HB4 p0 p1 p2 p3 p4 q0 q1 q2 q3 q4
  obtain ⟨p0, p1, p2, p3, p4, q0, q1, q2, q3, q4⟩ := HBX.out.move HB5.out
  go_wp2_with fail
  refine (BytesN b B cb w _ (below_then HB0.out HB0.out.size HB5.out) hcb HB.out Hb.out).mono ?_
  rintro e w6 ⟨rfl, hb6⟩
  have HB6 := Aside0.mk (HB5.out.trans (hb6.mono HB5.out.size))
  clear hb6 HB5 p0 p1 p2 p3 p4 q0 q1 q2 q3 q4
  obtain ⟨p0, p1, p2, p3, p4, q0, q1, q2, q3, q4⟩ := HBX.out.move HB6.out
  by_cases he : headL a = headL b
  · rw [← he]
    obtain ⟨ka, hka⟩ : ∃ k, a.f2.f2.length * 1010 + 6000 < k := ⟨_, Nat.lt_succ_self _⟩
    obtain ⟨kb, hkb⟩ : ∃ k, b.f2.f2.length * 1010 + 6000 < k := ⟨_, Nat.lt_succ_self _⟩
    have HRA := Aside0.mk (rows_eq a.f2.f0 a.f2.f1 a.f2.f2 Ha.out.2.2.2.2 ka hka)
    have HRB := Aside0.mk (rows_eq b.f2.f0 b.f2.f1 b.f2.f2 Hb.out.2.2.2.2 kb hkb)
    clear hka hkb
    have HE := Aside0.mk he
    clear he
    go_wp2_with fail
    refine (bournelaw29_rows.calls ka a.f2.f0 a.f2.f1 A ca a.f2.f2 (rowsB a.f2.f2) _ (Kd.C_below HA.out (below_then HB0.out HB0.out.size HB6.out)) hca HRA.out).mono ?_
    rintro e w7 ⟨va, rfl, hra, hb7⟩
    obtain ⟨Ap, cp, rfl, hlp, hcp⟩ := Kd.R_reads hra
    have HCP := Aside0.mk hcp
    have HB7 := Aside0.mk (HB6.out.trans (hb7.mono HB6.out.size))
    clear hb7 HB6 p0 p1 p2 p3 p4 q0 q1 q2 q3 q4 hra hcp
    obtain ⟨p0, p1, p2, p3, p4, q0, q1, q2, q3, q4⟩ := HBX.out.move HB7.out
    go_wp2_with fail
    refine (bournelaw29_rows.calls kb b.f2.f0 b.f2.f1 B cb b.f2.f2 (rowsB b.f2.f2) _ (Kd.C_below HB.out (below_then HB0.out HB0.out.size HB7.out)) hcb HRB.out).mono ?_
    rintro e w8 ⟨vb, rfl, hrb, hb8⟩
    obtain ⟨Aq, cq, rfl, hlq, hcq⟩ := Kd.R_reads hrb
    have HCQ := Aside0.mk hcq
    have HCP8 := Aside0.mk (Kd.C_below HCP.out hb8)
    have HB8 := Aside0.mk (HB0.out.trans ((HB7.out.trans (hb8.mono HB7.out.size)).mono HB0.out.size))
    clear hb8 HB7 HCP p0 p1 p2 p3 p4 q0 q1 q2 q3 q4 hrb hcq HBX HRA HRB HF
    have elp : (rowsB a.f2.f2).length = a.f2.f2.length := by unfold rowsB; rw [List.length_map]
    have elq : (rowsB b.f2.f2).length = b.f2.f2.length := by unfold rowsB; rw [List.length_map]
    have hwa := Aside0.mk (fun r hr => (Ha.out.2.2.2.2.2 r hr).2)
    have hwb := Aside0.mk (fun r hr => (Hb.out.2.2.2.2.2 r hr).2)
    have hta := Aside0.mk (orders_tail a b HE.out)
    have h1000 : a.f2.f2.length ≤ 1000 := Ha.out.2.2.2.2.1
    rw [elp, elq]
    rw [elp] at HCP8 hlp
    rw [elq] at HCQ hlq
    clear elp elq
    go_wp2
    go_loopw [13] (fun i wr => ∃ j : Nat, j ≤ a.f2.f2.length ∧ j ≤ b.f2.f2.length ∧ i = .int .i64 j ∧ Aside0 (a.f2.f2.take j = b.f2.f2.take j) ∧ Aside0 (Below w8.heap.size w8 wr)) (fun i _ => a.f2.f2.length - (intOf i).toNat)
    case atStart => exact ⟨0, Nat.zero_le _, Nat.zero_le _, rfl, ⟨rfl⟩, ⟨Below.refl _ _⟩⟩
    case round =>
      obtain ⟨j, hja, hjb, rfl, HT, HBr⟩ := hrel
      by_cases hlt : j < a.f2.f2.length ∧ j < b.f2.f2.length
      · obtain ⟨hlta, hltb⟩ := hlt
        obtain ⟨ad, rfl, gx⟩ := Kd.at_string HCP8.out j (by omega) (by omega)
        obtain ⟨ad', rfl, gy⟩ := Kd.at_string HCQ.out j (by omega) (by omega)
        replace gx := (HBr.out.cell (World.block_lt_of_cell? w8 _ gx)).trans gx
        replace gy := (HBr.out.cell (World.block_lt_of_cell? w8 _ gy)).trans gy
        have ex : rdOf ByteArray.empty (rowsB a.f2.f2) (j : Int) = ⟨(numsL (endsL a.f2.f2[j])).toArray⟩ := by
          unfold rdOf rowsB
          rw [Int.toNat_natCast, List.getD_eq_getElem?_getD, List.getElem?_map, List.getElem?_eq_getElem hlta]; rfl
        have ey : rdOf ByteArray.empty (rowsB b.f2.f2) (j : Int) = ⟨(numsL (endsL b.f2.f2[j])).toArray⟩ := by
          unfold rdOf rowsB
          rw [Int.toNat_natCast, List.getD_eq_getElem?_getD, List.getElem?_map, List.getElem?_eq_getElem hltb]; rfl
        rw [ex, Int.toNat_natCast] at gx
        rw [ey, Int.toNat_natCast] at gy
        clear ex ey
        by_cases hr : a.f2.f2[j] = b.f2.f2[j]
        · rw [← hr] at gy
          have HR := Aside0.mk hr
          obtain ⟨P, hP⟩ : ∃ P, P = numsL (endsL a.f2.f2[j]) := ⟨_, rfl⟩
          rw [← hP] at gx gy
          clear hr hP
          go_wp2
          go_quiet (fail)
          rename_i nq
          go_wp2
          go_roundw
          case rel => exact ⟨j + 1, by omega, by omega, by go_num, ⟨by rw [List.take_succ_eq_append_getElem hlta, List.take_succ_eq_append_getElem hltb, HT.out, HR.out]⟩, ⟨pw_below_drewN HBr.out nq⟩⟩
          case measure => simp [intOf]; omega
        · have hne : ¬ numsL (endsL a.f2.f2[j]) = numsL (endsL b.f2.f2[j]) := fun e => hr (endsL_inj _ _ (numsL_inj _ _ [] [] (endsL_is _ (hwa.out _ (List.getElem_mem hlta))) (endsL_is _ (hwb.out _ (List.getElem_mem hltb))) (by rw [e])).1)
          have hl := hta.out.trans (rows_diff j _ _ hwa.out hwb.out HT.out hlta hltb hr)
          obtain ⟨P, hP⟩ : ∃ P, P = numsL (endsL a.f2.f2[j]) := ⟨_, rfl⟩
          obtain ⟨Q, hQ⟩ : ∃ Q, Q = numsL (endsL b.f2.f2[j]) := ⟨_, rfl⟩
          rw [← hP] at gx hne hl
          rw [← hQ] at gy hne hl
          have hne2 : (P == Q) = false := beq_false_of_ne hne
          clear hr hP hQ
          go_wp2
          go_quiet (fail)
          rename_i nq
          go_wp2
          go_quiet (fail)
          go_wp2
          go_ret
          exact ⟨rfl, HB8.out.trans ((pw_below_drewN (pw_below_drewN HBr.out _) _).mono HB8.out.size)⟩
      · have hmin : j = min a.f2.f2.length b.f2.f2.length := by omega
        have HT2 := HT.out
        rw [hmin] at HT2
        have h1 := hta.out.trans (rows_same _ _ HT2)
        have h2 := (tail_eq a b Ha.out Hb.out HE.out).trans (rows_eq_len _ _ HT2)
        clear HT2 hmin
        rcases Nat.lt_trichotomy a.f2.f2.length b.f2.f2.length with hab | hab | hab
        · rw [decide_eq_true hab] at h1
          have hne : ¬ bytesN a = bytesN b := fun e => by have := h2.1 e; omega
          have hne2 : (bytesN a == bytesN b) = false := beq_false_of_ne hne
          have hd1 : decide (a.f2.f2.length < b.f2.f2.length) = true := decide_eq_true hab
          have hd2 : ¬ a.f2.f2.length = b.f2.f2.length := by omega
          have hd5 : ((a.f2.f2.length : Int) == (b.f2.f2.length : Int)) = false := beq_false_of_ne (by omega)
          have hd3 : decide (j < a.f2.f2.length) = false := decide_eq_false (by omega)
          clear h2
          go_wp2
          go_ret
          exact ⟨rfl, HB8.out.trans (HBr.out.mono HB8.out.size)⟩
        · have e := h2.2 hab
          rw [← e] at h1 ⊢
          rw [less_irr] at h1
          have hirr := less_irr (bytesN a)
          have hd1 : decide (a.f2.f2.length < b.f2.f2.length) = false := decide_eq_false (by omega)
          have hd3 : decide (j < a.f2.f2.length) = false := decide_eq_false (by omega)
          have hd4 : decide (j < b.f2.f2.length) = false := decide_eq_false (by omega)
          clear h2 e h1
          go_wp2
          go_ret
          exact ⟨rfl, HB8.out.trans (HBr.out.mono HB8.out.size)⟩
        · rw [decide_eq_false (by omega)] at h1
          have hne : ¬ bytesN a = bytesN b := fun e => by have := h2.1 e; omega
          have hne2 : (bytesN a == bytesN b) = false := beq_false_of_ne hne
          have hd1 : decide (a.f2.f2.length < b.f2.f2.length) = false := decide_eq_false (by omega)
          have hd2 : ¬ a.f2.f2.length = b.f2.f2.length := by omega
          have hd5 : ((a.f2.f2.length : Int) == (b.f2.f2.length : Int)) = false := beq_false_of_ne (by omega)
          have hd3 : decide (j < a.f2.f2.length) = true := decide_eq_true (by omega)
          have hd4 : decide (j < b.f2.f2.length) = false := decide_eq_false (by omega)
          clear h2
          go_wp2
          go_ret
          exact ⟨rfl, HB8.out.trans (HBr.out.mono HB8.out.size)⟩
  · have hne : ¬ numsL (headL a) = numsL (headL b) := fun e => he (by
      have := numsL_inj (headL a) (headL b) [] [] (headL_is a Ha.out) (headL_is b Hb.out) (by rw [e])
      exact this.1)
    have hne2 : (numsL (headL a) == numsL (headL b)) = false := beq_false_of_ne hne
    have hl := orders_head a b Ha.out Hb.out he
    clear he
    go_wp2
    go_ret
    exact ⟨rfl, HB0.out.trans (HB6.out.mono HB0.out.size)⟩
set_option maxHeartbeats 4000000 in
set_option maxRecDepth 100000 in
theorem Orders_few (a b : S29) (A B : Option Addr) (ca cb : Nat) (w : World) (hA : Kd.C (Kd.slice 54 k54) w A a.f2.f2.length a.f2.f2) (hca : a.f2.f2.length ≤ ca) (hB : Kd.C (Kd.slice 54 k54) w B b.f2.f2.length b.f2.f2) (hcb : b.f2.f2.length ≤ cb) (hab : fewB [a, b] = false) :
    Calls Try.prog 5 #[.agg #[.int .i64 a.f0, .int .i64 a.f1, .int .i64 a.f2.f0, .int .i64 a.f2.f1, .slice A a.f2.f2.length ca], .agg #[.int .i64 b.f0, .int .i64 b.f1, .int .i64 b.f2.f0, .int .i64 b.f2.f1, .slice B b.f2.f2.length cb]] w fun e w' => e = .returned (.bool true) ∧ Below w.heap.size w w' := by
  have hu29 := Try.underlying29
  have HA := Aside0.mk hA
  have HB := Aside0.mk hB
  have HF := Aside0.mk (few_eq [a, b] 2001 (by omega))
  rw [hab] at HF
  clear hA hB hab
  go_enter Try.func5, Try.ntmps5
  go_wp2_with fail
  refine (small_calls _).mono ?_
  rintro e w1 ⟨rfl, hb1⟩
  obtain ⟨W0, hW0⟩ : ∃ W0 : World, W0 = (w.alloc (.cells #[.int .i64 a.f0, .int .i64 a.f1, .int .i64 a.f2.f0, .int .i64 a.f2.f1, .slice A a.f2.f2.length ca] 29)).alloc (.cells #[.int .i64 b.f0, .int .i64 b.f1, .int .i64 b.f2.f0, .int .i64 b.f2.f1, .slice B b.f2.f2.length cb] 29) := ⟨_, rfl⟩
  rw [← hW0] at hb1
  have HBX : Aside0 (TwoBox W0 w.heap.size (w.heap.size + 1) a b A B ca cb) := ⟨by rw [hW0]; refine ⟨?_, ?_, ?_, ?_, ?_, ?_, ?_, ?_, ?_, ?_⟩ <;> simp [go_sem]⟩
  have HB0 : Aside0 (Below w.heap.size w W0) := ⟨by rw [hW0]; exact ((Below.refl _ _).alloc (Nat.le_refl _) _).alloc (by simp) _⟩
  have HB1 := Aside0.mk hb1
  clear hW0 hb1
  obtain ⟨p0, p1, p2, p3, p4, q0, q1, q2, q3, q4⟩ := HBX.out.move HB1.out
  go_wp2_with fail
  refine (two_few HA.out hca HB.out hcb (below_then HB0.out HB0.out.size HB1.out) false 2001 HF.out).mono ?_
  rintro e w2 ⟨rfl, hb2⟩
  have HB2 := Aside0.mk (HB1.out.trans (hb2.mono HB1.out.size))
  clear hb2 HB1 p0 p1 p2 p3 p4 q0 q1 q2 q3 q4
  go_wp2
  go_ret
  exact ⟨rfl, HB0.out.trans (HB2.out.mono HB0.out.size)⟩
theorem Orders_calls (a b : S29) (A B : Option Addr) (ca cb : Nat) (w : World) (hA : Kd.C (Kd.slice 54 k54) w A a.f2.f2.length a.f2.f2) (hca : a.f2.f2.length ≤ ca) (hB : Kd.C (Kd.slice 54 k54) w B b.f2.f2.length b.f2.f2) (hcb : b.f2.f2.length ≤ cb) (ha : WfN a) (hb : WfN b) :
    Calls Try.prog 5 #[.agg #[.int .i64 a.f0, .int .i64 a.f1, .int .i64 a.f2.f0, .int .i64 a.f2.f1, .slice A a.f2.f2.length ca], .agg #[.int .i64 b.f0, .int .i64 b.f1, .int .i64 b.f2.f0, .int .i64 b.f2.f1, .slice B b.f2.f2.length cb]] w fun e w' => e = .returned (.bool true) ∧ Below w.heap.size w w' := by
  cases hf : fewB [a, b] with
  | false => exact Orders_few a b A B ca cb w hA hca hB hcb hf
  | true =>
    have hok := (fewB_ok (l := [a, b]) hf (fun n hn => by simp at hn; rcases hn with rfl | rfl; exact ha; exact hb)).1.2
    exact Orders_walk a b A B ca cb w hA hca hB hcb hf (hok a (by simp)) (hok b (by simp))
end Go.Proofs.Ytehieahpocbboaa.G
