import Derived.Laws.Cover1
import Derived.Test.YtioekkdodggakaaDoorHKeys
import Derived.Test.YtioekkdodggakaaDoorHConcat
/-
  series.voids, series.Void.
-/
namespace Go.Proofs.YtioekkdodggakaaDoor.G
open Go.RowKit Go.Proofs.YtioekkdodggakaaDoorW.PrintWords Go.Proofs.YtioekkdodggakaaDoorW.PrintLast Go.Proofs.YtioekkdodggakaaDoorW.PrintMore
set_option linter.unusedVariables false
set_option linter.unusedSimpArgs false
/-! plainly -/
/-- A gauge contradicts itself. -/
def voidP (l : List S29) (g : Int) : Prop := ∃ x ∈ l, ∃ y ∈ l, x.f0 = g ∧ y.f0 = g ∧ x.f1 = y.f1 ∧ x ≠ y
instance (l : List S29) (g : Int) : Decidable (voidP l g) := by unfold voidP; infer_instance
theorem voidP_congr {l l' : List S29} (h : ∀ x, x ∈ l ↔ x ∈ l') (g : Int) : voidP l g ↔ voidP l' g := by
  constructor
  · rintro ⟨x, hx, y, hy, r⟩; exact ⟨x, (h x).1 hx, y, (h y).1 hy, r⟩
  · rintro ⟨x, hx, y, hy, r⟩; exact ⟨x, (h x).2 hx, y, (h y).2 hy, r⟩
theorem voidP_new {l : List S29} {x : S29} (h : ∀ y ∈ l, ¬ (y.f0 = x.f0 ∧ y.f1 = x.f1)) (g : Int) : voidP (l ++ [x]) g ↔ voidP l g := by
  constructor
  · rintro ⟨a, ha, b, hb, h1, h2, h3, h4⟩
    rw [List.mem_append, List.mem_singleton] at ha hb
    rcases ha with ha | rfl
    · rcases hb with hb | rfl
      · exact ⟨a, ha, b, hb, h1, h2, h3, h4⟩
      · exact absurd ⟨h1.trans h2.symm, h3⟩ (h a ha)
    · rcases hb with hb | rfl
      · exact absurd ⟨h2.trans h1.symm, h3.symm⟩ (h b hb)
      · exact absurd rfl h4
  · rintro ⟨a, ha, b, hb, r⟩
    exact ⟨a, List.mem_append_left _ ha, b, List.mem_append_left _ hb, r⟩
theorem voidP_same {l : List S29} {x : S29} (h : x ∈ l) (g : Int) : voidP (l ++ [x]) g ↔ voidP l g :=
  voidP_congr (fun y => by rw [List.mem_append, List.mem_singleton]; constructor; (· rintro (h | rfl); exact h; assumption); exact .inl) g
theorem voidP_clash {l : List S29} {x y : S29} (hy : y ∈ l) (h0 : y.f0 = x.f0) (h1 : y.f1 = x.f1) (hne : y ≠ x) (g : Int) : voidP (l ++ [x]) g ↔ g = x.f0 ∨ voidP l g := by
  constructor
  · rintro ⟨a, ha, b, hb, e1, e2, e3, e4⟩
    rw [List.mem_append, List.mem_singleton] at ha hb
    rcases ha with ha | rfl
    · rcases hb with hb | rfl
      · exact .inr ⟨a, ha, b, hb, e1, e2, e3, e4⟩
      · exact .inl e2.symm
    · exact .inl e1.symm
  · rintro (rfl | ⟨a, ha, b, hb, r⟩)
    · exact ⟨y, List.mem_append_left _ hy, x, by simp, h0, rfl, h1, hne⟩
    · exact ⟨a, List.mem_append_left _ ha, b, List.mem_append_left _ hb, r⟩
def numB (x y : S29) : Bool := decide (y.f0 = x.f0 ∧ y.f1 = x.f1)
/-- x is the first of its number. -/
def firstP (l : List S29) (x : S29) : Prop := l.find? (numB x) = some x
def encA (x : S29) : Value := .agg #[.int .i64 x.f0, .int .i64 x.f1, .int .i64 x.f2, .int .i64 x.f3, .string x.f4]
def firstM (l : List S29) (key v : Value) : Prop := ∃ x, firstP l x ∧ key = k2 x.f0 x.f1 ∧ v = encA x
def voidM (l : List S29) (key v : Value) : Prop := v = .bool true ∧ ∃ g, key = .int .i64 g ∧ voidP l g
theorem numB_congr {x y : S29} (h0 : x.f0 = y.f0) (h1 : x.f1 = y.f1) : numB x = numB y := by
  funext z; unfold numB; rw [h0, h1]
theorem firstP_mem {l : List S29} {x : S29} (h : firstP l x) : x ∈ l := List.mem_of_find?_eq_some h
theorem firstM_some {l : List S29} {x y : S29} (h : l.find? (numB x) = some y) : y ∈ l ∧ y.f0 = x.f0 ∧ y.f1 = x.f1 ∧ firstM l (k2 x.f0 x.f1) (encA y) := by
  have h1 := List.find?_some h
  unfold numB at h1
  obtain ⟨h2, h3⟩ := of_decide_eq_true h1
  refine ⟨List.mem_of_find?_eq_some h, h2, h3, y, ?_, by rw [h2, h3], rfl⟩
  unfold firstP
  rw [numB_congr h2 h3]
  exact h
theorem firstM_none {l : List S29} {x : S29} (h : l.find? (numB x) = none) : (∀ y ∈ l, ¬ (y.f0 = x.f0 ∧ y.f1 = x.f1)) ∧ ∀ v, ¬ firstM l (k2 x.f0 x.f1) v := by
  have h1 : ∀ y ∈ l, ¬ (y.f0 = x.f0 ∧ y.f1 = x.f1) := fun y hy e => by
    have := List.find?_eq_none.1 h y hy
    exact this (decide_eq_true e)
  refine ⟨h1, ?_⟩
  rintro v ⟨y, hy, hk, _⟩
  obtain ⟨e0, e1⟩ := k2_inj hk
  exact h1 y (firstP_mem hy) ⟨e0.symm, e1.symm⟩
theorem firstM_new {l : List S29} {x : S29} (h : l.find? (numB x) = none) : ∀ k v, setM (firstM l) (k2 x.f0 x.f1) (encA x) k v ↔ firstM (l ++ [x]) k v := by
  intro k v
  have hx : firstP (l ++ [x]) x := by
    unfold firstP
    rw [List.find?_append, h]
    simp [numB]
  constructor
  · rintro (⟨rfl, rfl⟩ | ⟨hk, y, hy, rfl, rfl⟩)
    · exact ⟨x, hx, rfl, rfl⟩
    · refine ⟨y, ?_, rfl, rfl⟩
      unfold firstP at *
      rw [List.find?_append, hy]; rfl
  · rintro ⟨y, hy, rfl, rfl⟩
    by_cases hk : k2 y.f0 y.f1 = k2 x.f0 x.f1
    · left
      refine ⟨hk, ?_⟩
      obtain ⟨e0, e1⟩ := k2_inj hk
      have : y = x := by
        unfold firstP at hy hx
        rw [numB_congr e0 e1, hx] at hy
        exact (Option.some.inj hy).symm
      rw [this]
    · right
      refine ⟨hk, y, ?_, rfl, rfl⟩
      unfold firstP at *
      rw [List.find?_append] at hy
      cases hf : l.find? (numB y) with
      | some z => rw [hf] at hy; exact hy
      | none =>
        rw [hf] at hy
        have h3 : [x].find? (numB y) = some y := hy
        have h4 := List.mem_of_find?_eq_some h3
        rw [List.mem_singleton] at h4
        subst h4
        exact absurd rfl hk
theorem firstM_old {l : List S29} {x y : S29} (h : l.find? (numB x) = some y) : ∀ k v, firstM l k v ↔ firstM (l ++ [x]) k v := by
  intro k v
  constructor
  · rintro ⟨z, hz, rfl, rfl⟩
    refine ⟨z, ?_, rfl, rfl⟩
    unfold firstP at *
    rw [List.find?_append, hz]; rfl
  · rintro ⟨z, hz, rfl, rfl⟩
    refine ⟨z, ?_, rfl, rfl⟩
    unfold firstP at *
    rw [List.find?_append] at hz
    cases hf : l.find? (numB z) with
    | some u => rw [hf] at hz; exact hz
    | none =>
      rw [hf] at hz
      have h3 : [x].find? (numB z) = some z := hz
      have h4 := List.mem_of_find?_eq_some h3
      rw [List.mem_singleton] at h4
      subst h4
      rw [h] at hf; cases hf
theorem voidM_congr {l l' : List S29} (h : ∀ g, voidP l g ↔ voidP l' g) : ∀ k v, voidM l k v ↔ voidM l' k v := by
  intro k v
  unfold voidM
  constructor
  · rintro ⟨h1, g, h2, h3⟩; exact ⟨h1, g, h2, (h g).1 h3⟩
  · rintro ⟨h1, g, h2, h3⟩; exact ⟨h1, g, h2, (h g).2 h3⟩
theorem voidM_clash {l : List S29} {x y : S29} (hy : y ∈ l) (h0 : y.f0 = x.f0) (h1 : y.f1 = x.f1) (hne : y ≠ x) : ∀ k v, setM (voidM l) (.int .i64 x.f0) (.bool true) k v ↔ voidM (l ++ [x]) k v := by
  intro k v
  constructor
  · rintro (⟨rfl, rfl⟩ | ⟨_, h2, g, h3, h4⟩)
    · exact ⟨rfl, x.f0, rfl, (voidP_clash hy h0 h1 hne _).2 (.inl rfl)⟩
    · exact ⟨h2, g, h3, (voidP_clash hy h0 h1 hne _).2 (.inr h4)⟩
  · rintro ⟨h2, g, h3, h4⟩
    by_cases hk : k = .int .i64 x.f0
    · exact .inl ⟨hk, h2⟩
    · right
      refine ⟨hk, h2, g, h3, ?_⟩
      rcases (voidP_clash hy h0 h1 hne _).1 h4 with e | e
      · rw [h3, e] at hk; exact absurd rfl hk
      · exact e
theorem take_rd_T29 (r : List S29) (k : Nat) (h : k < r.length) : r.take (k + 1) = r.take k ++ [rd_T29 r k] ∧ rd_T29 r k ∈ r := by
  have e : rd_T29 r k = r[k] := by
    unfold rd_T29
    rw [Int.toNat_natCast, List.getD_eq_getElem?_getD, List.getElem?_eq_getElem h]; rfl
  rw [e]
  exact ⟨List.take_succ_eq_append_getElem h, List.getElem_mem _⟩
/-! the walk -/
section
variable {k t e : TypeId} {w : World} {b n : Nat} {M : Value → Value → Prop} {ops : Array Oper} {rest : List Oper} {o : Oper} {a : Act} {Q : Exit → Act → World → Prop}
theorem wp_lookR_none (hg : o.guard = none) (m x : Operand) (ok : Bool) (hop : o.op = Op.lookup t m x ok) (K : Maps.Keyed Tryd.prog k) (ht : Tryd.prog.underlying t = some (.map k e)) {zv : Value} (hz : (zeroValue e).run Tryd.prog w = .ok zv w) (hm : a.eval m = .map (some b)) (h : HoldsR k w b n M) (key : Value) (hx : a.eval x = key) {kl : Lit} (hkey : keyOf Tryd.prog k key = some kl) (hM : ∀ v, ¬ M key v)
    (hK : wpList Tryd.prog ops Q rest (a.put o.dst (if ok then .tuple #[zv, .bool false] else zv)) w) : wpList Tryd.prog ops Q (o :: rest) a w := by
  refine wpList_plain hg fun K' hK' => ?_
  have h1 := h.look_none K ht hz hkey hM
  unfold Oper.wp
  cases ok with
  | true =>
    simp [execOp, hop, hm, hx, h1.1, Result.andThen]
    exact hK' _ _ hK
  | false =>
    simp [execOp, hop, hm, hx, h1.2, Result.andThen]
    exact hK' _ _ hK
theorem wp_lookR_some (hg : o.guard = none) (m x : Operand) (ok : Bool) (hop : o.op = Op.lookup t m x ok) (K : Maps.Keyed Tryd.prog k) (ht : Tryd.prog.underlying t = some (.map k e)) {zv : Value} (hz : (zeroValue e).run Tryd.prog w = .ok zv w) (hm : a.eval m = .map (some b)) (h : HoldsR k w b n M) (key : Value) (hx : a.eval x = key) {kl : Lit} (hkey : keyOf Tryd.prog k key = some kl) (u : Value) (hM : M key u)
    (hK : wpList Tryd.prog ops Q rest (a.put o.dst (if ok then .tuple #[u, .bool true] else u)) w) : wpList Tryd.prog ops Q (o :: rest) a w := by
  refine wpList_plain hg fun K' hK' => ?_
  have h1 := h.look_some K ht hz hkey hM
  unfold Oper.wp
  cases ok with
  | true =>
    simp [execOp, hop, hm, hx, h1.1, Result.andThen]
    exact hK' _ _ hK
  | false =>
    simp [execOp, hop, hm, hx, h1.2, Result.andThen]
    exact hK' _ _ hK
theorem wp_storeR (hg : o.guard = none) (m x v : Operand) (hop : o.op = Op.mapUpdate t m x v) (K : Maps.Keyed Tryd.prog k) (ht : Tryd.prog.underlying t = some (.map k e)) (hm : a.eval m = .map (some b)) (h : HoldsR k w b n M) (hn : n < 1000000) (key : Value) (hx : a.eval x = key) {kl : Lit} (hkey : keyOf Tryd.prog k key = some kl) (val : Value) (hv : a.eval v = val)
    (hK : ∀ w', HoldsR k w' b (n + 1) (setM M key val) → w.grownBy w' (some b) → wpList Tryd.prog ops Q rest (a.put o.dst undef) w') : wpList Tryd.prog ops Q (o :: rest) a w := by
  refine wpList_plain hg fun K' hK' => ?_
  obtain ⟨w', hrun, r1, r2⟩ := h.store K ht hn hkey val
  unfold Oper.wp
  simp [execOp, hop, hm, hx, hv, hrun, Result.andThen]
  exact hK' _ _ (hK w' r1 r2)
end
attribute [local go_sem high] eqA29
theorem zero29 (w : World) : (zeroValue 29).run Tryd.prog w = .ok (.agg #[.int .i64 0, .int .i64 0, .int .i64 0, .int .i64 0, .string ⟨#[]⟩]) w := Tryd.zeroValue29 w
set_option maxHeartbeats 8000000 in
set_option maxRecDepth 100000 in
theorem voids_any (A : Option Addr) (c : Nat) (l : List S29) (w : World) (hr : ReadsRow (RE encG) 5 w A l.length l) (hl : l.length ≤ 100000) (hn : ∀ x ∈ l, IsI x.f0 ∧ IsI x.f1) :
    Calls Tryd.prog 25 #[.slice A l.length c] w fun e w' => ∃ b, e = .returned (.map (some b)) ∧ HoldsR 3 w' b l.length (voidM l) ∧ w.heap.size ≤ b ∧ Below w.heap.size w w' := by
  have hu29 := Tryd.underlying29
  have hu94 := Tryd.underlying94
  have HR := Aside0.mk hr
  have HN := Aside0.mk hn
  clear hr hn
  have hmm := @run_makeMap Tryd.prog
  go_enter Tryd.func25, Tryd.ntmps25
  go_wp2
  clear hmm
  go_loopw [14] (fun i wr => ∃ k : Nat, k ≤ l.length ∧ i = .int .i64 k ∧ Aside0 (HoldsR 94 wr w.heap.size k (firstM (l.take k))) ∧ Aside0 (HoldsR 3 wr (w.heap.size + 1) k (voidM (l.take k))) ∧ Aside0 (Below w.heap.size w wr)) (fun i _ => l.length - (intOf i).toNat)
  case atStart =>
    refine ⟨0, Nat.zero_le _, rfl, ⟨?_⟩, ⟨?_⟩, ⟨((Below.refl _ _).alloc (Nat.le_refl _) _).alloc (by simp) _⟩⟩
    · refine ((HoldsR.start 94 w).alloc _).imp (fun x v => ⟨fun h => h.elim, ?_⟩)
      rintro ⟨x, hx, _⟩
      have := firstP_mem hx
      simp at this
    · have h1 := HoldsR.start 3 (w.alloc (.map #[] 0))
      rw [show (w.alloc (.map #[] 0)).heap.size = w.heap.size + 1 by simp] at h1
      refine h1.imp (fun x v => ⟨fun h => h.elim, ?_⟩)
      rintro ⟨_, g, _, x, hx, _⟩
      simp at hx
  case round =>
    obtain ⟨k, hk, rfl, HF, HV, HB⟩ := hrel
    by_cases hlt : k < l.length
    · obtain ⟨ad, rfl, g0, g1, g2, g3, g4⟩ := at_T29 (reads_k29 HR.out) k (by omega) (by omega)
      rw [Int.toNat_natCast] at g0 g1 g2 g3 g4
      replace g0 := (HB.out.cell (World.block_lt_of_cell? w _ g0)).trans g0
      replace g1 := (HB.out.cell (World.block_lt_of_cell? w _ g1)).trans g1
      replace g2 := (HB.out.cell (World.block_lt_of_cell? w _ g2)).trans g2
      replace g3 := (HB.out.cell (World.block_lt_of_cell? w _ g3)).trans g3
      replace g4 := (HB.out.cell (World.block_lt_of_cell? w _ g4)).trans g4
      have HT := Aside0.mk (take_rd_T29 l k hlt)
      obtain ⟨x, hx⟩ : ∃ x, x = rd_T29 l k := ⟨_, rfl⟩
      rw [← hx] at g0 g1 g2 g3 g4 HT
      clear hx
      have HX := Aside0.mk (HN.out x HT.out.2)
      have HKY := Aside0.mk (keyOf94 HX.out.1 HX.out.2)
      have HF1 : Aside0 (∀ o o', HoldsR 94 ((wr.alloc o).alloc o') w.heap.size k (firstM (l.take k))) := ⟨fun o o' => (HF.out.alloc o).alloc o'⟩
      cases hM : (l.take k).find? (numB x) with
      | none =>
        have HM := Aside0.mk hM
        clear hM
        go_wp2_with (first | (at_lookup; refine wp_lookR_none rfl _ _ true rfl law94 Tryd.underlying92 (zero29 _) rfl (HF1.out _ _) _ rfl HKY.out (firstM_none HM.out).2 ?_; simp only [if_true]) | (at_mapUpdate; refine wp_storeR rfl _ _ _ rfl law94 Tryd.underlying92 rfl ((HF1.out _ _).alloc _) (by omega) (k2 x.f0 x.f1) rfl HKY.out (encA x) rfl ?_; intro w2 hM2 hg2))
        have HF2 : Aside0 (HoldsR 94 w2 w.heap.size (k + 1) (firstM (l.take (k + 1)))) := ⟨by rw [HT.out.1]; exact hM2.imp (firstM_new HM.out)⟩
        have HB2 : Aside0 (Below w.heap.size w w2) := ⟨(((HB.out.alloc HB.out.size _).alloc (by have := HB.out.size; simp; omega) _).alloc (by have := HB.out.size; simp; omega) _).grown hg2 (by have := HB.out.size; simp; omega) (fun j hj => by injection hj with hj; omega)⟩
        have HV2 : Aside0 (HoldsR 3 w2 (w.heap.size + 1) (k + 1) (voidM (l.take (k + 1)))) := ⟨by
          rw [HT.out.1]
          exact (((((HV.out.alloc _).alloc _).alloc _).kept hg2 (fun e => by injection e with e; omega)).mono (by omega)).imp (voidM_congr (fun g => (voidP_new (firstM_none HM.out).1 g).symm))⟩
        clear hM2 hg2
        go_wp2
        go_roundw
        case rel => exact ⟨k + 1, by omega, by go_num, HF2, HV2, HB2⟩
        case measure => simp [intOf]; omega
      | some y =>
        have HM := Aside0.mk hM
        clear hM
        have hsm := firstM_some HM.out
        have HS := Aside0.mk hsm
        have HN2 : Aside0 (HoldsR 94 wr w.heap.size (k + 1) (firstM (l.take (k + 1)))) := ⟨by rw [HT.out.1]; exact (HF.out.imp (firstM_old HM.out)).mono (by omega)⟩
        clear hsm HF
        cases hq : eqG y x with
        | true =>
          have HQ := Aside0.mk ((eqG_iff y x).1 hq)
          unfold eqG at hq
          have HV2 : Aside0 (HoldsR 3 wr (w.heap.size + 1) (k + 1) (voidM (l.take (k + 1)))) := ⟨by
            rw [HT.out.1]
            exact (HV.out.mono (by omega)).imp (voidM_congr (fun g => (voidP_same (by rw [← HQ.out]; exact HS.out.1) g).symm))⟩
          clear HV
          go_wp2_with (first | (at_lookup; refine wp_lookR_some rfl _ _ true rfl law94 Tryd.underlying92 (zero29 _) rfl (HF1.out _ _) _ rfl HKY.out (encA y) HS.out.2.2.2 ?_; simp only [if_true, encA]))
          go_roundw
          case rel => exact ⟨k + 1, by omega, by go_num, ⟨((HN2.out.alloc _).alloc _).alloc _⟩, ⟨((HV2.out.alloc _).alloc _).alloc _⟩, ⟨((HB.out.alloc HB.out.size _).alloc (by have := HB.out.size; simp; omega) _).alloc (by have := HB.out.size; simp; omega) _⟩⟩
          case measure => simp [intOf]; omega
        | false =>
          have HQ : Aside0 (y ≠ x) := ⟨fun e => by rw [(eqG_iff y x).2 e] at hq; cases hq⟩
          unfold eqG at hq
          have HV1 : Aside0 (∀ o o' o'', HoldsR 3 (((wr.alloc o).alloc o').alloc o'') (w.heap.size + 1) k (voidM (l.take k))) := ⟨fun o o' o'' => ((HV.out.alloc o).alloc o').alloc o''⟩
          go_wp2_with (first | (at_lookup; refine wp_lookR_some rfl _ _ true rfl law94 Tryd.underlying92 (zero29 _) rfl (HF1.out _ _) _ rfl HKY.out (encA y) HS.out.2.2.2 ?_; simp only [if_true, encA]) | (at_mapUpdate; refine wp_storeR rfl _ _ _ rfl law3 Tryd.underlying69 rfl (HV1.out _ _ _) (by omega) (.int .i64 x.f0) rfl (keyOf3 HX.out.1) (.bool true) rfl ?_; intro w2 hM2 hg2))
          have HV2 : Aside0 (HoldsR 3 w2 (w.heap.size + 1) (k + 1) (voidM (l.take (k + 1)))) := ⟨by rw [HT.out.1]; exact hM2.imp (voidM_clash HS.out.1 HS.out.2.1 HS.out.2.2.1 HQ.out)⟩
          have HB2 : Aside0 (Below w.heap.size w w2) := ⟨(((HB.out.alloc HB.out.size _).alloc (by have := HB.out.size; simp; omega) _).alloc (by have := HB.out.size; simp; omega) _).grown hg2 (by have := HB.out.size; simp; omega) (fun j hj => by injection hj with hj; omega)⟩
          have HF2 : Aside0 (HoldsR 94 w2 w.heap.size (k + 1) (firstM (l.take (k + 1)))) := ⟨(((HN2.out.alloc _).alloc _).alloc _).kept hg2 (fun e => by injection e with e; omega)⟩
          clear hM2 hg2
          go_wp2
          go_roundw
          case rel => exact ⟨k + 1, by omega, by go_num, HF2, HV2, HB2⟩
          case measure => simp [intOf]; omega
    · obtain rfl : k = l.length := by omega
      rw [List.take_length] at HF HV
      go_wp2
      go_ret
      exact ⟨_, rfl, HV.out, Nat.le_succ _, HB.out⟩
theorem zero4 (w : World) : (zeroValue 4).run Tryd.prog w = .ok (.bool false) w := Tryd.zeroValue4 w
theorem voidM_yes {l : List S29} {g : Int} (h : voidP l g) : voidM l (.int .i64 g) (.bool true) := ⟨rfl, g, rfl, h⟩
theorem voidM_no {l : List S29} {g : Int} (h : ¬ voidP l g) : ∀ v, ¬ voidM l (.int .i64 g) v := by
  rintro v ⟨_, g', e, h'⟩
  injection e with _ e
  subst e
  exact h h'
set_option maxHeartbeats 4000000 in
set_option maxRecDepth 100000 in
theorem Void_any (A : Option Addr) (c : Nat) (l : List S29) (g : Int) (w : World) (hr : ReadsRow (RE encG) 5 w A l.length l) (hl : l.length ≤ 100000) (hn : ∀ x ∈ l, IsI x.f0 ∧ IsI x.f1) (hg : IsI g) :
    Calls Tryd.prog 12 #[.slice A l.length c, .int .i64 g] w fun e w' => e = .returned (.bool (decide (voidP l g))) ∧ Below w.heap.size w w' := by
  have hv := voids_any A c l w hr hl hn
  have HV := Aside0.mk hv
  have HG := Aside0.mk hg
  clear hv hr hn hg
  by_cases hp : voidP l g
  · have HP := Aside0.mk hp
    rw [decide_eq_true hp]
    clear hp
    go_enter Tryd.func12, Tryd.ntmps12
    go_wp2_with (first | (go_at_call 25; refine HV.out.mono ?_; rintro e w1 ⟨b, rfl, hM, hb, hbl⟩; have HM := Aside0.mk hM; have HB := Aside0.mk hbl; clear hM hbl) | (at_lookup; refine wp_lookR_some rfl _ _ false rfl law3 Tryd.underlying69 (zero4 _) rfl HM.out _ rfl (keyOf3 HG.out) (.bool true) (voidM_yes HP.out) ?_; simp only [Bool.false_eq_true, if_false]))
    go_ret
    exact ⟨rfl, HB.out⟩
  · have HP := Aside0.mk hp
    rw [decide_eq_false hp]
    clear hp
    go_enter Tryd.func12, Tryd.ntmps12
    go_wp2_with (first | (go_at_call 25; refine HV.out.mono ?_; rintro e w1 ⟨b, rfl, hM, hb, hbl⟩; have HM := Aside0.mk hM; have HB := Aside0.mk hbl; clear hM hbl) | (at_lookup; refine wp_lookR_none rfl _ _ false rfl law3 Tryd.underlying69 (zero4 _) rfl HM.out _ rfl (keyOf3 HG.out) (voidM_no HP.out) ?_; simp only [Bool.false_eq_true, if_false]))
    go_ret
    exact ⟨rfl, HB.out⟩
end Go.Proofs.YtioekkdodggakaaDoor.G
