/-
  Several texts in one: HMap, HSort.
-/
import Derived.Test.YtehieahpocbboaaHB
import Derived.Maps.Own
import Derived.Maps.OwnSet
import Derived.Maps.OwnOps
import Derived.Maps.RangeWalk
import Derived.Maps.Views
import Derived.Lib.OwnBridge
import Derived.Sort.Row
import Derived.Sort.Grow
/-
  What cast.Admitted keeps in its map: the last news of each Id, as a plain function; and that a map of the model holds it.
-/
namespace Go.Proofs.Ytehieahpocbboaa.G
open Go.RowKit Go.Proofs.YtehieahpocbboaaW.PrintWords Go.Proofs.YtehieahpocbboaaW.PrintLast Go.Proofs.YtehieahpocbboaaW.PrintMore
set_option linter.unusedVariables false
set_option linter.unusedSimpArgs false

/-! the plain side -/
theorem snocInd {α : Type} {P : List α → Prop} (h0 : P []) (h1 : ∀ l a, P l → P (l ++ [a])) (l : List α) : P l := by
  have key : ∀ r : List α, P r.reverse := by
    intro r
    induction r with
    | nil => exact h0
    | cons x r ih => rw [List.reverse_cons]; exact h1 _ _ ih
  have := key l.reverse
  rwa [List.reverse_reverse] at this
def bytesN (n : S29) : List UInt8 := newsL n.f0 n.f1 n.f2.f0 n.f2.f1 n.f2.f2
def leB (a b : List UInt8) : Bool := Op.bytesLess a b || a == b
/-- Does the news count at an hour? -/
def adm (h : Int) (n : S29) : Bool := decide (n.f1 ≤ h ∧ 0 ≤ n.f0 ∧ n.f0 < 3)
def takes (M : Int → Option S29) (n : S29) : Bool := match M n.f2.f0 with | some o => leB (bytesN o) (bytesN n) | none => true
def stepM (h : Int) (M : Int → Option S29) (n : S29) : Int → Option S29 := if adm h n = true ∧ takes M n = true then (fun x => if x = n.f2.f0 then some n else M x) else M
def lastM (h : Int) (l : List S29) : Int → Option S29 := l.foldl (stepM h) (fun _ => none)
theorem lastM_snoc (h : Int) (l : List S29) (n : S29) : lastM h (l ++ [n]) = stepM h (lastM h l) n := by simp [lastM, List.foldl_append]
def IsN (n : S29) : Prop := IsI n.f0 ∧ IsI n.f1 ∧ IsI n.f2.f0 ∧ IsI n.f2.f1 ∧ IsRain n.f2.f2
instance (n : S29) : Decidable (IsN n) := by unfold IsN; infer_instance
theorem lastM_from (h : Int) (l : List S29) : ∀ x n, lastM h l x = some n → n ∈ l ∧ n.f2.f0 = x ∧ adm h n = true := by
  refine snocInd (P := fun l => ∀ x n, lastM h l x = some n → n ∈ l ∧ n.f2.f0 = x ∧ adm h n = true) ?_ ?_ l
  · intro x n hx; simp [lastM] at hx
  · intro l a ih x n hx
    rw [lastM_snoc] at hx
    unfold stepM at hx
    split at hx
    · rename_i hc
      dsimp only at hx
      split at hx
      · rename_i he
        obtain rfl := Option.some.inj hx
        exact ⟨by simp, he.symm, hc.1⟩
      · have := ih x n hx
        exact ⟨List.mem_append_left _ this.1, this.2⟩
    · have := ih x n hx
      exact ⟨List.mem_append_left _ this.1, this.2⟩

theorem lastM_skip (h : Int) (l : List S29) (n : S29) (hno : adm h n = false) : lastM h (l ++ [n]) = lastM h l := by
  rw [lastM_snoc]; unfold stepM; rw [if_neg (by simp [hno])]
theorem lastM_keep (h : Int) (l : List S29) (n o : S29) (hM : lastM h l n.f2.f0 = some o) (hle : leB (bytesN o) (bytesN n) = false) : lastM h (l ++ [n]) = lastM h l := by
  rw [lastM_snoc]; unfold stepM; rw [if_neg (by simp [takes, hM, hle])]
theorem lastM_new (h : Int) (l : List S29) (n : S29) (hadm : adm h n = true) (hM : lastM h l n.f2.f0 = none) : lastM h (l ++ [n]) = fun x => if x = n.f2.f0 then some n else lastM h l x := by
  rw [lastM_snoc]; unfold stepM; rw [if_pos (by simp [takes, hM, hadm])]
theorem lastM_over (h : Int) (l : List S29) (n o : S29) (hadm : adm h n = true) (hM : lastM h l n.f2.f0 = some o) (hle : leB (bytesN o) (bytesN n) = true) : lastM h (l ++ [n]) = fun x => if x = n.f2.f0 then some n else lastM h l x := by
  rw [lastM_snoc]; unfold stepM; rw [if_pos (by simp [takes, hM, hadm, hle])]
theorem adm_no {h : Int} {n : S29} (hno : h < n.f1 ∨ n.f0 < 0 ∨ 3 ≤ n.f0) : adm h n = false := by
  unfold adm; exact decide_eq_false (by omega)
theorem adm_yes {h : Int} {n : S29} (h1 : n.f1 ≤ h) (h2 : 0 ≤ n.f0) (h3 : n.f0 < 3) : adm h n = true := by
  unfold adm; exact decide_eq_true ⟨h1, h2, h3⟩

theorem ba_len (b : ByteArray) : b.data.toList.length = b.size := by rw [Array.length_toList]; rfl
theorem toList_loop (b : ByteArray) : ∀ (n i : Nat) (r : List UInt8), b.size - i = n → ByteArray.toList.loop b i r = r.reverse ++ b.data.toList.drop i := by
  intro n
  induction n with
  | zero =>
    intro i r h
    unfold ByteArray.toList.loop
    have hs := ba_len b
    rw [if_neg (by omega), List.drop_of_length_le (by omega), List.append_nil]
  | succ n ih =>
    intro i r h
    unfold ByteArray.toList.loop
    have hs := ba_len b
    rw [if_pos (by omega), ih (i + 1) _ (by omega), List.reverse_cons, List.append_assoc]
    congr 1
    rw [List.drop_eq_getElem_cons (by omega : i < b.data.toList.length)]
    have hlt : i < b.data.size := by have : b.data.size = b.size := rfl; omega
    have e : b.get! i = b.data.toList[i] := by
      show b.data[i]! = _
      rw [getElem!_pos b.data i hlt]; rfl
    rw [e]; rfl
theorem toList_data (b : ByteArray) : b.toList = b.data.toList := by
  unfold ByteArray.toList
  rw [toList_loop b (b.size - 0) 0 [] rfl]; rfl
theorem toList_mk (l : List UInt8) : (⟨l.toArray⟩ : ByteArray).toList = l := by rw [toList_data]

/-! the map -/
abbrev law3 : Maps.Keyed Try.prog 3 := Maps.int_keyed Try.underlying3
def RH (v : Value) : Option (DataW Value × List MemPlace) := some (.held v, [])
theorem keyI {x : Int} (hx : IsI x) : keyOf Try.prog 3 (.int .i64 x) = some (.int .i64 x) := Maps.keyOf_int_mk Try.underlying3 (WalkArith.wf_i64 hx)
theorem zeroE29 (w : World) : (zeroValue 29).run Try.prog w = .ok (.agg #[.int .i64 0, .int .i64 0, .int .i64 0, .int .i64 0, .slice none 0 0]) w := by kernel_rfl
/-- A value that is the news n, in world w. -/
def NewsAt (w : World) (v : Value) (n : S29) : Prop := ∃ A c, v = .agg #[.int .i64 n.f0, .int .i64 n.f1, .int .i64 n.f2.f0, .int .i64 n.f2.f1, .slice A n.f2.f2.length c] ∧ n.f2.f2.length ≤ c ∧ Kd.C (Kd.slice 54 k54) w A n.f2.f2.length n.f2.f2
/-- The map at block b (of at most k entries) holds M. -/
def HoldsM (w w' : World) (b k : Nat) (M : Int → Option S29) : Prop :=
  ∃ D : DataW Value, w'.ownsMap Try.prog 3 RH b k D ∧ ∀ x, IsI x → match M x with
    | none => Maps.has D (.int .i64 x) = false
    | some n => Maps.has D (.int .i64 x) = true ∧ ∃ v, NewsAt w v n ∧ ∀ z, D.atKey (.int .i64 x) z = .held v
theorem HoldsM.start (w w1 : World) : HoldsM w (w1.alloc (.map #[] 0)) w1.heap.size 0 (fun _ => none) :=
  ⟨.map [], World.ownsMap_made _ _ _ _, fun x _ => rfl⟩
theorem HoldsM.below {w w1 w2 : World} {b k : Nat} {M : Int → Option S29} (h : HoldsM w w1 b k M) (hb : Below w1.heap.size w1 w2) : HoldsM w w2 b k M := by
  obtain ⟨D, ho, hM⟩ := h
  refine ⟨D, ?_, hM⟩
  obtain ⟨es, clock, hbk, F, hs, hD⟩ := ho
  refine ⟨es, clock, (hb.block b ?_).trans hbk, F, hs, hD⟩
  exact (Array.getElem?_eq_some_iff.1 hbk).1
theorem HoldsM.mono {w w1 : World} {b k k' : Nat} {M : Int → Option S29} (h : HoldsM w w1 b k M) (hk : k ≤ k') : HoldsM w w1 b k' M := by
  obtain ⟨D, ho, hM⟩ := h
  exact ⟨D, ho.mono hk, hM⟩
theorem HoldsM.alloc {w w1 : World} {b k : Nat} {M : Int → Option S29} (h : HoldsM w w1 b k M) (o : Obj) : HoldsM w (w1.alloc o) b k M := h.below ((Below.refl _ _).alloc (Nat.le_refl _) o)
theorem HoldsM.drewN {w w1 : World} {b k : Nat} {M : Int → Option S29} (h : HoldsM w w1 b k M) (m : Nat) : HoldsM w (w1.drewN m) b k M := h.below (pw_below_drewN (Below.refl _ _) m)
theorem HoldsM.lt {w w1 : World} {b k : Nat} {M : Int → Option S29} (h : HoldsM w w1 b k M) : b < w1.heap.size := by
  obtain ⟨D, ho, hM⟩ := h
  exact ho.lt
theorem put_ne {D : DataW Value} {x y : Int} (h : x ≠ y) (d z : DataW Value) : (D.put (.int .i64 y) d).atKey (.int .i64 x) z = D.atKey (.int .i64 x) z :=
  Maps.atKey_put_other (by intro e; injection e with _ e; exact h e) d z

/-- cast.Bytes at a news, in a later world. -/
theorem BytesN (n : S29) (A : Option Addr) (c : Nat) (w w' : World) (hb : Below w.heap.size w w') (hc : n.f2.f2.length ≤ c) (hC : Kd.C (Kd.slice 54 k54) w A n.f2.f2.length n.f2.f2) (hN : IsN n) :
    Calls Try.prog 14 #[.agg #[.int .i64 n.f0, .int .i64 n.f1, .int .i64 n.f2.f0, .int .i64 n.f2.f1, .slice A n.f2.f2.length c]] w' fun e w2 => e = .returned (.string ⟨(bytesN n).toArray⟩) ∧ Below w'.heap.size w' w2 :=
  Bytes_any n.f0 n.f1 n.f2.f0 n.f2.f1 A c n.f2.f2 w' (Kd.C_below hC hb) hc hN.1 hN.2.1 hN.2.2.1 hN.2.2.2.1 hN.2.2.2.2
theorem leB_eq (a b : List UInt8) : (Op.bytesLess (⟨a.toArray⟩ : ByteArray).toList (⟨b.toArray⟩ : ByteArray).toList || (⟨a.toArray⟩ : ByteArray).toList == (⟨b.toArray⟩ : ByteArray).toList) = leB a b := by rw [toList_mk, toList_mk]; rfl
theorem leB_cases (a b : List UInt8) : (Op.bytesLess a b = true ∧ leB a b = true) ∨ (Op.bytesLess a b = false ∧ (a == b) = true ∧ leB a b = true) ∨ (Op.bytesLess a b = false ∧ (a == b) = false ∧ leB a b = false) := by
  unfold leB
  cases Op.bytesLess a b <;> cases (a == b) <;> simp
/-- Two boxes at p and q, in a world later than W. -/
theorem twoStep {W w w2 : World} {p q : Nat} {x0 x1 x2 x3 x4 y0 y1 y2 y3 y4 : Value} (hb : Below w.heap.size w w2) (h : Below W.heap.size W w ∧ w.cell? ⟨p, 0, none⟩ = some x0 ∧ w.cell? ⟨p, 1, none⟩ = some x1 ∧ w.cell? ⟨p, 2, none⟩ = some x2 ∧ w.cell? ⟨p, 3, none⟩ = some x3 ∧ w.cell? ⟨p, 4, none⟩ = some x4 ∧ w.cell? ⟨q, 0, none⟩ = some y0 ∧ w.cell? ⟨q, 1, none⟩ = some y1 ∧ w.cell? ⟨q, 2, none⟩ = some y2 ∧ w.cell? ⟨q, 3, none⟩ = some y3 ∧ w.cell? ⟨q, 4, none⟩ = some y4) : Below W.heap.size W w2 ∧ w2.cell? ⟨p, 0, none⟩ = some x0 ∧ w2.cell? ⟨p, 1, none⟩ = some x1 ∧ w2.cell? ⟨p, 2, none⟩ = some x2 ∧ w2.cell? ⟨p, 3, none⟩ = some x3 ∧ w2.cell? ⟨p, 4, none⟩ = some x4 ∧ w2.cell? ⟨q, 0, none⟩ = some y0 ∧ w2.cell? ⟨q, 1, none⟩ = some y1 ∧ w2.cell? ⟨q, 2, none⟩ = some y2 ∧ w2.cell? ⟨q, 3, none⟩ = some y3 ∧ w2.cell? ⟨q, 4, none⟩ = some y4 := by
  obtain ⟨h0, a0, a1, a2, a3, a4, b0, b1, b2, b3, b4⟩ := h
  have key : ∀ {a : Addr} {v : Value}, w.cell? a = some v → w2.cell? a = some v := fun hc => (hb.cell (World.block_lt_of_cell? w _ hc)).trans hc
  exact ⟨h0.trans (hb.mono h0.size), key a0, key a1, key a2, key a3, key a4, key b0, key b1, key b2, key b3, key b4⟩
theorem twoBelow {w0 W w : World} {p q : Nat} {x0 x1 x2 x3 x4 y0 y1 y2 y3 y4 : Value} (hb : Below w0.heap.size w0 W) (h : Below W.heap.size W w ∧ w.cell? ⟨p, 0, none⟩ = some x0 ∧ w.cell? ⟨p, 1, none⟩ = some x1 ∧ w.cell? ⟨p, 2, none⟩ = some x2 ∧ w.cell? ⟨p, 3, none⟩ = some x3 ∧ w.cell? ⟨p, 4, none⟩ = some x4 ∧ w.cell? ⟨q, 0, none⟩ = some y0 ∧ w.cell? ⟨q, 1, none⟩ = some y1 ∧ w.cell? ⟨q, 2, none⟩ = some y2 ∧ w.cell? ⟨q, 3, none⟩ = some y3 ∧ w.cell? ⟨q, 4, none⟩ = some y4) : Below w0.heap.size w0 w := hb.trans (h.1.mono hb.size)

section
variable {w : World} {ops : Array Oper} {rest : List Oper} {o : Oper} {a : Act} {Q : Exit → Act → World → Prop}
/-- 'v, ok := m[k]' where there is none. -/
theorem wp_look_none {W : World} (hg : o.guard = none) (m x : Operand) (hop : o.op = Op.lookup 64 m x true) {b n : Nat} {M : Int → Option S29} (hm : a.eval m = .map (some b)) (hH : HoldsM W w b n M) (id : Int) (hx : a.eval x = .int .i64 id) (hI : IsI id) (hM : M id = none)
    (hK : wpList Try.prog ops Q rest (a.put o.dst (.tuple #[.agg #[.int .i64 0, .int .i64 0, .int .i64 0, .int .i64 0, .slice none 0 0], .bool false])) w) : wpList Try.prog ops Q (o :: rest) a w := by
  obtain ⟨D, ho, hD⟩ := hH
  have h1 := hD id hI
  rw [hM] at h1
  refine wpList_lookup_own_ok w hg m x 64 hop 3 29 law3 Try.underlying64 RH (zeroE29 w) _ [] rfl b n D hm ho _ _ hx (keyI hI) ?_
  intro v ps hv
  have e : v = .agg #[.int .i64 0, .int .i64 0, .int .i64 0, .int .i64 0, .slice none 0 0] := by
    rw [Maps.atKey_of_not_has h1] at hv
    simp only [RH, Option.some.injEq, Prod.mk.injEq] at hv
    injection hv.1
  rw [e, show Maps.has D (.int .i64 id) = false from h1]
  exact hK
/-- .. where there is one. -/
theorem wp_look_some {W : World} (hg : o.guard = none) (m x : Operand) (hop : o.op = Op.lookup 64 m x true) {b n : Nat} {M : Int → Option S29} (hm : a.eval m = .map (some b)) (hH : HoldsM W w b n M) (id : Int) (hx : a.eval x = .int .i64 id) (hI : IsI id) (e : S29) (hM : M id = some e)
    (hK : ∀ A c, e.f2.f2.length ≤ c → Kd.C (Kd.slice 54 k54) W A e.f2.f2.length e.f2.f2 → wpList Try.prog ops Q rest (a.put o.dst (.tuple #[.agg #[.int .i64 e.f0, .int .i64 e.f1, .int .i64 e.f2.f0, .int .i64 e.f2.f1, .slice A e.f2.f2.length c], .bool true])) w) : wpList Try.prog ops Q (o :: rest) a w := by
  obtain ⟨D, ho, hD⟩ := hH
  have h1 := hD id hI
  rw [hM] at h1
  obtain ⟨h2, v0, ⟨A, c, rfl, hc, hC⟩, h3⟩ := h1
  refine wpList_lookup_own_ok w hg m x 64 hop 3 29 law3 Try.underlying64 RH (zeroE29 w) _ [] rfl b n D hm ho _ _ hx (keyI hI) ?_
  intro v ps hv
  rw [h3] at hv
  simp only [RH, Option.some.injEq, Prod.mk.injEq] at hv
  injection hv.1 with hv1
  subst hv1
  rw [h2]
  exact hK A c hc hC
/-- 'm[k]' where there is one. -/
theorem wp_look_plain {W : World} (hg : o.guard = none) (m x : Operand) (hop : o.op = Op.lookup 64 m x false) {b n : Nat} {M : Int → Option S29} (hm : a.eval m = .map (some b)) (hH : HoldsM W w b n M) (id : Int) (hx : a.eval x = .int .i64 id) (hI : IsI id) (e : S29) (hM : M id = some e)
    (hK : ∀ A c, e.f2.f2.length ≤ c → Kd.C (Kd.slice 54 k54) W A e.f2.f2.length e.f2.f2 → wpList Try.prog ops Q rest (a.put o.dst (.agg #[.int .i64 e.f0, .int .i64 e.f1, .int .i64 e.f2.f0, .int .i64 e.f2.f1, .slice A e.f2.f2.length c])) w) : wpList Try.prog ops Q (o :: rest) a w := by
  obtain ⟨D, ho, hD⟩ := hH
  have h1 := hD id hI
  rw [hM] at h1
  obtain ⟨h2, v0, ⟨A, c, rfl, hc, hC⟩, h3⟩ := h1
  obtain ⟨v, ps, hrun, hv⟩ := ho.lookup law3 Try.underlying64 (zeroE29 w) (zd := .held _) (zp := []) rfl (keyI hI)
  rw [h3] at hv
  simp only [RH, Option.some.injEq, Prod.mk.injEq] at hv
  injection hv.1 with hv1
  subst hv1
  refine wpList_plain hg fun K' hK' => ?_
  unfold Oper.wp
  simp [execOp, hop, hm, hx, hrun, Result.andThen]
  exact hK' _ _ (hK A c hc hC)
/-- 'm[k] = n'. -/
theorem wp_store_news {W : World} (hg : o.guard = none) (m x v : Operand) (hop : o.op = Op.mapUpdate 64 m x v) {b k : Nat} {M : Int → Option S29} (hm : a.eval m = .map (some b)) (hH : HoldsM W w b k M) (hk : k < 1000000) (n : S29) (A : Option Addr) (c : Nat) (hx : a.eval x = .int .i64 n.f2.f0) (hI : IsI n.f2.f0)
    (hv : a.eval v = .agg #[.int .i64 n.f0, .int .i64 n.f1, .int .i64 n.f2.f0, .int .i64 n.f2.f1, .slice A n.f2.f2.length c]) (hc : n.f2.f2.length ≤ c) (hC : Kd.C (Kd.slice 54 k54) W A n.f2.f2.length n.f2.f2)
    (hK : ∀ w', HoldsM W w' b (k + 1) (fun x => if x = n.f2.f0 then some n else M x) → w.grownBy w' (some b) → wpList Try.prog ops Q rest (a.put o.dst undef) w') : wpList Try.prog ops Q (o :: rest) a w := by
  obtain ⟨D, ho, hD⟩ := hH
  refine wpList_mapUpdate_own w hg m x v 64 hop 3 29 law3 Try.underlying64 RH b k D hm ho (by unfold maxLen; omega) _ _ _ hx hv (keyI hI) (.held _) [] rfl ?_
  intro w' ho' hg'
  refine hK w' ⟨_, ho', fun y hy => ?_⟩ hg'
  have hkl : WideAt.IsKeyLit (.int .i64 n.f2.f0) := law3.key (keyI hI)
  by_cases he : y = n.f2.f0
  · subst he
    dsimp only
    rw [if_pos rfl]
    exact ⟨Maps.has_put_same ho.isMap hkl _, _, ⟨A, c, rfl, hc, hC⟩, fun z => Maps.atKey_put_same ho.isMap hkl _ z⟩
  · dsimp only
    rw [if_neg he]
    have hne : (Lit.int .i64 y) ≠ .int .i64 n.f2.f0 := by intro e; injection e with _ e; exact he e
    have h1 := hD y hy
    have h3 : Maps.has (D.put (.int .i64 n.f2.f0) (.held (.agg #[.int .i64 n.f0, .int .i64 n.f1, .int .i64 n.f2.f0, .int .i64 n.f2.f1, .slice A n.f2.f2.length c]))) (.int .i64 y) = Maps.has D (.int .i64 y) := Maps.has_put_other hne _
    cases hM : M y with
    | none => rw [hM] at h1; exact h3.trans h1
    | some e =>
      rw [hM] at h1
      obtain ⟨h4, v0, hv0, hat⟩ := h1
      exact ⟨h3.trans h4, v0, hv0, fun z => (put_ne he _ z).trans (hat z)⟩
end
end Go.Proofs.Ytehieahpocbboaa.G
/-
  slices.Sort at a row of numbers of the call's own; ascending lists of numbers; the step of a range over the map of news.
-/
namespace Go.Proofs.Ytehieahpocbboaa.G
open Go.Sort Go.RowKit Go.Proofs.YtehieahpocbboaaW.PrintWords Go.Proofs.YtehieahpocbboaaW.PrintLast Go.Proofs.YtehieahpocbboaaW.PrintMore
set_option linter.unusedVariables false
set_option linter.unusedSimpArgs false

def sortI (x : List Int) : List Int := x.mergeSort fun a b => decide (a ≤ b)
theorem sortI_length (x : List Int) : (sortI x).length = x.length := by simp [sortI]
theorem grown_put {α : Type} [Inhabited α] {enc : α → Value} {w : World} {g n : Nat} {os : Array Obj} (d : Array α) : w.grownBy (grow (putRow enc (Sort.ahead w n) g 0 d) os) (some g) := by
  refine ⟨rfl, rfl, rfl, by simp, fun k hk hne => ?_⟩
  rw [heap_grow_old _ _ (by simpa using hk)]
  have : g ≠ k := fun e => hne (by rw [e])
  simp [putRow, mapBlock, Sort.ahead, Array.getElem?_modify, this]
theorem grown_grow (w : World) (os : Array Obj) : w.grownBy (grow w os) none := ⟨rfl, rfl, rfl, by simp, fun k hk _ => heap_grow_old _ _ hk⟩
theorem own_pos {W : World} {base : Nat} {e : TypeId} {v : Value} {n : Nat} {xs : List Value} (ho : W.ownsRow base e 1 v n xs) (h : 0 < n) : v ≠ .slice none 0 0 := by
  rintro rfl
  rcases ho.2 with ⟨_, h1⟩ | ⟨_, _, _, h1, _⟩
  · omega
  · cases h1
/-- slices.Sort at a row of the call's own. -/
theorem sort_own {W : World} {base : Nat} {v : Value} {x : List Int} (ho : W.ownsRow base 3 1 v x.length (x.map (Value.int .i64))) (hl : x.length < 4611686018427387904) :
    Calls Try.prog 31 #[v] W fun e w' => e = .returned (.tuple #[]) ∧ w'.ownsRow base 3 1 v x.length ((sortI x).map (Value.int .i64)) ∧ W.grownBy w' v.ownBlock := by
  rcases Nat.eq_zero_or_pos x.length with h0 | h0
  · obtain rfl : x = [] := List.eq_nil_of_length_eq_zero h0
    obtain ⟨A, c, rfl⟩ := own_slice ho
    refine (Try.slices_Sort_int_none A c W).mono ?_
    rintro e w' ⟨rfl, rfl⟩
    exact ⟨rfl, by simpa [sortI] using ho, grown_of_below (Below.refl _ _) _⟩
  · obtain ⟨g, cap, rfl, hb, hlt, hn, hm, _, hH⟩ := Lib.holds_of_ownsRow ho (own_pos ho h0)
    refine (Try.slices_Sort_int g 0 cap x W hH hlt hl).mono ?_
    rintro e w' ⟨rfl, n, os, rfl⟩
    have h1 := Lib.ownsRow_putRow (q := n) (k := x.length) (ys := sortI x) ho (sortI_length x) (Nat.le_refl _)
    rw [List.take_of_length_le (by rw [sortI_length]; omega)] at h1
    exact ⟨rfl, h1.kept (grown_grow _ os) (.inr (by simp [Value.ownBlock])), grown_put _⟩

/-! strictly ascending lists -/
theorem asc_unique : ∀ (a b : List Int), a.Pairwise (· < ·) → b.Pairwise (· < ·) → (∀ x, x ∈ a ↔ x ∈ b) → a = b
  | [], [], _, _, _ => rfl
  | [], y :: b, _, _, h => absurd ((h y).2 List.mem_cons_self) (by simp)
  | x :: a, [], _, _, h => absurd ((h x).1 List.mem_cons_self) (by simp)
  | x :: a, y :: b, ha, hb, h => by
    rw [List.pairwise_cons] at ha hb
    have hxy : x = y := by
      have h1 := (h x).1 List.mem_cons_self
      have h2 := (h y).2 List.mem_cons_self
      rcases List.mem_cons.1 h1 with h1 | h1
      · exact h1
      · rcases List.mem_cons.1 h2 with h2 | h2
        · exact h2.symm
        · have := hb.1 x h1
          have := ha.1 y h2
          omega
    subst hxy
    congr 1
    refine asc_unique a b ha.2 hb.2 (fun z => ⟨fun hz => ?_, fun hz => ?_⟩)
    · rcases List.mem_cons.1 ((h z).1 (List.mem_cons_of_mem _ hz)) with e | e
      · have := ha.1 z hz; omega
      · exact e
    · rcases List.mem_cons.1 ((h z).2 (List.mem_cons_of_mem _ hz)) with e | e
      · have := hb.1 z hz; omega
      · exact e
theorem sortI_mem (l : List Int) (x : Int) : x ∈ sortI l ↔ x ∈ l := (List.mergeSort_perm l _).mem_iff
theorem sortI_asc (l : List Int) (h : l.Nodup) : (sortI l).Pairwise (· < ·) := by
  have h1 : (sortI l).Pairwise (fun a b => decide (a ≤ b) = true) := List.pairwise_mergeSort (fun a b c h1 h2 => by simp at *; omega) (fun a b => by simp; omega) l
  have h2 : (sortI l).Nodup := (List.mergeSort_perm l _).nodup_iff.2 h
  have h3 : (sortI l).Pairwise (fun a b => decide (a ≤ b) = true ∧ a ≠ b) := List.Pairwise.and h1 h2
  exact h3.imp (fun h => by have h4 := of_decide_eq_true h.1; have := h.2; omega)
def insId (x : Int) : List Int → List Int
  | [] => [x]
  | y :: r => if x < y then x :: y :: r else if x = y then y :: r else y :: insId x r
theorem insId_mem (x : Int) : ∀ (l : List Int) (z : Int), z ∈ insId x l ↔ z = x ∨ z ∈ l
  | [], z => by simp [insId]
  | y :: r, z => by
    unfold insId
    split
    · simp
    · split
      · rename_i h; subst h; simp
      · simp only [List.mem_cons, insId_mem x r z]
        constructor
        · rintro (h | h | h) <;> simp [h]
        · rintro (h | h | h) <;> simp [h]
theorem insId_asc (x : Int) : ∀ (l : List Int), l.Pairwise (· < ·) → (insId x l).Pairwise (· < ·)
  | [], _ => by simp [insId]
  | y :: r, h => by
    have h' := List.pairwise_cons.1 h
    unfold insId
    split
    · rename_i hlt
      refine List.pairwise_cons.2 ⟨fun z hz => ?_, h⟩
      rcases List.mem_cons.1 hz with rfl | hz
      · exact hlt
      · have := h'.1 z hz; omega
    · split
      · exact h
      · refine List.pairwise_cons.2 ⟨fun z hz => ?_, insId_asc x r h'.2⟩
        rcases (insId_mem x r z).1 hz with rfl | hz
        · omega
        · exact h'.1 z hz
/-- The Ids of a list of news, ascending. -/
def keysA (l : List S29) : List Int := (l.map fun n => n.f2.f0).foldr insId []
theorem keysA_mem (l : List S29) (x : Int) : x ∈ keysA l ↔ ∃ n ∈ l, n.f2.f0 = x := by
  induction l with
  | nil => simp [keysA]
  | cons a l ih =>
    have e : keysA (a :: l) = insId a.f2.f0 (keysA l) := rfl
    rw [e, insId_mem, ih]
    constructor
    · rintro (rfl | ⟨n, hn, rfl⟩)
      · exact ⟨a, List.mem_cons_self, rfl⟩
      · exact ⟨n, List.mem_cons_of_mem _ hn, rfl⟩
    · rintro ⟨n, hn, rfl⟩
      rcases List.mem_cons.1 hn with rfl | hn
      · exact .inl rfl
      · exact .inr ⟨n, hn, rfl⟩
theorem keysA_asc (l : List S29) : (keysA l).Pairwise (· < ·) := by
  induction l with
  | nil => simp [keysA]
  | cons a l ih => exact insId_asc _ _ ih
def liveM (M : Int → Option S29) (x : Int) : Bool := match M x with | some n => decide (n.f0 ≠ 2) | none => false
def idsA (h : Int) (l : List S29) : List Int := (keysA l).filter (liveM (lastM h l))
theorem liveM_iff (M : Int → Option S29) (x : Int) : liveM M x = true ↔ ∃ n, M x = some n ∧ n.f0 ≠ 2 := by
  unfold liveM
  cases h : M x with
  | none => simp
  | some n => simp
theorem idsA_mem (h : Int) (l : List S29) (x : Int) : x ∈ idsA h l ↔ ∃ n, lastM h l x = some n ∧ n.f0 ≠ 2 := by
  unfold idsA
  rw [List.mem_filter, liveM_iff, keysA_mem]
  constructor
  · exact fun h => h.2
  · rintro ⟨n, hn, h2⟩
    have := lastM_from h l x n hn
    exact ⟨⟨n, this.1, this.2.1⟩, n, hn, h2⟩
theorem idsA_asc (h : Int) (l : List S29) : (idsA h l).Pairwise (· < ·) := (keysA_asc l).filter _
theorem sortI_ids (h : Int) (l : List S29) (L : List Int) (hn : L.Nodup) (hm : ∀ x, x ∈ L ↔ ∃ n, lastM h l x = some n ∧ n.f0 ≠ 2) : sortI L = idsA h l :=
  asc_unique _ _ (sortI_asc L hn) (idsA_asc h l) (fun x => by rw [sortI_mem, hm, idsA_mem])
/-- What cast.Admitted returns. -/
def castsOf (M : Int → Option S29) (ids : List Int) : List S27 := ids.filterMap fun x => (M x).map fun n => n.f2
def admitted (h : Int) (l : List S29) : List S27 := castsOf (lastM h l) ((idsA h l).take 32)

theorem idsA_at (h : Int) (l : List S29) (j : Nat) (hj : j < (idsA h l).length) : ∃ n, lastM h l (idsA h l)[j] = some n ∧ castsOf (lastM h l) ((idsA h l).take (j + 1)) = castsOf (lastM h l) ((idsA h l).take j) ++ [n.f2] := by
  obtain ⟨n, hn, _⟩ := (idsA_mem h l _).1 (List.getElem_mem hj)
  refine ⟨n, hn, ?_⟩
  rw [List.take_succ_eq_append_getElem hj]
  unfold castsOf
  rw [List.filterMap_append]
  simp [hn]
theorem castsOf_length (M : Int → Option S29) (ids : List Int) : (castsOf M ids).length ≤ ids.length := List.length_filterMap_le _ _

/-! the range -/
theorem sameKey_int (y x : Int) : (Lit.int .i64 y).sameKey (.int .i64 x) = decide (y = x) := by
  by_cases h : y = x
  · subst h
    rw [decide_eq_true rfl]
    have : (Lit.int .i64 y).sameKey (.int .i64 y) = true := by simp [Lit.sameKey]
    exact this
  · rw [decide_eq_false h]
    exact Maps.sameKey_ne (by intro e; injection e with _ e; exact h e)
theorem live_skip {M : Int → Option S29} {left : Lit → Bool} {L : List Int} {x : Int} {e : S29} (hL : ∀ y, y ∈ L ↔ left (.int .i64 y) = false ∧ ∃ n, M y = some n ∧ n.f0 ≠ 2) (hM : M x = some e) (h2 : e.f0 = 2) :
    ∀ y, y ∈ L ↔ (left (.int .i64 y) && !(Lit.int .i64 y).sameKey (.int .i64 x)) = false ∧ ∃ n, M y = some n ∧ n.f0 ≠ 2 := by
  intro y
  rw [hL y, sameKey_int]
  by_cases h : y = x
  · subst h
    constructor
    · rintro ⟨_, n, h3, h4⟩; rw [hM] at h3; cases h3; exact absurd h2 h4
    · rintro ⟨_, n, h3, h4⟩; rw [hM] at h3; cases h3; exact absurd h2 h4
  · rw [decide_eq_false h]; simp
theorem live_take {M : Int → Option S29} {left : Lit → Bool} {L : List Int} {x : Int} {e : S29} (hL : ∀ y, y ∈ L ↔ left (.int .i64 y) = false ∧ ∃ n, M y = some n ∧ n.f0 ≠ 2) (hM : M x = some e) (h2 : e.f0 ≠ 2) :
    ∀ y, y ∈ L ++ [x] ↔ (left (.int .i64 y) && !(Lit.int .i64 y).sameKey (.int .i64 x)) = false ∧ ∃ n, M y = some n ∧ n.f0 ≠ 2 := by
  intro y
  rw [List.mem_append, hL y, sameKey_int]
  by_cases h : y = x
  · subst h
    rw [decide_eq_true rfl]
    constructor
    · intro _; exact ⟨by simp, e, hM, h2⟩
    · intro _; exact .inr (by simp)
  · rw [decide_eq_false h]; simp [h]
theorem live_nodup {M : Int → Option S29} {left : Lit → Bool} {L : List Int} {x : Int} (hL : ∀ y, y ∈ L ↔ left (.int .i64 y) = false ∧ ∃ n, M y = some n ∧ n.f0 ≠ 2) (hx : left (.int .i64 x) = true) (hn : L.Nodup) : (L ++ [x]).Nodup := by
  have hnot : x ∉ L := fun h => by have := ((hL x).1 h).1; rw [hx] at this; cases this
  rw [List.nodup_append]
  refine ⟨hn, by simp, fun a ha b hb => ?_⟩
  rintro rfl
  simp at hb
  subst hb
  exact hnot ha
theorem ranges_apart {w : World} {b r n cnt base e size m : Nat} {D : DataW Value} {left : Lit → Bool} {v : Value} {xs : List Value} (h : w.ranges Try.prog 3 RH b r n D left cnt) (ho : w.ownsRow base e size v m xs) : v.ownBlock ≠ some r ∧ v.ownBlock ≠ some b := by
  obtain ⟨es, clock, since, seen, c0, hb, _, _, _, hr, _⟩ := h
  constructor
  · intro hk
    obtain ⟨cells, hc⟩ := own_typed ho r hk
    rw [hr] at hc; cases hc
  · intro hk
    obtain ⟨cells, hc⟩ := own_typed ho b hk
    rw [hb] at hc; cases hc
theorem wp_next_news {w W : World} {ops : Array Oper} {rest : List Oper} {o : Oper} {a : Act} {Q : Exit → Act → World → Prop} (hg : o.guard = none) (it : Operand) (hop : o.op = Op.next it false) {b r n : Nat} {D : DataW Value} {left : Lit → Bool} {cnt : Nat} {M : Int → Option S29}
    (hD : ∀ x, IsI x → match M x with
      | none => Maps.has D (.int .i64 x) = false
      | some n => Maps.has D (.int .i64 x) = true ∧ ∃ v, NewsAt W v n ∧ ∀ z, D.atKey (.int .i64 x) z = .held v)
    (hit : a.eval it = .pointer (some ⟨r, 0, none⟩)) (h : w.ranges Try.prog 3 RH b r n D left cnt)
    (hDone : (∀ kl, left kl = false) → wpList Try.prog ops Q rest (a.put o.dst (.tuple #[.bool false])) w)
    (hMore : ∀ (x : Int) (e : S29) (A : Option Addr) (c : Nat) (w' : World) (cnt' : Nat), IsI x → M x = some e → left (.int .i64 x) = true → e.f2.f2.length ≤ c → Kd.C (Kd.slice 54 k54) W A e.f2.f2.length e.f2.f2 →
      w'.ranges Try.prog 3 RH b r n D (fun z => left z && !z.sameKey (.int .i64 x)) cnt' → cnt' < cnt → w.grownBy w' (some r) → w'.heap.size = w.heap.size →
      (Instr.entry (.pointer (some ⟨r, 0, none⟩))).run Try.prog w' = .ok (.tuple #[.int .i64 x, .agg #[.int .i64 e.f0, .int .i64 e.f1, .int .i64 e.f2.f0, .int .i64 e.f2.f1, .slice A e.f2.f2.length c]]) w' →
      wpList Try.prog ops Q rest (a.put o.dst (.tuple #[.bool true, .int .i64 x, .agg #[.int .i64 e.f0, .int .i64 e.f1, .int .i64 e.f2.f0, .int .i64 e.f2.f1, .slice A e.f2.f2.length c]])) w') :
    wpList Try.prog ops Q (o :: rest) a w := by
  refine wpList_next_ranges w hg it hop 3 law3 RH (Value.int .i64) (fun v : Value => v) (fun key kl hkey => by obtain ⟨x, rfl, _⟩ := Maps.keyOf_int_inv Try.underlying3 hkey; exact ⟨x, rfl⟩) (fun v y hv => ⟨v, rfl⟩) b r n D left cnt hit h (fun _ => hDone) ?_
  intro x c kl y w' cnt' hkey hlk hv hat hrg hlt hgr hsz hen
  obtain ⟨x', ex, rfl, hwx⟩ := Maps.keyOf_int_inv Try.underlying3 hkey
  cases ex
  have hI : IsI x := by
    have := hwx
    simp [Lit.wf, IntKind.min, IntKind.max, IntKind.bits, IntKind.signed] at this
    unfold IsI; omega
  have h1 := hD x hI
  have hy : y = (.held c, []) := by simp only [RH, Option.some.injEq] at hv; exact hv.symm
  subst hy
  cases hM : M x with
  | none =>
    rw [hM] at h1
    have := hat .nil
    rw [Maps.atKey_of_not_has h1] at this
    cases this
  | some e =>
    rw [hM] at h1
    obtain ⟨_, v, ⟨A, c', rfl, hc', hC⟩, hz⟩ := h1
    have := (hat .nil).symm.trans (hz .nil)
    injection this with this
    subst this
    exact hMore x e A c' w' cnt' hI hM hlk hc' hC hrg hlt hgr hsz hen
end Go.Proofs.Ytehieahpocbboaa.G
