import Derived.Test.YtioekkdodggakaaDoorK0
import Derived.Maps.Own
import Derived.Maps.OwnSet
import Derived.Maps.OwnOps
import Derived.Maps.RangeWalk
import Derived.Maps.Views
import Derived.WideKeyEntry
import Derived.DeepKeys4
/-
  Maps whose elements are values as they stand: what they hold, as a relation between key and value.
-/
namespace Go.Proofs.YtioekkdodggakaaDoor.G
open Go.RowKit Go.Proofs.YtioekkdodggakaaDoorW.PrintWords Go.Proofs.YtioekkdodggakaaDoorW.PrintLast Go.Proofs.YtioekkdodggakaaDoorW.PrintMore
open Go.ChangeMaps (setBlock heap_setBlock_same heap_setBlock_other)
set_option linter.unusedVariables false
set_option linter.unusedSimpArgs false
def RH (v : Value) : Option (DataW Value × List MemPlace) := some (.held v, [])
/-- What the map at D holds. -/
def Says (k : TypeId) (D : DataW Value) (M : Value → Value → Prop) : Prop := ∀ key kl, keyOf Tryd.prog k key = some kl → (∀ v, M key v → Maps.has D kl = true ∧ ∀ z, D.atKey kl z = .held v) ∧ ((∀ v, ¬ M key v) → Maps.has D kl = false)
/-- The map at block b (of at most n entries) holds M. -/
def HoldsR (k : TypeId) (w : World) (b n : Nat) (M : Value → Value → Prop) : Prop := ∃ D : DataW Value, w.ownsMap Tryd.prog k RH b n D ∧ Says k D M
def setM (M : Value → Value → Prop) (key val : Value) : Value → Value → Prop := fun k v => (k = key ∧ v = val) ∨ (k ≠ key ∧ M k v)
theorem HoldsR.start (k : TypeId) (w : World) : HoldsR k (w.alloc (.map #[] 0)) w.heap.size 0 (fun _ _ => False) :=
  ⟨.map [], World.ownsMap_made _ _ _ _, fun key kl _ => ⟨fun v h => h.elim, fun _ => rfl⟩⟩
section
variable {k t e : TypeId} {w w1 w2 : World} {b n : Nat} {M : Value → Value → Prop}
theorem HoldsR.imp {M' : Value → Value → Prop} (h : HoldsR k w b n M) (hM : ∀ x v, M x v ↔ M' x v) : HoldsR k w b n M' := by
  obtain ⟨D, ho, hs⟩ := h
  exact ⟨D, ho, fun key kl hk => ⟨fun v hv => (hs key kl hk).1 v ((hM _ _).2 hv), fun hn => (hs key kl hk).2 (fun v hv => hn v ((hM _ _).1 hv))⟩⟩
theorem HoldsR.below (h : HoldsR k w1 b n M) (hb : Below w1.heap.size w1 w2) : HoldsR k w2 b n M := by
  obtain ⟨D, ho, hM⟩ := h
  refine ⟨D, ?_, hM⟩
  obtain ⟨es, clock, hbk, F, hs, hD⟩ := ho
  exact ⟨es, clock, (hb.block b (Array.getElem?_eq_some_iff.1 hbk).1).trans hbk, F, hs, hD⟩
theorem HoldsR.kept {row : Option Nat} (h : HoldsR k w1 b n M) (hg : w1.grownBy w2 row) (hne : some b ≠ row) : HoldsR k w2 b n M := by
  obtain ⟨D, ho, hM⟩ := h
  exact ⟨D, ho.kept hg hne, hM⟩
theorem HoldsR.mono {n' : Nat} (h : HoldsR k w1 b n M) (hk : n ≤ n') : HoldsR k w1 b n' M := by
  obtain ⟨D, ho, hM⟩ := h
  exact ⟨D, ho.mono hk, hM⟩
theorem HoldsR.alloc (h : HoldsR k w1 b n M) (o : Obj) : HoldsR k (w1.alloc o) b n M := h.below ((Below.refl _ _).alloc (Nat.le_refl _) o)
theorem HoldsR.drewN (h : HoldsR k w1 b n M) (m : Nat) : HoldsR k (w1.drewN m) b n M := h.below (pw_below_drewN (Below.refl _ _) m)
theorem HoldsR.lt (h : HoldsR k w1 b n M) : b < w1.heap.size := by
  obtain ⟨D, ho, hM⟩ := h
  exact ho.lt
theorem Says.put (K : Maps.Keyed Tryd.prog k) {D : DataW Value} (hD : Says k D M) (hm : Maps.IsMap D) {key val : Value} {kl : Lit} (hkey : keyOf Tryd.prog k key = some kl) : Says k (D.put kl (.held val)) (setM M key val) := by
  intro x xl hx
  by_cases he : x = key
  · subst he
    rw [hkey] at hx
    cases hx
    refine ⟨fun v hv => ?_, fun hn => absurd (.inl ⟨rfl, rfl⟩) (hn val)⟩
    rcases hv with ⟨_, rfl⟩ | ⟨h, _⟩
    · exact ⟨Maps.has_put_same hm (K.key hkey) _, fun z => Maps.atKey_put_same hm (K.key hkey) _ z⟩
    · exact absurd rfl h
  · have hne : xl ≠ kl := by
      rintro rfl
      exact he (K.inj hx hkey)
    have h3 : Maps.has (D.put kl (.held val)) xl = Maps.has D xl := Maps.has_put_other hne _
    refine ⟨fun v hv => ?_, fun hn => ?_⟩
    · rcases hv with ⟨h, _⟩ | ⟨_, hv⟩
      · exact absurd h he
      · obtain ⟨h4, h5⟩ := (hD x xl hx).1 v hv
        exact ⟨h3.trans h4, fun z => (Maps.atKey_put_other hne _ z).trans (h5 z)⟩
    · exact h3.trans ((hD x xl hx).2 (fun v hv => hn v (.inr ⟨he, hv⟩)))
/-- 'm[k]' where there is none. -/
theorem HoldsR.look_none (K : Maps.Keyed Tryd.prog k) (ht : Tryd.prog.underlying t = some (.map k e)) {zv : Value} (hz : (zeroValue e).run Tryd.prog w = .ok zv w) (h : HoldsR k w b n M) {key : Value} {kl : Lit} (hkey : keyOf Tryd.prog k key = some kl) (hM : ∀ v, ¬ M key v) :
    (Instr.lookup t (.map (some b)) key true).run Tryd.prog w = .ok (.tuple #[zv, .bool false]) w ∧ (Instr.lookup t (.map (some b)) key false).run Tryd.prog w = .ok zv w := by
  obtain ⟨D, ho, hD⟩ := h
  have h1 := (hD key kl hkey).2 hM
  constructor
  · obtain ⟨v, ps, hrun, hv⟩ := ho.look_ok K ht hz (zd := .held zv) (zp := []) rfl hkey
    rw [Maps.atKey_of_not_has h1] at hv
    simp only [RH, Option.some.injEq, Prod.mk.injEq] at hv
    have hv1 := DataW.held.inj hv.1
    subst hv1
    rw [h1] at hrun
    exact hrun
  · obtain ⟨v, ps, hrun, hv⟩ := ho.lookup K ht hz (zd := .held zv) (zp := []) rfl hkey
    rw [Maps.atKey_of_not_has h1] at hv
    simp only [RH, Option.some.injEq, Prod.mk.injEq] at hv
    have hv1 := DataW.held.inj hv.1
    subst hv1
    exact hrun
/-- 'm[k]' where there is one. -/
theorem HoldsR.look_some (K : Maps.Keyed Tryd.prog k) (ht : Tryd.prog.underlying t = some (.map k e)) {zv : Value} (hz : (zeroValue e).run Tryd.prog w = .ok zv w) (h : HoldsR k w b n M) {key : Value} {kl : Lit} (hkey : keyOf Tryd.prog k key = some kl) {u : Value} (hM : M key u) :
    (Instr.lookup t (.map (some b)) key true).run Tryd.prog w = .ok (.tuple #[u, .bool true]) w ∧ (Instr.lookup t (.map (some b)) key false).run Tryd.prog w = .ok u w := by
  obtain ⟨D, ho, hD⟩ := h
  obtain ⟨h1, h2⟩ := (hD key kl hkey).1 u hM
  constructor
  · obtain ⟨v, ps, hrun, hv⟩ := ho.look_ok K ht hz (zd := .held zv) (zp := []) rfl hkey
    rw [h2] at hv
    simp only [RH, Option.some.injEq, Prod.mk.injEq] at hv
    have hv1 := DataW.held.inj hv.1
    subst hv1
    rw [h1] at hrun
    exact hrun
  · obtain ⟨v, ps, hrun, hv⟩ := ho.lookup K ht hz (zd := .held zv) (zp := []) rfl hkey
    rw [h2] at hv
    simp only [RH, Option.some.injEq, Prod.mk.injEq] at hv
    have hv1 := DataW.held.inj hv.1
    subst hv1
    exact hrun
/-- 'm[k] = v'. -/
theorem HoldsR.store (K : Maps.Keyed Tryd.prog k) (ht : Tryd.prog.underlying t = some (.map k e)) (h : HoldsR k w b n M) (hn : n < 1000000) {key : Value} {kl : Lit} (hkey : keyOf Tryd.prog k key = some kl) (val : Value) :
    ∃ w', (Instr.mapUpdate t (.map (some b)) key val).run Tryd.prog w = .ok () w' ∧ HoldsR k w' b (n + 1) (setM M key val) ∧ w.grownBy w' (some b) := by
  obtain ⟨D, ho, hD⟩ := h
  obtain ⟨w', hrun, ho', hg⟩ := ho.update (R := RH) K ht (by unfold maxLen; omega) hkey (val := val) (d := .held val) (ps := []) rfl
  exact ⟨w', hrun, ⟨_, ho', hD.put K ho.isMap hkey⟩, hg⟩
theorem idx_unique {l : List MapEntry} (hp : l.Pairwise (fun x y => x.key ≠ y.key)) {i j : Nat} {x y : MapEntry} (hi : l[i]? = some x) (hj : l[j]? = some y) (h : x.key = y.key) : i = j := by
  have h1 := List.pairwise_iff_getElem.1 hp
  obtain ⟨hi1, hi2⟩ := List.getElem?_eq_some_iff.1 hi
  obtain ⟨hj1, hj2⟩ := List.getElem?_eq_some_iff.1 hj
  rcases Nat.lt_trichotomy i j with hlt | hlt | hlt
  · exact absurd (by rw [hi2, hj2]; exact h) (h1 i j hi1 hj1 hlt)
  · exact hlt
  · exact absurd (by rw [hi2, hj2]; exact h.symm) (h1 j i hj1 hi1 hlt)
open Go.WideElems Go.ChangeMaps Go.MapKept Go.ChangeShapes Go.WideShapes in
theorem entry_all {H : Type} {P : Program} {R : Value → Option (DataW H × List MemPlace)} {es : Array MapEntry} {clock : Nat} (K : Maps.Keyed P k) (ht : P.underlying t = some (.map k e)) {z : Value} (hz : ∀ u : World, (zeroValue e).run P u = .ok z u) (F : Fit P k R es clock)
    {key : Value} {kl : Lit} (hkey : keyOf P k key = some kl) (w : World) :
    ∃ (v0 : Value) (st : Nat) (es1 : Array MapEntry) (clock1 : Nat), (∀ W : World, W.heap[b]? = some (.map es clock) → (Instr.mapEntry t (.map (some b)) key).run P W = .ok (.tuple #[v0, goInt st]) (setBlock W b (.map es1 clock1))) ∧
      ((∃ e0 ∈ es.toList, e0.key = key ∧ v0 = e0.val) ∨ ((∀ x ∈ es.toList, x.key ≠ key) ∧ v0 = z)) ∧
      ∀ (val : Value), ∃ es' clock', (∀ w2 : World, w2.heap[b]? = some (.map es1 clock1) → (Instr.entryStore t (.map (some b)) (goInt st) val).run P w2 = .ok () (setBlock w2 b (.map es' clock'))) ∧
        ∀ W : World, W.heap[b]? = some (.map es clock) → (Instr.mapUpdate t (.map (some b)) key val).run P W = .ok () (setBlock W b (.map es' clock')) := by
  obtain ⟨s1, s2, s3⟩ := (stamped_iff es clock).1 F.stamped
  rcases K.find w hkey es.toList F.keys with ⟨h1, h2⟩ | ⟨j, e0, h1, h2, h3⟩
  · have hf : ∀ W : World, (Instr.findKey k key es.toList).run P W = .ok none W := fun W => by
      rcases K.find W hkey es.toList F.keys with ⟨h1, _⟩ | ⟨j, e0, _, h4, h5⟩
      · exact h1
      · exact absurd h5 (h2 e0 (List.mem_of_getElem? h4))
    refine ⟨z, clock, es.push ⟨key, z, clock⟩, clock + 1, fun W hb => ?_, Or.inr ⟨h2, rfl⟩, fun val => ⟨es.push ⟨key, val, clock⟩, clock + 1, fun w2 hw2 => ?_, fun W hb => ?_⟩⟩
    · simp [Instr.mapEntry, run_underlying ht, MapKept.run_getObj_map hb, K.check W false hkey, hf W, hz, MapKept.run_setObj_map _ hb, Result.andThen, setBlock]
    · have hidx : (es.push ⟨key, z, clock⟩).findIdx? (fun e => ((e.born : Nat) : Int) == ((clock : Nat) : Int)) = some es.size := by
        rw [findIdx_arr]
        have := findIdx_born (l := (es.push ⟨key, z, clock⟩).toList) (j := es.size) (e0 := ⟨key, z, clock⟩) (by
          simp only [Array.toList_push, List.map_append, List.map_cons, List.map_nil]
          refine List.nodup_append.2 ⟨s2, by simp, fun a ha c hc e1 => ?_⟩
          simp only [List.mem_singleton] at hc
          obtain ⟨x, hx, rfl⟩ := List.mem_map.1 ha
          have := s1 x hx
          omega) (by simp)
        exact this
      have hmod : (es.push ⟨key, z, clock⟩).modify es.size (fun e => { e with val := val }) = es.push ⟨key, val, clock⟩ := by
        apply Array.ext'
        rw [Array.toList_modify, Array.toList_push, Array.toList_push, ← Array.length_toList, modify_last]
      simp [Instr.entryStore, MapKept.run_getObj_map hw2, asInt, asIntOf, goInt, hidx, hmod, MapKept.run_setObj_map _ hw2, Result.andThen, setBlock]
    · simp [Instr.mapUpdate, run_underlying ht, MapKept.run_getObj_map hb, K.check W false hkey, hf W, MapKept.run_setObj_map _ hb, Result.andThen, setBlock]
  · have hf : ∀ W : World, (Instr.findKey k key es.toList).run P W = .ok (some (j, e0.val)) W := fun W => by
      rcases K.find W hkey es.toList F.keys with ⟨_, h4⟩ | ⟨j', e1, h4, h5, h6⟩
      · exact absurd h3 (h4 e0 (List.mem_of_getElem? h2))
      · obtain rfl := idx_unique s3 h2 h5 (h3.trans h6.symm)
        rw [h2] at h5
        cases h5
        exact h4
    have hj : es[j]? = some e0 := by simpa using h2
    have hsame : es.modify j (fun e => { e with key := key }) = es := by
      apply Array.ext'
      rw [Array.toList_modify, modify_eq_set _ _ _ _ h2]
      have : ({ e0 with key := key } : MapEntry) = e0 := by rw [← h3]
      rw [this]
      exact set_self _ _ _ h2
    refine ⟨e0.val, e0.born, es, clock, fun W hb => ?_, Or.inl ⟨e0, List.mem_of_getElem? h2, h3, rfl⟩, fun val => ⟨es.modify j (fun e' => { e' with key := key, val := val }), clock, fun w2 hw2 => ?_, fun W hb => ?_⟩⟩
    · simp [Instr.mapEntry, run_underlying ht, MapKept.run_getObj_map hb, K.check W false hkey, hf W, hj, h3, K.stays W hkey, hsame, MapKept.run_setObj_map _ hb, Result.andThen, setBlock]
    · have hidx : es.findIdx? (fun e => ((e.born : Nat) : Int) == ((e0.born : Nat) : Int)) = some j := by
        rw [findIdx_arr]
        exact findIdx_born s2 h2
      have hmod : es.modify j (fun e => { e with val := val }) = es.modify j (fun e' => { e' with key := key, val := val }) := by
        apply Array.ext'
        rw [Array.toList_modify, Array.toList_modify, modify_eq_set _ _ _ _ h2, modify_eq_set _ _ _ _ h2, ← h3]
      simp [Instr.entryStore, MapKept.run_getObj_map hw2, asInt, asIntOf, goInt, hidx, hmod, MapKept.run_setObj_map _ hw2, Result.andThen, setBlock]
    · simp [Instr.mapUpdate, run_underlying ht, MapKept.run_getObj_map hb, K.check W false hkey, hf W, hj, h3, K.stays W hkey, MapKept.run_setObj_map _ hb, Result.andThen, setBlock]
/-- 'm[k] = append(m[k], ..)': what is there; then the store. -/
theorem HoldsR.entry (K : Maps.Keyed Tryd.prog k) (ht : Tryd.prog.underlying t = some (.map k e)) {zv : Value} (hz : ∀ w, (zeroValue e).run Tryd.prog w = .ok zv w) (h : HoldsR k w b n M) (hn : n < 1000000) {key : Value} {kl : Lit} (hkey : keyOf Tryd.prog k key = some kl) :
    ∃ (v0 : Value) (st : Nat) (ob0 ob1 : Obj), w.heap[b]? = some ob0 ∧ (M key v0 ∨ (∀ v, ¬ M key v) ∧ v0 = zv) ∧ (∀ cells t ro, ob1 ≠ .cells cells t ro) ∧
      (∀ W, W.heap[b]? = some ob0 → (Instr.mapEntry t (.map (some b)) key).run Tryd.prog W = .ok (.tuple #[v0, .int .i64 st]) (setBlock W b ob1) ∧ (setBlock W b ob1).heap[b]? = some ob1 ∧ W.grownBy (setBlock W b ob1) (some b) ∧ (setBlock W b ob1).heap.size = W.heap.size) ∧
      ∀ (W : World) (val : Value), W.heap[b]? = some ob1 → ∃ w', (Instr.entryStore t (.map (some b)) (.int .i64 st) val).run Tryd.prog W = .ok () w' ∧ HoldsR k w' b (n + 1) (setM M key val) ∧ W.grownBy w' (some b) := by
  obtain ⟨D, ho, hD⟩ := h
  have ho0 := ho
  obtain ⟨es, clock, hb, F, hs, rfl⟩ := ho
  have grows : ∀ (W : World) (es0 : Array MapEntry) (c0 : Nat) (o : Obj), W.heap[b]? = some (.map es0 c0) → W.grownBy (setBlock W b o) (some b) := fun W es0 c0 o hW => ⟨rfl, rfl, rfl, by simp [setBlock], fun i _ hi => heap_setBlock_other hW _ (fun e => hi (by rw [e]))⟩
  obtain ⟨v0, st, es1, clock1, h1, h2, h3⟩ := entry_all (b := b) K ht hz F hkey w
  refine ⟨v0, st, .map es clock, .map es1 clock1, hb, ?_, (fun _ _ _ h => by cases h), fun W hW => ⟨h1 W hW, heap_setBlock_same hW _, grows W _ _ _ hW, by simp [setBlock]⟩, fun W val hW => ?_⟩
  · rcases Maps.fit_look true K ht (hz w) hb F hkey with ⟨_, hno, hat⟩ | ⟨e0, y, hm, hke, _, hR, hat, _⟩
    · have hnm : ∀ v, ¬ M key v := fun v hv => by
        have h5 := ((hD key kl hkey).1 v hv).2 .nil
        rw [hat] at h5
        cases h5
      rcases h2 with ⟨e0, hm, hke, _⟩ | ⟨_, rfl⟩
      · exact absurd hke (hno e0 hm)
      · exact .inr ⟨hnm, rfl⟩
    · have hst : es.toList.Pairwise (fun x y => x.key ≠ y.key) := ((MapKept.stamped_iff es clock).1 F.stamped).2.2
      rcases h2 with ⟨e1, hm1, hke1, hv1⟩ | ⟨hno, _⟩
      · obtain rfl : e1 = e0 := entry_eq_of_key hst hm1 hm (hke1.trans hke.symm)
        left
        simp only [RH, Option.some.injEq] at hR
        by_cases hM : ∃ v, M key v
        · obtain ⟨v, hv⟩ := hM
          have h5 := ((hD key kl hkey).1 v hv).2 .nil
          rw [hat, ← hR] at h5
          injection h5 with h5
          rw [hv1, h5]
          exact hv
        · have h6 := (hD key kl hkey).2 (fun v hv => hM ⟨v, hv⟩)
          have h7 := Maps.atKey_of_not_has (z := .nil) h6
          rw [hat, ← hR] at h7
          cases h7
      · exact absurd hke (hno e0 hm)
  · obtain ⟨es', clock', h4, h5⟩ := h3 val
    obtain ⟨w', hrun, ho', hg⟩ := ho0.update (R := RH) K ht (by unfold maxLen; omega) hkey (val := val) (d := .held val) (ps := []) rfl
    rw [h5 w hb] at hrun
    have ew : setBlock w b (.map es' clock') = w' := by injection hrun
    subst ew
    obtain ⟨es2, clock2, hb2, F2, hs2, hD2⟩ := ho'
    rw [heap_setBlock_same hb] at hb2
    injection hb2 with hb2
    injection hb2 with e1 e2
    subst e1; subst e2
    exact ⟨_, h4 W hW, ⟨_, ⟨es', clock', heap_setBlock_same hW _, F2, hs2, hD2⟩, hD.put K ho0.isMap hkey⟩, grows W _ _ _ hW⟩
end
end Go.Proofs.YtioekkdodggakaaDoor.G
