import Derived.Lib.OwnBridge
import Derived.Shelf.SlSortCmp.KitK
/-
  Own rows and the sort's words for them.
-/
namespace Go.Proofs.YtioekkdodggakaaDoor.ST
open Go.Shelf Go.RowKit Go.Lib Go.Sort
set_option linter.unusedVariables false
set_option linter.unusedSectionVars false
variable {α : Type} [Inhabited α] {enc : α → List Value} {k : Nat}

theorem flat_get (hk : ∀ x, (enc x).length = k) : ∀ (l : List α) (t : Nat) (x : α) (v : Value), l[t / k]? = some x → (enc x)[t % k]? = some v → (l.flatMap enc)[t]? = some v
  | [], t, x, v, h, _ => by simp at h
  | y :: l, t, x, v, h, hv => by
    have hk0 : 0 < k := by
      have h1 := (List.getElem?_eq_some_iff.1 hv).1
      rw [hk] at h1; omega
    rw [List.flatMap_cons]
    rcases Nat.lt_or_ge t k with ht | ht
    · rw [Nat.div_eq_of_lt ht] at h
      rw [Nat.mod_eq_of_lt ht] at hv
      simp at h; subst h
      rw [List.getElem?_append_left (by rw [hk]; exact ht)]; exact hv
    · rw [List.getElem?_append_right (by rw [hk]; exact ht), hk]
      have e1 : t / k = (t - k) / k + 1 := by rw [Nat.div_eq_sub_div hk0 ht]
      rw [e1, List.getElem?_cons_succ] at h
      rw [Nat.mod_eq_sub_mod ht] at hv
      exact flat_get hk l (t - k) x v h hv
theorem flat_length (hk : ∀ x, (enc x).length = k) (l : List α) : (l.flatMap enc).length = l.length * k := by
  induction l with
  | nil => simp
  | cons x l ih => rw [List.flatMap_cons, List.length_append, ih, hk, List.length_cons, Nat.add_mul, Nat.one_mul, Nat.add_comm]
theorem flatK_flat (hk : ∀ x, (enc x).length = k) (d : Array α) : (flatK enc k d).toList = d.toList.flatMap enc := by
  apply List.ext_getElem?
  intro t
  rcases Nat.lt_or_ge t (d.size * k) with h | h
  · have hk0 : 0 < k := by rcases Nat.eq_zero_or_pos k with h0 | h0; (subst h0; omega); exact h0
    have hd : t / k < d.size := Nat.div_lt_of_lt_mul (by rw [Nat.mul_comm]; exact h)
    have hm : t % k < (enc d[t / k]!).length := by rw [hk]; exact Nat.mod_lt _ hk0
    rw [flat_get hk d.toList t d[t / k]! (enc d[t / k]!)[t % k]! (by rw [Array.getElem?_toList, Array.getElem?_eq_getElem hd, getElem!_pos d _ hd]) (by rw [List.getElem?_eq_getElem hm, getElem!_pos (enc d[t / k]!) _ hm])]
    rw [Array.getElem?_toList]
    unfold flatK
    rw [Array.getElem?_map, Array.getElem?_range, if_pos h]
    rfl
  · rw [List.getElem?_eq_none (by rw [Array.length_toList, size_flatK]; exact h), List.getElem?_eq_none (by rw [flat_length hk, Array.length_toList]; exact h)]

/-- A row of the call's own holds its elements. -/
theorem holds_own (hk : ∀ x, (enc x).length = k) {W : World} {g : Nat} {e : TypeId} {cur : Array Value} (hb : W.heap[g]? = some (.cells cur e (0, 0))) (d : Array α) (ht : cur.toList.take (d.size * k) = d.toList.flatMap enc) : HoldsK enc k W g 0 d := by
  intro j hj
  refine ⟨?_, by simp [World.frozen?, hb]⟩
  rw [size_flatK] at hj
  have h1 : (flatK enc k d).toList[j]? = cur.toList[j]? := by rw [flatK_flat hk, ← ht, List.getElem?_take, if_pos hj]
  rw [Array.getElem?_toList, Array.getElem?_toList] at h1
  have h2 : j < (flatK enc k d).size := by rw [size_flatK]; exact hj
  simp only [World.cell?, hb, Nat.zero_add]
  rw [← h1, Array.getElem?_eq_getElem h2, getElem!_pos (flatK enc k d) j h2]
  rfl

theorem sort_block {W : World} {m : Nat} {os : Array Obj} {g : Nat} {d : Array α} {e : TypeId} {cur : Array Value} (hb : W.heap[g]? = some (.cells cur e (0, 0))) (hs : d.size * k ≤ cur.size) :
    ∃ cur', (sortWorldK enc k W g 0 m d os).heap[g]? = some (.cells cur' e (0, 0)) ∧ cur'.size = cur.size ∧ cur'.toList.take (d.size * k) = (flatK enc k d).toList := by
  have hlt : g < W.heap.size := by
    rcases Nat.lt_or_ge g W.heap.size with h' | h'
    · exact h'
    · rw [Array.getElem?_eq_none h'] at hb; cases hb
  refine ⟨putCells id 0 (flatK enc k d) cur, ?_, by simp [putCells], ?_⟩
  · unfold sortWorldK
    rw [heap_grow_old _ _ (by simpa [putRowK, putRow, mapBlock, Sort.ahead] using hlt)]
    simp [putRowK, putRow, mapBlock, Sort.ahead, Array.getElem?_modify, hb, onCells]
  · apply List.ext_getElem?
    intro j
    rw [List.getElem?_take, Array.getElem?_toList]
    rcases Nat.lt_or_ge j (d.size * k) with h | h
    · rw [if_pos h, Array.getElem?_toList]
      have h2 : j < (flatK enc k d).size := by rw [size_flatK]; exact h
      simp only [putCells, Array.getElem?_mapIdx]
      rw [Array.getElem?_eq_getElem (by omega : j < cur.size), Option.map_some, if_pos ⟨Nat.zero_le _, by omega⟩, Array.getElem?_eq_getElem h2]
      simp only [Nat.sub_zero, id]
      rw [getElem!_pos (flatK enc k d) j h2]
    · rw [if_neg (by omega), List.getElem?_eq_none (by rw [Array.length_toList, size_flatK]; exact h)]
theorem sort_grown {W : World} {m : Nat} {os : Array Obj} {g : Nat} {d : Array α} : W.grownBy (sortWorldK enc k W g 0 m d os) (some g) := by
  refine ⟨rfl, rfl, rfl, ?_, fun j hj hne => ?_⟩
  · simp [sortWorldK, putRowK, putRow, mapBlock, Sort.ahead, grow]
  · have : g ≠ j := fun e => hne (by rw [e])
    unfold sortWorldK
    rw [heap_grow_old _ _ (by simpa [putRowK, putRow, mapBlock, Sort.ahead] using hj)]
    simp [putRowK, putRow, mapBlock, Sort.ahead, Array.getElem?_modify, this]
end Go.Proofs.YtioekkdodggakaaDoor.ST
