import Derived.Test.YtioekkdodggakaaDoorHCompare
import Derived.Shelf.SlSortCmp.Insertion
/-
  The order of telegrams, plainly.
-/
namespace Go.Proofs.YtioekkdodggakaaDoor.G
set_option linter.unusedVariables false
theorem less_irr : ∀ a : List UInt8, Op.bytesLess a a = false
  | [] => rfl
  | x :: a => by simp [Op.bytesLess, less_irr a]
theorem less_tri : ∀ a b : List UInt8, Op.bytesLess a b = true ∨ a = b ∨ Op.bytesLess b a = true
  | [], [] => .inr (.inl rfl)
  | [], y :: b => .inl rfl
  | x :: a, [] => .inr (.inr rfl)
  | x :: a, y :: b => by
    simp only [Op.bytesLess, Bool.or_eq_true, decide_eq_true_eq, Bool.and_eq_true, beq_iff_eq]
    rcases Nat.lt_trichotomy x.toNat y.toNat with h | h | h
    · exact .inl (.inl (UInt8.lt_iff_toNat_lt.2 h))
    · obtain rfl := UInt8.toNat_inj.1 h
      rcases less_tri a b with h | h | h
      · exact .inl (.inr ⟨rfl, h⟩)
      · exact .inr (.inl (by rw [h]))
      · exact .inr (.inr (.inr ⟨rfl, h⟩))
    · exact .inr (.inr (.inl (UInt8.lt_iff_toNat_lt.2 h)))
theorem less_trans : ∀ a b c : List UInt8, Op.bytesLess a b = true → Op.bytesLess b c = true → Op.bytesLess a c = true
  | _, [], c, h, _ => by cases ‹List UInt8› <;> simp [Op.bytesLess] at h
  | _, _ :: _, [], _, h => by simp [Op.bytesLess] at h
  | [], y :: b, z :: c, _, _ => rfl
  | x :: a, y :: b, z :: c, h1, h2 => by
    simp only [Op.bytesLess, Bool.or_eq_true, decide_eq_true_eq, Bool.and_eq_true, beq_iff_eq] at *
    rcases h1 with h1 | ⟨rfl, h1⟩
    · rcases h2 with h2 | ⟨rfl, h2⟩
      · exact .inl (UInt8.lt_trans h1 h2)
      · exact .inl h1
    · rcases h2 with h2 | ⟨rfl, h2⟩
      · exact .inl h2
      · exact .inr ⟨rfl, less_trans a b c h1 h2⟩

theorem ba_len (b : ByteArray) : b.data.toList.length = b.size := by rw [Array.length_toList]; rfl
theorem toList_loop (b : ByteArray) : ∀ (n i : Nat) (r : List UInt8), b.size - i = n → ByteArray.toList.loop b i r = r.reverse ++ b.data.toList.drop i := by
  intro n
  induction n with
  | zero =>
    intro i r h
    unfold ByteArray.toList.loop
    have hs := ba_len b
    rw [if_neg (by omega), List.drop_of_length_le (by omega), List.append_nil]
  | succ n ih =>
    intro i r h
    unfold ByteArray.toList.loop
    have hs := ba_len b
    rw [if_pos (by omega), ih (i + 1) _ (by omega), List.reverse_cons, List.append_assoc]
    congr 1
    rw [List.drop_eq_getElem_cons (by omega : i < b.data.toList.length)]
    have hlt : i < b.data.size := by have : b.data.size = b.size := rfl; omega
    have e : b.get! i = b.data.toList[i] := by
      show b.data[i]! = _
      rw [getElem!_pos b.data i hlt]; rfl
    rw [e]; rfl
theorem toList_data (b : ByteArray) : b.toList = b.data.toList := by
  unfold ByteArray.toList
  rw [toList_loop b (b.size - 0) 0 [] rfl]; rfl
theorem toList_inj {s t : ByteArray} (h : s.toList = t.toList) : s = t := by
  rw [toList_data, toList_data] at h
  cases s; cases t
  simp only at h
  congr 1
  exact Array.toList_inj.1 h
theorem cmpI_neg (x y : Int) : cmpI x y < 0 ↔ x < y := by unfold cmpI; (repeat' split) <;> omega
theorem cmpI_zero (x y : Int) : cmpI x y = 0 ↔ x = y := by unfold cmpI; (repeat' split) <;> omega
theorem cmpS_neg (s t : ByteArray) : cmpS s t < 0 ↔ Op.bytesLess s.toList t.toList = true := by
  unfold cmpS
  split
  · rename_i h; simp [h]
  · rename_i h; split <;> simp [h]
def ltG (x y : S29) : Prop := x.f0 < y.f0 ∨ x.f0 = y.f0 ∧ (x.f1 < y.f1 ∨ x.f1 = y.f1 ∧ (x.f2 < y.f2 ∨ x.f2 = y.f2 ∧ (x.f3 < y.f3 ∨ x.f3 = y.f3 ∧ Op.bytesLess x.f4.toList y.f4.toList = true)))
theorem orL_neg (a : Int) (l : List Int) : orL (a :: l) < 0 ↔ a < 0 ∨ a = 0 ∧ orL l < 0 := by
  show (if a = 0 then orL l else a) < 0 ↔ _
  split <;> rename_i h
  · constructor
    · intro h'; exact .inr ⟨h, h'⟩
    · rintro (h' | h')
      · omega
      · exact h'.2
  · constructor
    · intro h'; exact .inl h'
    · rintro (h' | h')
      · exact h'
      · exact absurd h'.1 h
theorem cmpG_neg (x y : S29) : cmpG x y < 0 ↔ ltG x y := by
  unfold cmpG ltG
  rw [orL_neg, orL_neg, orL_neg, orL_neg, orL_neg, cmpI_neg, cmpI_neg, cmpI_neg, cmpI_neg, cmpI_zero, cmpI_zero, cmpI_zero, cmpI_zero, cmpS_neg]
  simp [orL]
theorem ltG_irr (x : S29) : ¬ ltG x x := by
  unfold ltG
  rintro (h | ⟨_, h | ⟨_, h | ⟨_, h | ⟨_, h⟩⟩⟩⟩)
  · omega
  · omega
  · omega
  · omega
  · rw [less_irr] at h; cases h
theorem ltG_trans {x y z : S29} (h1 : ltG x y) (h2 : ltG y z) : ltG x z := by
  have ht := fun h h' => less_trans x.f4.toList y.f4.toList z.f4.toList h h'
  unfold ltG at *
  grind
theorem ltG_tri (x y : S29) : ltG x y ∨ x = y ∨ ltG y x := by
  have ht := less_tri x.f4.toList y.f4.toList
  have hi : x.f4.toList = y.f4.toList → x.f4 = y.f4 := toList_inj
  have he : x.f0 = y.f0 → x.f1 = y.f1 → x.f2 = y.f2 → x.f3 = y.f3 → x.f4 = y.f4 → x = y := by
    intro h0 h1 h2 h3 h4
    cases x; cases y
    simp only at h0 h1 h2 h3 h4
    subst h0 h1 h2 h3 h4
    rfl
  unfold ltG
  rcases Int.lt_trichotomy x.f0 y.f0 with a0 | a0 | a0
  · exact .inl (.inl a0)
  · rcases Int.lt_trichotomy x.f1 y.f1 with a1 | a1 | a1
    · exact .inl (.inr ⟨a0, .inl a1⟩)
    · rcases Int.lt_trichotomy x.f2 y.f2 with a2 | a2 | a2
      · exact .inl (.inr ⟨a0, .inr ⟨a1, .inl a2⟩⟩)
      · rcases Int.lt_trichotomy x.f3 y.f3 with a3 | a3 | a3
        · exact .inl (.inr ⟨a0, .inr ⟨a1, .inr ⟨a2, .inl a3⟩⟩⟩)
        · rcases ht with h | h | h
          · exact .inl (.inr ⟨a0, .inr ⟨a1, .inr ⟨a2, .inr ⟨a3, h⟩⟩⟩⟩)
          · exact .inr (.inl (he a0 a1 a2 a3 (hi h)))
          · exact .inr (.inr (.inr ⟨a0.symm, .inr ⟨a1.symm, .inr ⟨a2.symm, .inr ⟨a3.symm, h⟩⟩⟩⟩))
        · exact .inr (.inr (.inr ⟨a0.symm, .inr ⟨a1.symm, .inr ⟨a2.symm, .inl a3⟩⟩⟩))
      · exact .inr (.inr (.inr ⟨a0.symm, .inr ⟨a1.symm, .inl a2⟩⟩))
    · exact .inr (.inr (.inr ⟨a0.symm, .inl a1⟩))
  · exact .inr (.inr (.inl a0))
open Go.Sort in
theorem swoG : SWO (ltOf cmpG) where
  irrefl := fun x => by unfold ltOf; rw [decide_eq_false_iff_not, cmpG_neg]; exact ltG_irr x
  trans := fun x y z h1 h2 => by
    unfold ltOf at *
    rw [decide_eq_true_eq, cmpG_neg] at *
    exact ltG_trans h1 h2
  ntrans := fun x y z h1 h2 => by
    unfold ltOf at *
    rw [decide_eq_false_iff_not, cmpG_neg] at *
    intro h3
    rcases ltG_tri x y with h | h | h
    · exact h1 h
    · subst h; exact h2 h3
    · exact h2 (ltG_trans h h3)
end Go.Proofs.YtioekkdodggakaaDoor.G
