/-
  Several texts in one: E2, E3, E4.
-/
import Derived.Test.YtehieahpocbboaaHB
import Derived.Test.YtehieahpocbboaaKB
import Derived.Test.YtehieahpocbboaaHM
import Derived.Test.YtehieahpocbboaaHAdmitted
import Derived.Test.YtehieahpocbboaaK3
/-
  The reference's encodings (as printed) are the same lists of bytes.
-/
namespace Go.Proofs.Ytehieahpocbboaa.G
open Go.RowKit Go.Proofs.YtehieahpocbboaaW.PrintWords Go.Proofs.YtehieahpocbboaaW.PrintLast Go.Proofs.YtehieahpocbboaaW.PrintMore
set_option linter.unusedVariables false
set_option linter.unusedSimpArgs false

theorem digits_l0 : ∀ (j m k : Nat) (acc : List UInt8), m < 18446744073709551616 → nb m = j → acc.length + j ≤ 1000 → j < k → bourneref02_digits.l0 k (m : Int) (ofB acc) = some (ofB (beK j m ++ acc)) := by
  intro j
  induction j with
  | zero =>
    intro m k acc hm hj ha hk
    obtain ⟨k, rfl⟩ : ∃ n, k = n + 1 := ⟨k - 1, by omega⟩
    have h0 : m = 0 := by
      rcases Nat.eq_zero_or_pos m with h | h
      · exact h
      · have := nb_div m (by omega) hm; omega
    subst h0
    simp only [bourneref02_digits.l0]
    rw [if_neg (by omega)]
    rfl
  | succ j ih =>
    intro m k acc hm hj ha hk
    obtain ⟨k, rfl⟩ : ∃ n, k = n + 1 := ⟨k - 1, by omega⟩
    have h0 : m ≠ 0 := by rintro rfl; rw [nb_zero] at hj; omega
    have hd := nb_div m h0 hm
    simp only [bourneref02_digits.l0]
    rw [if_pos (by omega)]
    simp only [Option.bind_some]
    have e1 : Int.tmod (m : Int) 256 % 256 = ((UInt8.ofNat (m % 256)).toNat : Int) := by
      rw [Int.tmod_eq_emod_of_nonneg (by omega)]
      have : (UInt8.ofNat (m % 256)).toNat = m % 256 := by rw [UInt8.toNat_ofNat']; omega
      rw [this]; omega
    have e2 : IntKind.u64.wrap (Int.tdiv (m : Int) 256) = ((m / 256 : Nat) : Int) := by
      rw [Int.tdiv_eq_ediv_of_nonneg (by omega)]
      rw [show (m : Int) / 256 = ((m / 256 : Nat) : Int) by omega]
      exact wraps_u64 _ (by omega) (by omega)
    rw [if_pos (by rw [ofB_length]; simp; omega), e1, e2]
    have := ih (m / 256) k (UInt8.ofNat (m % 256) :: acc) (by omega) (by omega) (by simp; omega) (by omega)
    have e3 : ofB (UInt8.ofNat (m % 256) :: acc) = [((UInt8.ofNat (m % 256)).toNat : Int)] ++ ofB acc := rfl
    rw [e3] at this
    rw [this, beK_snoc, List.append_assoc]
    rfl
theorem digits_eq (m k : Nat) (hm : m < 18446744073709551616) (hk : 10 ≤ k) : bourneref02_digits.f k (m : Int) = some (ofB (beK (nb m) m)) := by
  have := digits_l0 (nb m) m k [] hm rfl (by have := nb_le m hm; simp; omega) (by have := nb_le m hm; omega)
  rw [List.append_nil] at this
  exact this
theorem rInt_l0 (d : List UInt8) (hd : d.length ≤ 8) : ∀ (j i k : Nat) (acc : List UInt8), i + j = d.length → acc.length = i + 1 → j < k →
    bourneref02_Int.l0 k (ofB d) (ofB acc) (i : Int) = some (⟨(acc ++ (d.drop i).map (fun c => 255 - c)).toArray⟩ : ByteArray) := by
  intro j
  induction j with
  | zero =>
    intro i k acc hi ha hk
    obtain ⟨k, rfl⟩ : ∃ n, k = n + 1 := ⟨k - 1, by omega⟩
    simp only [bourneref02_Int.l0]
    rw [if_neg (by rw [ofB_length]; omega), List.drop_of_length_le (by omega), strOfNums_ofB]
    simp
  | succ j ih =>
    intro i k acc hi ha hk
    obtain ⟨k, rfl⟩ : ∃ n, k = n + 1 := ⟨k - 1, by omega⟩
    simp only [bourneref02_Int.l0]
    have hlt : i < d.length := by omega
    have e1 : rd (ofB d) (i : Int) = ((d[i]).toNat : Int) := by
      unfold rd ofB
      rw [Int.toNat_natCast, List.getD_eq_getElem?_getD, List.getElem?_map, List.getElem?_eq_getElem hlt]; rfl
    have e2 : wrap64 ((i : Int) + 1) = ((i + 1 : Nat) : Int) := by unfold wrap64; omega
    have hc := UInt8.toNat_lt d[i]
    have e3 : (255 - ((d[i]).toNat : Int)) % 256 = ((255 - d[i]).toNat : Int) := by
      have := u8_sub (d[i]).toNat (by omega)
      rw [UInt8.ofNat_toNat] at this
      rw [this]; omega
    rw [if_pos (by rw [ofB_length]; omega), if_pos (by omega), if_pos (by rw [ofB_length]; omega), e1, e2, e3]
    have := ih (i + 1) k (acc ++ [255 - d[i]]) (by omega) (by simp; omega) (by omega)
    rw [ofB_append, show ofB [255 - d[i]] = [((255 - d[i]).toNat : Int)] from rfl] at this
    rw [this, List.drop_eq_getElem_cons hlt, List.map_cons, List.append_assoc]
    rfl
theorem rInt_eq (n : Int) (hn : IsI n) (k : Nat) (hk : 20 ≤ k) : bourneref02_Int.f k n = some (⟨(intL n).toArray⟩ : ByteArray) := by
  unfold bourneref02_Int.f intL IsI at *
  by_cases h0 : n < 0
  · rw [if_neg (by omega), if_pos h0]
    obtain ⟨m, rfl⟩ : ∃ m : Nat, n = -(m : Int) - 1 := ⟨(-n - 1).toNat, by omega⟩
    have e1 : IntKind.u64.wrap (wrap64 (-(wrap64 (-(m : Int) - 1 + 1)))) = (m : Int) := by
      have h1 : wrap64 (-(m : Int) - 1 + 1) = -(m : Int) := by unfold wrap64; omega
      have h2 : wrap64 (-(-(m : Int))) = (m : Int) := by unfold wrap64; omega
      rw [h1, h2]
      exact wraps_u64 _ (by omega) (by omega)
    have e : (-(-(m : Int) - 1) - 1).toNat = m := by omega
    rw [e1, digits_eq m k (by omega) (by omega), e]
    simp only [Option.bind_some]
    have hb := nb_le m (by omega)
    have e3 := head_byte (127 - (nb m : Int)) (by omega) (by omega)
    rw [ofB_length, beK_length, e3, show (127 - (nb m : Int)).toNat = 127 - nb m by omega]
    have := rInt_l0 (beK (nb m) m) (by rw [beK_length]; omega) (nb m) 0 k [UInt8.ofNat (127 - nb m)] (by rw [beK_length]; omega) rfl (by omega)
    exact this
  · rw [if_pos (by omega), if_neg h0]
    obtain ⟨m, rfl⟩ : ∃ m : Nat, n = (m : Int) := ⟨n.toNat, by omega⟩
    rw [wraps_u64 _ (by omega) (by omega), digits_eq m k (by omega) (by omega), Int.toNat_natCast]
    simp only [Option.bind_some]
    have hb := nb_le m (by omega)
    have e3 := head_byte (128 + (nb m : Int)) (by omega) (by omega)
    rw [ofB_length, beK_length, e3, show (128 + (nb m : Int)).toNat = 128 + nb m by omega, if_pos (by simp; omega)]
    have := strOfNums_ofB (UInt8.ofNat (128 + nb m) :: beK (nb m) m)
    rw [← this]
    rfl
theorem ba_append (a b : List UInt8) : (⟨a.toArray⟩ : ByteArray) ++ (⟨b.toArray⟩ : ByteArray) = ⟨(a ++ b).toArray⟩ := by
  apply ByteArray.ext
  rw [ByteArray.data_append]
  simp
theorem ba_size (a : List UInt8) : (⟨a.toArray⟩ : ByteArray).size = a.length := by simp [ByteArray.size]
theorem ba1 : (⟨#[1]⟩ : ByteArray) = ⟨([1] : List UInt8).toArray⟩ := rfl
theorem ba0 : (⟨#[0]⟩ : ByteArray) = ⟨([0] : List UInt8).toArray⟩ := rfl
theorem rd_take (l : List Int) (i : Nat) (h : i < l.length) : l.take (i + 1) = l.take i ++ [rd l i] := by
  rw [List.take_succ_eq_append_getElem h]
  congr 2
  unfold rd
  rw [Int.toNat_natCast, List.getD_eq_getElem?_getD, List.getElem?_eq_getElem h]; rfl
theorem rd_mem (l : List Int) (i : Nat) (h : i < l.length) : rd l i ∈ l := by
  unfold rd
  rw [Int.toNat_natCast, List.getD_eq_getElem?_getD, List.getElem?_eq_getElem h]
  exact List.getElem_mem _
theorem rNums_l0 (l : List Int) (hl : l.length ≤ 100000) (hw : ∀ x ∈ l, IsI x) : ∀ (j i k : Nat), i + j = l.length → j + 20 < k →
    bourneref02_Nums.l0 k l (⟨(itemsL (l.take i)).toArray⟩ : ByteArray) (i : Int) = some (⟨(numsL l).toArray⟩ : ByteArray) := by
  intro j
  induction j with
  | zero =>
    intro i k hi hk
    obtain ⟨k, rfl⟩ : ∃ n, k = n + 1 := ⟨k - 1, by omega⟩
    have hlen := itemsL_length l hw
    simp only [bourneref02_Nums.l0]
    rw [if_neg (by omega), List.take_of_length_le (by omega), if_pos (by rw [ba_size]; omega), ba0, ba_append]
    rfl
  | succ j ih =>
    intro i k hi hk
    obtain ⟨k, rfl⟩ : ∃ n, k = n + 1 := ⟨k - 1, by omega⟩
    have hlen := itemsL_length (l.take i) (fun x hx => hw x (List.mem_of_mem_take hx))
    rw [List.length_take] at hlen
    simp only [bourneref02_Nums.l0]
    have hI := hw _ (rd_mem l i (by omega))
    have h9 := intL_length (rd l i) hI.1 hI.2
    rw [if_pos (by omega), if_pos (by rw [ba_size]; omega), if_pos (by omega), rInt_eq _ hI k (by omega)]
    simp only [Option.bind_some]
    have e2 : wrap64 ((i : Int) + 1) = ((i + 1 : Nat) : Int) := by unfold wrap64; omega
    rw [ba1, ba_append, ba_append, if_pos (by rw [ba_size, ba_size]; simp only [List.length_append, List.length_cons, List.length_nil]; omega), e2]
    have := ih (i + 1) k (by omega) (by omega)
    rw [rd_take l i (by omega), itemsL_snoc] at this
    exact this
theorem rNums_eq (l : List Int) (hl : l.length ≤ 100000) (hw : ∀ x ∈ l, IsI x) (k : Nat) (hk : l.length + 20 < k) : bourneref02_Nums.f k l = some (⟨(numsL l).toArray⟩ : ByteArray) :=
  rNums_l0 l hl hw l.length 0 k (by omega) hk
theorem rBytes_l1 (a b c d : Int) (rain : List (List S54)) (i : Nat) (hi : i < rain.length) (hr : IsRain rain) (L : List UInt8) (hL : L.length ≤ 30000000) : ∀ (j m k : Nat), m + j = (rd_L3 rain i).length → j + 3000 < k →
    bourneref29_Bytes.l1 k (⟨L.toArray⟩ : ByteArray) (i : Int) (endsL ((rd_L3 rain i).take m)) (m : Int) a b c d rain = bourneref29_Bytes.l0 (k - j - 1) (⟨(L ++ [1] ++ numsL (endsL (rd_L3 rain i))).toArray⟩ : ByteArray) ((i + 1 : Nat) : Int) a b c d rain := by
  have hrow := hr.2 _ (take_rd_L3 rain i hi).2
  have hr1 := hr.1
  intro j
  induction j with
  | zero =>
    intro m k hm hk
    obtain ⟨k, rfl⟩ : ∃ n, k = n + 1 := ⟨k - 1, by omega⟩
    simp only [bourneref29_Bytes.l1]
    have hn := numsL_length (rd_L3 rain i) hrow.1 hrow.2
    have e2 : wrap64 ((i : Int) + 1) = ((i + 1 : Nat) : Int) := by unfold wrap64; omega
    rw [if_pos (by omega), if_pos (by omega), if_neg (by omega), List.take_of_length_le (by omega), if_pos (by rw [ba_size]; omega), rNums_eq _ (by rw [endsL_length]; omega) (endsL_is _ hrow.2) k (by rw [endsL_length]; omega)]
    simp only [Option.bind_some]
    rw [ba1, ba_append, ba_append, if_pos (by rw [ba_size, ba_size]; simp only [List.length_append, List.length_cons, List.length_nil]; omega), e2]
    rfl
  | succ j ih =>
    intro m k hm hk
    obtain ⟨k, rfl⟩ : ∃ n, k = n + 1 := ⟨k - 1, by omega⟩
    simp only [bourneref29_Bytes.l1]
    have e2 : wrap64 ((m : Int) + 1) = ((m + 1 : Nat) : Int) := by unfold wrap64; omega
    rw [if_pos (by omega), if_pos (by omega), if_pos (by omega), if_pos (by omega)]
    simp only [Option.bind_some]
    rw [if_pos (by rw [endsL_length, List.length_take]; simp; omega), e2]
    have := ih (m + 1) k (by omega) (by omega)
    rw [(take_rd_T54 (rd_L3 rain i) m (by omega)).1, endsL_snoc] at this
    rw [this, show k + 1 - (j + 1) - 1 = k - j - 1 by omega]
set_option maxRecDepth 100000 in
theorem rBytes_l0 (a b c d : Int) (rain : List (List S54)) (hr : IsRain rain) (L : List UInt8) (hL : L.length ≤ 100) : ∀ (j i k : Nat), i + j = rain.length → j * 1010 + 5000 < k →
    bourneref29_Bytes.l0 k (⟨(L ++ rowsL (rain.take i)).toArray⟩ : ByteArray) (i : Int) a b c d rain = some (⟨(L ++ rowsL rain ++ [0]).toArray⟩ : ByteArray) := by
  intro j
  induction j with
  | zero =>
    intro i k hi hk
    obtain ⟨k, rfl⟩ : ∃ n, k = n + 1 := ⟨k - 1, by omega⟩
    have hlen := rowsL_length rain hr.2
    have h1 := hr.1
    simp only [bourneref29_Bytes.l0]
    rw [if_neg (by omega), List.take_of_length_le (by omega), if_pos (by rw [ba_size, List.length_append]; omega), ba0, ba_append]
  | succ j ih =>
    intro i k hi hk
    obtain ⟨k, rfl⟩ : ∃ n, k = n + 1 := ⟨k - 1, by omega⟩
    have hlen := rowsL_length (rain.take i) (fun x hx => hr.2 x (List.mem_of_mem_take hx))
    rw [List.length_take] at hlen
    have h1 := hr.1
    have ht := take_rd_L3 rain i (by omega)
    have hrow := hr.2 _ ht.2
    simp only [bourneref29_Bytes.l0]
    rw [if_pos (by omega)]
    have := rBytes_l1 a b c d rain i (by omega) hr (L ++ rowsL (rain.take i)) (by rw [List.length_append]; omega) (rd_L3 rain i).length 0 k (by omega) (by omega)
    rw [List.take_zero] at this
    have e0 : bourneref29_Bytes.l1 k (⟨(L ++ rowsL (rain.take i)).toArray⟩ : ByteArray) (i : Int) [] 0 a b c d rain = _ := this
    rw [e0]
    have := ih (i + 1) (k - (rd_L3 rain i).length - 1) (by omega) (by omega)
    rw [ht.1, rowsL_snoc] at this
    rw [← this]
    congr 3
    simp
set_option maxRecDepth 100000 in
theorem rBytes_eq (kind known id from_ : Int) (rain : List (List S54)) (h1 : IsI kind) (h2 : IsI known) (h3 : IsI id) (h4 : IsI from_) (hr : IsRain rain) (k : Nat) (hk : rain.length * 1010 + 6000 < k) :
    bourneref29_Bytes.f k kind known id from_ rain = some (⟨(newsL kind known id from_ rain).toArray⟩ : ByteArray) := by
  unfold bourneref29_Bytes.f newsL
  have b1 := intL_length kind h1.1 h1.2
  have b2 := intL_length known h2.1 h2.2
  have b3 := intL_length id h3.1 h3.2
  have b4 := intL_length from_ h4.1 h4.2
  rw [rInt_eq known h2 k (by omega), rInt_eq kind h1 k (by omega), rInt_eq id h3 k (by omega), rInt_eq from_ h4 k (by omega)]
  simp only [Option.bind_some]
  rw [if_pos (by rw [ba_size, ba_size]; omega), ba_append, if_pos (by rw [ba_size, ba_size, List.length_append]; omega), ba_append, if_pos (by rw [ba_size, ba_size, List.length_append, List.length_append]; omega), ba_append]
  have := rBytes_l0 kind known id from_ rain hr (intL known ++ intL kind ++ intL id ++ intL from_) (by simp only [List.length_append]; omega) rain.length 0 k (by omega) (by omega)
  rw [List.take_zero] at this
  rw [show rowsL [] = [] from rfl, List.append_nil] at this
  exact this
end Go.Proofs.Ytehieahpocbboaa.G
/-
  The order of the encodings; that the encodings tell the news; what is admitted hangs only on which news are there.
-/
namespace Go.Proofs.Ytehieahpocbboaa.G
open Go.RowKit Go.Proofs.YtehieahpocbboaaW.PrintWords Go.Proofs.YtehieahpocbboaaW.PrintLast Go.Proofs.YtehieahpocbboaaW.PrintMore
set_option linter.unusedVariables false
set_option linter.unusedSimpArgs false

/-! bytesLess is a strict order -/
theorem less_irr : ∀ a : List UInt8, Op.bytesLess a a = false
  | [] => rfl
  | x :: a => by simp [Op.bytesLess, less_irr a]
theorem less_tri : ∀ a b : List UInt8, Op.bytesLess a b = true ∨ a = b ∨ Op.bytesLess b a = true
  | [], [] => .inr (.inl rfl)
  | [], y :: b => .inl rfl
  | x :: a, [] => .inr (.inr rfl)
  | x :: a, y :: b => by
    simp only [Op.bytesLess, Bool.or_eq_true, decide_eq_true_eq, Bool.and_eq_true, beq_iff_eq]
    rcases Nat.lt_trichotomy x.toNat y.toNat with h | h | h
    · exact .inl (.inl (UInt8.lt_iff_toNat_lt.2 h))
    · obtain rfl := UInt8.toNat_inj.1 h
      rcases less_tri a b with h | h | h
      · exact .inl (.inr ⟨rfl, h⟩)
      · exact .inr (.inl (by rw [h]))
      · exact .inr (.inr (.inr ⟨rfl, h⟩))
    · exact .inr (.inr (.inl (UInt8.lt_iff_toNat_lt.2 h)))
theorem less_trans : ∀ a b c : List UInt8, Op.bytesLess a b = true → Op.bytesLess b c = true → Op.bytesLess a c = true
  | _, [], c, h, _ => by cases ‹List UInt8› <;> simp [Op.bytesLess] at h
  | _, _ :: _, [], _, h => by simp [Op.bytesLess] at h
  | [], y :: b, z :: c, _, _ => rfl
  | x :: a, y :: b, z :: c, h1, h2 => by
    simp only [Op.bytesLess, Bool.or_eq_true, decide_eq_true_eq, Bool.and_eq_true, beq_iff_eq] at *
    rcases h1 with h1 | ⟨rfl, h1⟩
    · rcases h2 with h2 | ⟨rfl, h2⟩
      · exact .inl (UInt8.lt_trans h1 h2)
      · exact .inl h1
    · rcases h2 with h2 | ⟨rfl, h2⟩
      · exact .inl h2
      · exact .inr ⟨rfl, less_trans a b c h1 h2⟩
theorem leB_iff (a b : List UInt8) : leB a b = true ↔ Op.bytesLess a b = true ∨ a = b := by
  unfold leB
  rw [Bool.or_eq_true, beq_iff_eq]
theorem leB_refl (a : List UInt8) : leB a a = true := (leB_iff a a).2 (.inr rfl)
theorem leB_trans {a b c : List UInt8} (h1 : leB a b = true) (h2 : leB b c = true) : leB a c = true := by
  rw [leB_iff] at *
  rcases h1 with h1 | rfl
  · rcases h2 with h2 | rfl
    · exact .inl (less_trans _ _ _ h1 h2)
    · exact .inl h1
  · exact h2
theorem leB_total (a b : List UInt8) : leB a b = true ∨ leB b a = true := by
  rw [leB_iff, leB_iff]
  rcases less_tri a b with h | h | h
  · exact .inl (.inl h)
  · exact .inl (.inr h)
  · exact .inr (.inl h)
theorem leB_anti {a b : List UInt8} (h1 : leB a b = true) (h2 : leB b a = true) : a = b := by
  rw [leB_iff] at *
  rcases h1 with h1 | h1
  · rcases h2 with h2 | h2
    · have := less_trans _ _ _ h1 h2
      rw [less_irr] at this; cases this
    · exact h2.symm
  · exact h1
theorem less_same : ∀ (p x y : List UInt8), Op.bytesLess (p ++ x) (p ++ y) = Op.bytesLess x y
  | [], x, y => rfl
  | c :: p, x, y => by
    simp only [List.cons_append, Op.bytesLess]
    rw [less_same p x y]
    simp
/-- Neither begins the other. -/
def NP (p q : List UInt8) : Prop := (∀ t, p ++ t ≠ q) ∧ (∀ t, q ++ t ≠ p)
theorem less_np : ∀ (p q x y : List UInt8), NP p q → Op.bytesLess (p ++ x) (q ++ y) = Op.bytesLess p q
  | [], q, x, y, h => absurd rfl (h.1 q)
  | c :: p, [], x, y, h => absurd rfl (h.2 (c :: p))
  | c :: p, d :: q, x, y, h => by
    simp only [List.cons_append, Op.bytesLess]
    by_cases hcd : c = d
    · subst hcd
      rw [less_np p q x y ⟨fun t e => h.1 t (by rw [List.cons_append, e]), fun t e => h.2 t (by rw [List.cons_append, e])⟩]
    · have e1 : (c == d) = false := by simp [hcd]
      rw [e1]; simp

/-! the encodings tell what they encode -/
theorem u8_inj (a b : Nat) (ha : a < 256) (hb : b < 256) (h : UInt8.ofNat a = UInt8.ofNat b) : a = b := by
  have := congrArg UInt8.toNat h
  rw [UInt8.toNat_ofNat', UInt8.toNat_ofNat'] at this
  omega
theorem beK_inj : ∀ (k m n : Nat), m < 256 ^ k → n < 256 ^ k → beK k m = beK k n → m = n := by
  intro k
  induction k with
  | zero => intro m n hm hn _; simp at hm hn; omega
  | succ k ih =>
    intro m n hm hn h
    rw [beK_snoc, beK_snoc] at h
    have hm' : m / 256 < 256 ^ k := by rw [Nat.pow_succ] at hm; omega
    have hn' : n / 256 < 256 ^ k := by rw [Nat.pow_succ] at hn; omega
    have h1 := List.append_inj h (by rw [beK_length, beK_length])
    have h2 := ih _ _ hm' hn' h1.1
    have h3 := h1.2
    simp only [List.cons.injEq, and_true] at h3
    have h4 := u8_inj _ _ (Nat.mod_lt _ (by decide)) (Nat.mod_lt _ (by decide)) h3
    omega
theorem nb_pow (m : Nat) (hm : m < 18446744073709551616) : m < 256 ^ nb m := by
  rcases Nat.eq_zero_or_pos m with h | h
  · subst h; rw [nb_zero]; decide
  · have := bitLen_pos_pow m (by omega) hm
    have h2 : (256 : Nat) ^ nb m = 2 ^ (8 * nb m) := by rw [Nat.pow_mul]
    rw [h2]
    refine Nat.lt_of_lt_of_le this.2.2 (Nat.pow_le_pow_right (by decide) ?_)
    unfold nb; omega
theorem intL_inj (a b : Int) (x y : List UInt8) (ha : IsI a) (hb : IsI b) (h : intL a ++ x = intL b ++ y) : a = b ∧ x = y := by
  unfold IsI at ha hb
  unfold intL at h
  by_cases h1 : a < 0
  · rw [if_pos h1] at h
    have n1 := nb_le (-a - 1).toNat (by omega)
    by_cases h2 : b < 0
    · rw [if_pos h2] at h
      have n2 := nb_le (-b - 1).toNat (by omega)
      simp only [List.cons_append, List.cons.injEq] at h
      have h3 := u8_inj _ _ (by omega) (by omega) h.1
      have hn : nb (-a - 1).toNat = nb (-b - 1).toNat := by omega
      have h4 := List.append_inj h.2 (by rw [List.length_map, List.length_map, beK_length, beK_length, hn])
      have h5 : beK (nb (-a - 1).toNat) (-a - 1).toNat = beK (nb (-b - 1).toNat) (-b - 1).toNat := by
        have := congrArg (List.map fun c : UInt8 => 255 - c) h4.1
        rw [List.map_map, List.map_map] at this
        have e : ((fun c : UInt8 => 255 - c) ∘ fun c : UInt8 => 255 - c) = id := by
          funext c
          simp only [Function.comp, id]
          have hc := UInt8.toNat_lt c
          have h1 : (255 - c).toNat = 255 - c.toNat := UInt8.toNat_sub_of_le _ _ (by rw [UInt8.le_iff_toNat_le]; show c.toNat ≤ 255; omega)
          apply UInt8.toNat_inj.1
          rw [UInt8.toNat_sub_of_le _ _ (by rw [UInt8.le_iff_toNat_le, h1]; show 255 - c.toNat ≤ 255; omega), h1]
          show 255 - (255 - c.toNat) = c.toNat
          omega
        rwa [e, List.map_id, List.map_id] at this
      rw [hn] at h5
      have h6 := beK_inj _ _ _ (by rw [← hn]; exact nb_pow _ (by omega)) (nb_pow _ (by omega)) h5
      exact ⟨by omega, h4.2⟩
    · rw [if_neg h2] at h
      have n2 := nb_le b.toNat (by omega)
      simp only [List.cons_append, List.cons.injEq] at h
      have h3 := u8_inj _ _ (by omega) (by omega) h.1
      omega
  · rw [if_neg h1] at h
    have n1 := nb_le a.toNat (by omega)
    by_cases h2 : b < 0
    · rw [if_pos h2] at h
      have n2 := nb_le (-b - 1).toNat (by omega)
      simp only [List.cons_append, List.cons.injEq] at h
      have h3 := u8_inj _ _ (by omega) (by omega) h.1
      omega
    · rw [if_neg h2] at h
      have n2 := nb_le b.toNat (by omega)
      simp only [List.cons_append, List.cons.injEq] at h
      have h3 := u8_inj _ _ (by omega) (by omega) h.1
      have hn : nb a.toNat = nb b.toNat := by omega
      have h4 := List.append_inj h.2 (by rw [beK_length, beK_length, hn])
      have h5 := h4.1
      rw [hn] at h5
      have h6 := beK_inj _ _ _ (by rw [← hn]; exact nb_pow _ (by omega)) (nb_pow _ (by omega)) h5
      exact ⟨by omega, h4.2⟩
theorem numsL_cons (x : Int) (l : List Int) : numsL (x :: l) = 1 :: (intL x ++ numsL l) := by simp [numsL, itemsL]
theorem numsL_nil : numsL [] = [0] := rfl
theorem numsL_inj : ∀ (a b : List Int) (x y : List UInt8), (∀ n ∈ a, IsI n) → (∀ n ∈ b, IsI n) → numsL a ++ x = numsL b ++ y → a = b ∧ x = y
  | [], [], x, y, _, _, h => by
    simp only [numsL_nil, List.cons_append, List.nil_append, List.cons.injEq, true_and] at h
    exact ⟨rfl, h⟩
  | [], m :: b, x, y, _, _, h => by
    rw [numsL_nil, numsL_cons] at h
    simp only [List.cons_append, List.nil_append, List.cons.injEq] at h
    exact absurd h.1 (by decide)
  | n :: a, [], x, y, _, _, h => by
    rw [numsL_nil, numsL_cons] at h
    simp only [List.cons_append, List.nil_append, List.cons.injEq] at h
    exact absurd h.1 (by decide)
  | n :: a, m :: b, x, y, ha, hb, h => by
    rw [numsL_cons, numsL_cons] at h
    simp only [List.cons_append, List.cons.injEq, true_and, List.append_assoc] at h
    have h1 := intL_inj n m _ _ (ha n List.mem_cons_self) (hb m List.mem_cons_self) h
    have h2 := numsL_inj a b x y (fun z hz => ha z (List.mem_cons_of_mem _ hz)) (fun z hz => hb z (List.mem_cons_of_mem _ hz)) h1.2
    exact ⟨by rw [h1.1, h2.1], h2.2⟩
theorem endsL_inj : ∀ (a b : List S54), endsL a = endsL b → a = b
  | [], [], _ => rfl
  | [], s :: b, h => by simp [endsL] at h
  | s :: a, [], h => by simp [endsL] at h
  | s :: a, t :: b, h => by
    have e : ∀ (x : S54) r, endsL (x :: r) = x.f0 :: x.f1 :: endsL r := fun _ _ => rfl
    rw [e, e] at h
    simp only [List.cons.injEq] at h
    have := endsL_inj a b h.2.2
    obtain ⟨h1, h2, _⟩ := h
    cases s; cases t
    simp at h1 h2
    subst h1 h2
    rw [this]
theorem rowsL_cons (r : List S54) (l : List (List S54)) : rowsL (r :: l) = 1 :: (numsL (endsL r) ++ rowsL l) := by simp [rowsL]
theorem rowsL_inj : ∀ (a b : List (List S54)), (∀ r ∈ a, ∀ s ∈ r, IsS s) → (∀ r ∈ b, ∀ s ∈ r, IsS s) → rowsL a ++ [0] = rowsL b ++ [0] → a = b
  | [], [], _, _, _ => rfl
  | [], r :: b, _, _, h => by
    rw [rowsL_cons] at h
    simp only [rowsL, List.flatMap_nil, List.nil_append, List.cons_append, List.cons.injEq] at h
    exact absurd h.1 (by decide)
  | r :: a, [], _, _, h => by
    rw [rowsL_cons] at h
    simp only [rowsL, List.flatMap_nil, List.nil_append, List.cons_append, List.cons.injEq] at h
    exact absurd h.1 (by decide)
  | r :: a, s :: b, ha, hb, h => by
    rw [rowsL_cons, rowsL_cons] at h
    simp only [List.cons_append, List.cons.injEq, true_and, List.append_assoc] at h
    have h1 := numsL_inj _ _ _ _ (endsL_is r (ha r List.mem_cons_self)) (endsL_is s (hb s List.mem_cons_self)) h
    have h2 := rowsL_inj a b (fun z hz => ha z (List.mem_cons_of_mem _ hz)) (fun z hz => hb z (List.mem_cons_of_mem _ hz)) h1.2
    rw [endsL_inj _ _ h1.1, h2]
theorem bytesN_inj (m n : S29) (hm : IsN m) (hn : IsN n) (h : bytesN m = bytesN n) : m = n := by
  unfold bytesN newsL at h
  simp only [List.append_assoc] at h
  obtain ⟨m1, m2, m3, m4, m5⟩ := hm
  obtain ⟨n1, n2, n3, n4, n5⟩ := hn
  have h1 := intL_inj _ _ _ _ m2 n2 h
  have h2 := intL_inj _ _ _ _ m1 n1 h1.2
  have h3 := intL_inj _ _ _ _ m3 n3 h2.2
  have h4 := intL_inj _ _ _ _ m4 n4 h3.2
  have h5 := rowsL_inj _ _ (fun r hr => (m5.2 r hr).2) (fun r hr => (n5.2 r hr).2) h4.2
  obtain ⟨a, b, ⟨c, d, e⟩⟩ := m
  obtain ⟨a', b', ⟨c', d', e'⟩⟩ := n
  simp only at h1 h2 h3 h4 h5
  rw [h1.1, h2.1, h3.1, h4.1, h5]

/-! the last news of each Id -/
theorem lastM_spec (h : Int) (l : List S29) : ∀ x, (∀ n, lastM h l x = some n → ∀ m ∈ l, adm h m = true → m.f2.f0 = x → leB (bytesN m) (bytesN n) = true) ∧ (lastM h l x = none → ∀ m ∈ l, adm h m = true → m.f2.f0 ≠ x) := by
  refine snocInd (P := fun l => ∀ x, (∀ n, lastM h l x = some n → ∀ m ∈ l, adm h m = true → m.f2.f0 = x → leB (bytesN m) (bytesN n) = true) ∧ (lastM h l x = none → ∀ m ∈ l, adm h m = true → m.f2.f0 ≠ x)) ?_ ?_ l
  · intro x; exact ⟨fun n hn => by simp [lastM] at hn, fun _ m hm => by simp at hm⟩
  · intro l a ih x
    cases ha : adm h a with
    | false =>
      rw [lastM_skip h l a ha]
      refine ⟨fun n hn m hm hma hmx => ?_, fun hn m hm hma => ?_⟩
      · rcases List.mem_append.1 hm with hm | hm
        · exact (ih x).1 n hn m hm hma hmx
        · simp at hm; subst hm; rw [ha] at hma; cases hma
      · rcases List.mem_append.1 hm with hm | hm
        · exact (ih x).2 hn m hm hma
        · simp at hm; subst hm; rw [ha] at hma; cases hma
    | true =>
      cases hM : lastM h l a.f2.f0 with
      | none =>
        rw [lastM_new h l a ha hM]
        dsimp only
        by_cases hx : x = a.f2.f0
        · rw [if_pos hx]
          refine ⟨fun n hn m hm hma hmx => ?_, fun hn => by cases hn⟩
          cases hn
          rcases List.mem_append.1 hm with hm | hm
          · exact absurd (hmx.trans hx) ((ih _).2 hM m hm hma)
          · simp at hm; subst hm; exact leB_refl _
        · rw [if_neg hx]
          refine ⟨fun n hn m hm hma hmx => ?_, fun hn m hm hma => ?_⟩
          · rcases List.mem_append.1 hm with hm | hm
            · exact (ih x).1 n hn m hm hma hmx
            · simp at hm; subst hm; exact absurd hmx.symm hx
          · rcases List.mem_append.1 hm with hm | hm
            · exact (ih x).2 hn m hm hma
            · simp at hm; subst hm; exact fun e => hx e.symm
      | some o =>
        cases hle : leB (bytesN o) (bytesN a) with
        | true =>
          rw [lastM_over h l a o ha hM hle]
          dsimp only
          by_cases hx : x = a.f2.f0
          · rw [if_pos hx]
            refine ⟨fun n hn m hm hma hmx => ?_, fun hn => by cases hn⟩
            cases hn
            rcases List.mem_append.1 hm with hm | hm
            · exact leB_trans ((ih _).1 o hM m hm hma (hmx.trans hx)) hle
            · simp at hm; subst hm; exact leB_refl _
          · rw [if_neg hx]
            refine ⟨fun n hn m hm hma hmx => ?_, fun hn m hm hma => ?_⟩
            · rcases List.mem_append.1 hm with hm | hm
              · exact (ih x).1 n hn m hm hma hmx
              · simp at hm; subst hm; exact absurd hmx.symm hx
            · rcases List.mem_append.1 hm with hm | hm
              · exact (ih x).2 hn m hm hma
              · simp at hm; subst hm; exact fun e => hx e.symm
        | false =>
          rw [lastM_keep h l a o hM hle]
          have hao : leB (bytesN a) (bytesN o) = true := by
            rcases leB_total (bytesN o) (bytesN a) with h1 | h1
            · rw [hle] at h1; cases h1
            · exact h1
          refine ⟨fun n hn m hm hma hmx => ?_, fun hn m hm hma => ?_⟩
          · rcases List.mem_append.1 hm with hm | hm
            · exact (ih x).1 n hn m hm hma hmx
            · simp at hm; subst hm
              rw [hmx, hn] at hM
              cases hM
              exact hao
          · rcases List.mem_append.1 hm with hm | hm
            · exact (ih x).2 hn m hm hma
            · simp at hm; subst hm
              intro e
              rw [e, hn] at hM; cases hM
theorem lastM_iff (h : Int) (l : List S29) (hok : ∀ n ∈ l, IsN n) (x : Int) (n : S29) : lastM h l x = some n ↔ n ∈ l ∧ adm h n = true ∧ n.f2.f0 = x ∧ ∀ m ∈ l, adm h m = true → m.f2.f0 = x → leB (bytesN m) (bytesN n) = true := by
  constructor
  · intro hn
    have h1 := lastM_from h l x n hn
    exact ⟨h1.1, h1.2.2, h1.2.1, (lastM_spec h l x).1 n hn⟩
  · rintro ⟨h1, h2, h3, h4⟩
    cases hM : lastM h l x with
    | none => exact absurd h3 ((lastM_spec h l x).2 hM n h1 h2)
    | some o =>
      have ho := lastM_from h l x o hM
      have h5 := (lastM_spec h l x).1 o hM n h1 h2 h3
      have h6 := h4 o ho.1 ho.2.2 ho.2.1
      rw [bytesN_inj n o (hok n h1) (hok o ho.1) (leB_anti h5 h6)]
theorem lastM_congr (h : Int) (l l' : List S29) (hok : ∀ n ∈ l, IsN n) (hok' : ∀ n ∈ l', IsN n) (hm : ∀ n, adm h n = true → (n ∈ l ↔ n ∈ l')) : lastM h l = lastM h l' := by
  funext x
  apply Option.ext
  intro n
  rw [lastM_iff h l hok, lastM_iff h l' hok']
  constructor
  · rintro ⟨h1, h2, h3, h4⟩
    exact ⟨(hm n h2).1 h1, h2, h3, fun m hm1 hm2 => h4 m ((hm m hm2).2 hm1) hm2⟩
  · rintro ⟨h1, h2, h3, h4⟩
    exact ⟨(hm n h2).2 h1, h2, h3, fun m hm1 hm2 => h4 m ((hm m hm2).1 hm1) hm2⟩
/-- What is admitted hangs only on which news that count are there. -/
theorem admitted_congr (h : Int) (l l' : List S29) (hok : ∀ n ∈ l, IsN n) (hok' : ∀ n ∈ l', IsN n) (hm : ∀ n, adm h n = true → (n ∈ l ↔ n ∈ l')) : admitted h l = admitted h l' := by
  have e := lastM_congr h l l' hok hok' hm
  have e2 : idsA h l = idsA h l' := asc_unique _ _ (idsA_asc h l) (idsA_asc h l') (fun x => by rw [idsA_mem, idsA_mem, e])
  unfold admitted
  rw [e, e2]
end Go.Proofs.Ytehieahpocbboaa.G
/-
  few and SameAll (as printed): what they answer.
-/
namespace Go.Proofs.Ytehieahpocbboaa.G
open Go.RowKit Go.Proofs.YtehieahpocbboaaW.PrintWords Go.Proofs.YtehieahpocbboaaW.PrintLast Go.Proofs.YtehieahpocbboaaW.PrintMore
set_option linter.unusedVariables false
set_option linter.unusedSimpArgs false

def fewR (r : List (List S54)) : Bool := decide (r.length ≤ 30) && r.all fun x => decide (x.length ≤ 70)
def fewB (l : List S29) : Bool := decide (l.length ≤ 40) && l.all fun n => fewR n.f2.f2
theorem few_l1 (l : List S29) (hl : l.length ≤ 40) (i : Nat) (hi : i < l.length) : ∀ (j m k : Nat), m + j = (rd_T29 l i).f2.f2.length → (rd_T29 l i).f2.f2.length ≤ 30 → j < k →
    bournelaw29_few.l1 k l (i : Int) (m : Int) = if ((rd_T29 l i).f2.f2.drop m).all (fun x => decide (x.length ≤ 70)) = true then bournelaw29_few.l0 (k - j - 1) l ((i + 1 : Nat) : Int) else some false := by
  intro j
  induction j with
  | zero =>
    intro m k hm h30 hk
    obtain ⟨k, rfl⟩ : ∃ n, k = n + 1 := ⟨k - 1, by omega⟩
    simp only [bournelaw29_few.l1]
    have e : wrap64 ((i : Int) + 1) = ((i + 1 : Nat) : Int) := by unfold wrap64; omega
    rw [if_pos (by omega), if_pos (by omega), if_neg (by omega), List.drop_of_length_le (by omega), e]
    simp
  | succ j ih =>
    intro m k hm h30 hk
    obtain ⟨k, rfl⟩ : ∃ n, k = n + 1 := ⟨k - 1, by omega⟩
    simp only [bournelaw29_few.l1]
    have e : wrap64 ((m : Int) + 1) = ((m + 1 : Nat) : Int) := by unfold wrap64; omega
    have hlt : m < (rd_T29 l i).f2.f2.length := by omega
    have e2 : rd_L3 (rd_T29 l i).f2.f2 (m : Int) = (rd_T29 l i).f2.f2[m] := by
      unfold rd_L3
      rw [Int.toNat_natCast, List.getD_eq_getElem?_getD, List.getElem?_eq_getElem hlt]; rfl
    rw [if_pos (by omega), if_pos (by omega), if_pos (by omega), if_pos (by omega), e2, List.drop_eq_getElem_cons hlt, List.all_cons]
    by_cases h70 : (rd_T29 l i).f2.f2[m].length ≤ 70
    · rw [if_neg (by omega), decide_eq_true h70, Bool.true_and, e, ih (m + 1) k (by omega) h30 (by omega), show k + 1 - (j + 1) - 1 = k - j - 1 by omega]
    · rw [if_pos (by omega), decide_eq_false h70]
      simp
theorem few_l0 (l : List S29) (hl : l.length ≤ 40) : ∀ (j i k : Nat), i + j = l.length → j * 40 + 40 < k → bournelaw29_few.l0 k l (i : Int) = some ((l.drop i).all fun n => fewR n.f2.f2) := by
  intro j
  induction j with
  | zero =>
    intro i k hi hk
    obtain ⟨k, rfl⟩ : ∃ n, k = n + 1 := ⟨k - 1, by omega⟩
    simp only [bournelaw29_few.l0]
    rw [if_neg (by omega), List.drop_of_length_le (by omega)]
    rfl
  | succ j ih =>
    intro i k hi hk
    obtain ⟨k, rfl⟩ : ∃ n, k = n + 1 := ⟨k - 1, by omega⟩
    simp only [bournelaw29_few.l0]
    have hlt : i < l.length := by omega
    have e2 : rd_T29 l (i : Int) = l[i] := by
      unfold rd_T29
      rw [Int.toNat_natCast, List.getD_eq_getElem?_getD, List.getElem?_eq_getElem hlt]; rfl
    rw [if_pos (by omega), if_pos (by omega), List.drop_eq_getElem_cons hlt, List.all_cons]
    by_cases h30 : (rd_T29 l (i : Int)).f2.f2.length ≤ 30
    · rw [if_neg (by omega)]
      have := few_l1 l hl i hlt (rd_T29 l (i : Int)).f2.f2.length 0 k (by omega) h30 (by omega)
      rw [List.drop_zero] at this
      have e0 : bournelaw29_few.l1 k l (i : Int) 0 = _ := this
      rw [e0, ih (i + 1) _ (by omega) (by omega), e2]
      unfold fewR
      rw [e2] at h30
      rw [decide_eq_true h30, Bool.true_and]
      cases (l[i].f2.f2.all fun x => decide (x.length ≤ 70)) <;> simp
    · rw [if_pos (by omega)]
      unfold fewR
      rw [e2] at h30
      rw [decide_eq_false h30]
      simp
theorem few_eq (l : List S29) (k : Nat) (hk : 2000 < k) : bournelaw29_few.f k l = some (fewB l) := by
  unfold bournelaw29_few.f fewB
  by_cases hl : l.length ≤ 40
  · rw [if_neg (by omega), decide_eq_true hl, Bool.true_and]
    have := few_l0 l hl l.length 0 k (by omega) (by omega)
    rw [List.drop_zero] at this
    exact this
  · rw [if_pos (by omega), decide_eq_false hl]; rfl
def WfN (n : S29) : Prop := IsI n.f0 ∧ IsI n.f1 ∧ IsI n.f2.f0 ∧ IsI n.f2.f1 ∧ ∀ r ∈ n.f2.f2, ∀ s ∈ r, IsS s
theorem fewR_rain {r : List (List S54)} (h : fewR r = true) (hw : ∀ x ∈ r, ∀ s ∈ x, IsS s) : IsRain r := by
  unfold fewR at h
  rw [Bool.and_eq_true, decide_eq_true_eq, List.all_eq_true] at h
  exact ⟨by omega, fun x hx => ⟨by have := of_decide_eq_true (h.2 x hx); omega, hw x hx⟩⟩
theorem fewB_ok {l : List S29} (h : fewB l = true) (hw : ∀ n ∈ l, WfN n) : OkN l ∧ l.length ≤ 40 := by
  unfold fewB at h
  rw [Bool.and_eq_true, decide_eq_true_eq, List.all_eq_true] at h
  refine ⟨⟨by omega, fun n hn => ?_⟩, h.1⟩
  obtain ⟨w1, w2, w3, w4, w5⟩ := hw n hn
  exact ⟨w1, w2, w3, w4, fewR_rain (h.2 n hn) w5⟩
/-- Casts that are of moderate size. -/
def IsC (c : S27) : Prop := IsI c.f0 ∧ IsI c.f1 ∧ IsRain c.f2
theorem I0 : IsI 0 := by unfold IsI; omega
theorem Same_eq (a b : S27) (ha : IsC a) (hb : IsC b) (k : Nat) (hk : 1100000 < k) : bourneref29_Same.f k a.f0 a.f1 a.f2 b.f0 b.f1 b.f2 = some (newsL 0 0 a.f0 a.f1 a.f2 == newsL 0 0 b.f0 b.f1 b.f2) := by
  unfold bourneref29_Same.f
  have h1 := ha.2.2.1
  have h2 := hb.2.2.1
  rw [rBytes_eq 0 0 _ _ _ I0 I0 ha.1 ha.2.1 ha.2.2 k (by omega), rBytes_eq 0 0 _ _ _ I0 I0 hb.1 hb.2.1 hb.2.2 k (by omega)]
  simp only [Option.bind_some]
  rw [toList_mk, toList_mk]
theorem SameAll_refl (l : List S27) (hl : l.length ≤ 1000) (hc : ∀ c ∈ l, IsC c) : ∀ (j i k : Nat), i + j = l.length → j + 1200000 < k → bourneref29_SameAll.l0 k l l (i : Int) = some true := by
  intro j
  induction j with
  | zero =>
    intro i k hi hk
    obtain ⟨k, rfl⟩ : ∃ n, k = n + 1 := ⟨k - 1, by omega⟩
    simp only [bourneref29_SameAll.l0]
    rw [if_neg (by omega)]
  | succ j ih =>
    intro i k hi hk
    obtain ⟨k, rfl⟩ : ∃ n, k = n + 1 := ⟨k - 1, by omega⟩
    have hlt : i < l.length := by omega
    have e2 : rd_T27 l (i : Int) = l[i] := by
      unfold rd_T27
      rw [Int.toNat_natCast, List.getD_eq_getElem?_getD, List.getElem?_eq_getElem hlt]; rfl
    have hI := hc l[i] (List.getElem_mem hlt)
    have e : wrap64 ((i : Int) + 1) = ((i + 1 : Nat) : Int) := by unfold wrap64; omega
    simp only [bourneref29_SameAll.l0]
    rw [if_pos (by omega), if_pos (by omega), if_pos (by omega), e2, Same_eq _ _ hI hI k (by omega)]
    simp only [Option.bind_some]
    rw [if_pos (by simp), e]
    exact ih (i + 1) k (by omega) (by omega)
theorem SameAll_same (l : List S27) (hl : l.length ≤ 1000) (hc : ∀ c ∈ l, IsC c) (k : Nat) (hk : 1300000 < k) : bourneref29_SameAll.f k l l = some true := by
  unfold bourneref29_SameAll.f
  rw [if_pos rfl]
  exact SameAll_refl l hl hc l.length 0 k (by omega) (by omega)
theorem admitted_ok (h : Int) (l : List S29) (hok : ∀ n ∈ l, IsN n) : (admitted h l).length ≤ 32 ∧ ∀ c ∈ admitted h l, IsC c := by
  constructor
  · have := castsOf_length (lastM h l) ((idsA h l).take 32)
    rw [List.length_take] at this
    unfold admitted; omega
  · intro c hc
    unfold admitted castsOf at hc
    rw [List.mem_filterMap] at hc
    obtain ⟨x, _, hx⟩ := hc
    rw [Option.map_eq_some_iff] at hx
    obtain ⟨n, hn, rfl⟩ := hx
    have := hok n (lastM_from h l x n hn).1
    exact ⟨this.2.2.1, this.2.2.2.1, this.2.2.2.2⟩
end Go.Proofs.Ytehieahpocbboaa.G
