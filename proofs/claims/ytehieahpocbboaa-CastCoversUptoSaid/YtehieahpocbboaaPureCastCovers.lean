/-
  CastCovers, the plain law.
-/
import Derived.Test.YtehieahpocbboaaHSmall
import Derived.Test.YtehieahpocbboaaK32
namespace Go.Proofs.Ytehieahpocbboaa.G
open Go.RowKit Go.Proofs.YtehieahpocbboaaW.PrintWords Go.Proofs.YtehieahpocbboaaW.PrintLast Go.Proofs.YtehieahpocbboaaW.PrintMore
set_option linter.unusedVariables false
set_option linter.unusedSimpArgs false

theorem Has_eq (lo hi n : Int) : span_Has.f lo hi n = some (decide (lo ≤ n ∧ n ≤ hi)) := by
  unfold span_Has.f span_Of.f span_Within.f span_Join.f
  simp only [Option.bind_some, Option.some.injEq]
  rw [Bool.eq_iff_iff]
  simp only [Bool.and_eq_true, beq_iff_eq, decide_eq_true_eq]
  unfold mn mx
  split <;> split <;> omega
def okS (s : S54) : Bool := decide (s.f0 ≤ s.f1 ∧ 0 ≤ s.f0 ∧ s.f1 ≤ 1125899906842624)
def okRow (L : Nat) (r : List S54) : Bool := decide (r.length = L) && r.all okS
theorem okS_eq (s : S54) : span_Within.f s.f0 s.f1 0 1125899906842624 = some (decide (0 ≤ s.f0 ∧ s.f1 ≤ 1125899906842624)) := by
  unfold span_Within.f span_Join.f
  simp only [Option.bind_some, Option.some.injEq]
  rw [Bool.eq_iff_iff]
  simp only [Bool.and_eq_true, beq_iff_eq, decide_eq_true_eq]
  unfold mn mx
  split <;> split <;> omega
theorem rd54 (l : List S54) (i : Nat) (h : i < l.length) : rd_T54 l (i : Int) = l[i] := by
  unfold rd_T54
  rw [Int.toNat_natCast, List.getD_eq_getElem?_getD, List.getElem?_eq_getElem h]; rfl
theorem rdL3 (l : List (List S54)) (i : Nat) (h : i < l.length) : rd_L3 l (i : Int) = l[i] := by
  unfold rd_L3
  rw [Int.toNat_natCast, List.getD_eq_getElem?_getD, List.getElem?_eq_getElem h]; rfl
theorem Right_l1 (rain : List (List S54)) (pl : List S138) (r : List S54) (i : Nat) (hi : i < 100) (hr : r.length ≤ 100) : ∀ (j m k : Nat), m + j = r.length → j < k →
    cast_Right.l1 k rain (rain.length : Int) (i : Int) r (r.length : Int) (m : Int) (⟨#[]⟩ : ByteArray) [] 0 pl [] [] [] [] [] [] 0 =
      if (r.drop m).all okS = true then cast_Right.l0 (k - j - 1) rain (rain.length : Int) ((i + 1 : Nat) : Int) (⟨#[]⟩ : ByteArray) [] 0 pl [] [] [] [] [] [] 0 else some false := by
  intro j
  induction j with
  | zero =>
    intro m k hm hk
    obtain ⟨k, rfl⟩ : ∃ n, k = n + 1 := ⟨k - 1, by omega⟩
    simp only [cast_Right.l1]
    have e : wrap64 ((i : Int) + 1) = ((i + 1 : Nat) : Int) := by unfold wrap64; omega
    rw [if_neg (by omega), List.drop_of_length_le (by omega), e]
    simp
  | succ j ih =>
    intro m k hm hk
    obtain ⟨k, rfl⟩ : ∃ n, k = n + 1 := ⟨k - 1, by omega⟩
    simp only [cast_Right.l1]
    have hlt : m < r.length := by omega
    have e : wrap64 ((m : Int) + 1) = ((m + 1 : Nat) : Int) := by unfold wrap64; omega
    rw [if_pos (by omega), if_pos (by omega), if_pos (by omega), rd54 r m hlt]
    unfold span_Right.f
    simp only [Option.bind_some]
    rw [List.drop_eq_getElem_cons hlt, List.all_cons]
    by_cases h1 : r[m].f0 ≤ r[m].f1
    · rw [if_pos (decide_eq_true h1), okS_eq]
      simp only [Option.bind_some]
      by_cases h2 : 0 ≤ r[m].f0 ∧ r[m].f1 ≤ 1125899906842624
      · have : okS r[m] = true := decide_eq_true ⟨h1, h2.1, h2.2⟩
        rw [if_pos (decide_eq_true h2), this, Bool.true_and, e, ih (m + 1) k (by omega) (by omega), show k + 1 - (j + 1) - 1 = k - j - 1 by omega]
      · have : okS r[m] = false := decide_eq_false (fun h => h2 ⟨h.2.1, h.2.2⟩)
        rw [if_neg (by rw [decide_eq_false h2]; simp), this, Bool.false_and]
        simp
    · have : okS r[m] = false := decide_eq_false (fun h => h1 h.1)
      rw [if_neg (by rw [decide_eq_false h1]; simp), this, Bool.false_and]
      simp
theorem Right_l0 (rain : List (List S54)) (pl : List S138) (hp : pl.length ≤ 64) (hr : rain.length ≤ 24) : ∀ (j i k : Nat), i + j = rain.length → j * 70 + 100 < k →
    cast_Right.l0 k rain (rain.length : Int) (i : Int) (⟨#[]⟩ : ByteArray) [] 0 pl [] [] [] [] [] [] 0 = some ((rain.drop i).all (okRow pl.length)) := by
  intro j
  induction j with
  | zero =>
    intro i k hi hk
    obtain ⟨k, rfl⟩ : ∃ n, k = n + 1 := ⟨k - 1, by omega⟩
    simp only [cast_Right.l0]
    rw [if_neg (by omega), List.drop_of_length_le (by omega)]
    rfl
  | succ j ih =>
    intro i k hi hk
    obtain ⟨k, rfl⟩ : ∃ n, k = n + 1 := ⟨k - 1, by omega⟩
    have hlt : i < rain.length := by omega
    simp only [cast_Right.l0]
    rw [if_pos (by omega), if_pos (by omega), if_pos (by omega), rdL3 rain i hlt, List.drop_eq_getElem_cons hlt, List.all_cons]
    by_cases hl : rain[i].length = pl.length
    · rw [if_pos (by omega)]
      have := Right_l1 rain pl rain[i] i (by omega) (by omega) rain[i].length 0 k (by omega) (by omega)
      rw [List.drop_zero] at this
      have e0 : cast_Right.l1 k rain (rain.length : Int) (i : Int) rain[i] (rain[i].length : Int) 0 (⟨#[]⟩ : ByteArray) [] 0 pl [] [] [] [] [] [] 0 = _ := this
      rw [e0, ih (i + 1) _ (by omega) (by omega)]
      unfold okRow
      rw [decide_eq_true hl, Bool.true_and]
      cases (rain[i].all okS) <;> simp
    · rw [if_neg (by omega)]
      unfold okRow
      rw [decide_eq_false hl]
      simp
theorem Right_eq (pl : List S138) (id from_ : Int) (rain : List (List S54)) (hp : pl.length ≤ 64) (k : Nat) (hk : 3000 < k) :
    ∃ b, cast_Right.f k (⟨#[]⟩ : ByteArray) [] 0 pl [] [] [] [] [] [] 0 id from_ rain = some b ∧ (b = true → ∀ r ∈ rain, okRow pl.length r = true) := by
  obtain ⟨k, rfl⟩ : ∃ n, k = n + 1 := ⟨k - 1, by omega⟩
  unfold cast_Right.f
  simp only [cast_Right.j0, if_true]
  by_cases h1 : id < 0
  · rw [if_pos h1]; exact ⟨false, rfl, fun h => by cases h⟩
  rw [if_neg h1]
  by_cases h2 : id > 1073741824
  · rw [if_pos h2]; exact ⟨false, rfl, fun h => by cases h⟩
  rw [if_neg h2]
  by_cases h3 : from_ < 0
  · rw [if_pos h3]; exact ⟨false, rfl, fun h => by cases h⟩
  rw [if_neg h3]
  by_cases h4 : from_ > 16777216
  · rw [if_pos h4]; exact ⟨false, rfl, fun h => by cases h⟩
  rw [if_neg h4]
  by_cases h5 : (rain.length : Int) > 24
  · rw [if_pos (decide_eq_true h5)]; exact ⟨false, rfl, fun h => by cases h⟩
  rw [if_neg (by rw [decide_eq_false h5]; simp)]
  have := Right_l0 rain pl hp (by omega) rain.length 0 k (by omega) (by omega)
  rw [List.drop_zero] at this
  refine ⟨_, this, fun h => ?_⟩
  exact List.all_eq_true.1 h

/-! Covers -/
def hasB (sp : List S54) (fall : List Int) (i : Nat) : Bool := decide ((rd_T54 sp i).f0 ≤ (if (i : Int) < (fall.length : Int) then rd fall i else 0) ∧ (if (i : Int) < (fall.length : Int) then rd fall i else 0) ≤ (rd_T54 sp i).f1)
def covB (sp : List S54) (fall : List Int) (i : Nat) : Nat → Bool
  | 0 => true
  | j + 1 => hasB sp fall i && covB sp fall (i + 1) j
theorem Covers_l0 (sp : List S54) (fall : List Int) (hs : sp.length ≤ 1000) : ∀ (j i k : Nat), i + j = sp.length → j < k → cast_Covers.l0 k fall sp (sp.length : Int) (i : Int) = some (covB sp fall i j) := by
  intro j
  induction j with
  | zero =>
    intro i k hi hk
    obtain ⟨k, rfl⟩ : ∃ n, k = n + 1 := ⟨k - 1, by omega⟩
    simp only [cast_Covers.l0]
    rw [if_neg (by omega)]; rfl
  | succ j ih =>
    intro i k hi hk
    obtain ⟨k, rfl⟩ : ∃ n, k = n + 1 := ⟨k - 1, by omega⟩
    have e : wrap64 ((i : Int) + 1) = ((i + 1 : Nat) : Int) := by unfold wrap64; omega
    have ih' := ih (i + 1) k (by omega) (by omega)
    simp only [cast_Covers.l0]
    rw [if_pos (by omega), if_pos (by omega), if_pos (by omega), e, ih', Has_eq, Has_eq]
    simp only [Option.bind_some]
    show _ = some (hasB sp fall i && covB sp fall (i + 1) j)
    unfold hasB
    by_cases hf : (i : Int) < (fall.length : Int)
    · rw [if_pos hf, if_pos hf]
      cases decide ((rd_T54 sp i).f0 ≤ rd fall i ∧ rd fall i ≤ (rd_T54 sp i).f1) <;> simp
    · rw [if_neg hf, if_neg hf]
      cases decide ((rd_T54 sp i).f0 ≤ 0 ∧ 0 ≤ (rd_T54 sp i).f1) <;> simp
theorem Covers_eq (id from_ : Int) (rain : List (List S54)) (hour : Int) (fall : List Int) (hf : IsI from_) (hh : IsI hour) (hl : fall.length ≤ 64) (k : Nat) (hk : 100 < k) :
    cast_Covers.f k id from_ rain hour fall = some (covB (padS 64 (rowAt from_ hour rain)) fall 0 64) := by
  unfold cast_Covers.f cast_At.f
  rw [if_neg (by omega), if_pos ⟨hf, hh⟩, if_neg (by omega)]
  simp only [Option.bind_some]
  have hlen : (padS (64 : Int).toNat (rowAt from_ hour rain)).length = 64 := padS_length _ _
  have := Covers_l0 (padS (64 : Int).toNat (rowAt from_ hour rain)) fall (by omega) 64 0 k (by omega) (by omega)
  exact this
theorem covB_true (sp : List S54) (fall : List Int) : ∀ (j i : Nat), (∀ m, i ≤ m → m < i + j → hasB sp fall m = true) → covB sp fall i j = true
  | 0, i, _ => rfl
  | j + 1, i, h => by
    unfold covB
    rw [h i (Nat.le_refl _) (by omega), covB_true sp fall j (i + 1) (fun m h1 h2 => h m (by omega) (by omega))]
    rfl
theorem covB_false (sp : List S54) (fall : List Int) : ∀ (j i m : Nat), i ≤ m → m < i + j → hasB sp fall m = false → covB sp fall i j = false
  | 0, i, m, h1, h2, _ => by omega
  | j + 1, i, m, h1, h2, h => by
    unfold covB
    rcases Nat.lt_or_ge i m with hlt | hge
    · rw [covB_false sp fall j (i + 1) m (by omega) (by omega) h, Bool.and_false]
    · obtain rfl : i = m := by omega
      rw [h, Bool.false_and]
theorem padS_get (n : Nat) (r : List S54) (i : Nat) (hi : i < n) : rd_T54 (padS n r) (i : Int) = if h : i < r.length then r[i] else z54 := by
  rw [rd54 _ i (by rw [padS_length]; exact hi)]
  unfold padS
  by_cases h : i < r.length
  · rw [dif_pos h, List.getElem_append_left (by rw [List.length_take]; omega), List.getElem_take]
  · rw [dif_neg h, List.getElem_append_right (by rw [List.length_take]; omega), List.getElem_replicate]
theorem padS_more (L n : Nat) (r : List S54) (hr : r.length = L ∨ r = []) (i : Nat) (hi : i < n) (hL : L ≤ n) : rd_T54 (padS n r) (i : Int) = if i < L then rd_T54 (padS L r) (i : Int) else z54 := by
  rw [padS_get n r i hi]
  by_cases h : i < L
  · rw [if_pos h, padS_get L r i h]
  · rw [if_neg h]
    rcases hr with hr | hr
    · rw [dif_neg (by omega)]
    · subst hr; simp
theorem padS_ok (L : Nat) (r : List S54) (hr : ∀ s ∈ r, okS s = true) : ∀ s ∈ padS L r, okS s = true := by
  intro s hs
  unfold padS at hs
  rcases List.mem_append.1 hs with hs | hs
  · exact hr s (List.mem_of_mem_take hs)
  · rw [List.mem_replicate] at hs
    rw [hs.2]; decide

/-! the sum and the loop -/
def clampI (n lo hi : Int) : Int := if n < lo then lo else if n > hi then hi else n
theorem Clamp_eq (n lo hi : Int) : exact_Clamp.f n lo hi = some (clampI n lo hi) := by
  unfold exact_Clamp.f clampI
  split
  · rfl
  · split <;> rfl
def inL (sp : List S54) (fall : List Int) (n : Nat) : List Int := (List.range n).map fun i : Nat => clampI (rd fall (i : Int)) (rd_T54 sp (i : Int)).f0 (rd_T54 sp (i : Int)).f1
theorem inL_length (sp : List S54) (fall : List Int) (n : Nat) : (inL sp fall n).length = n := by simp [inL]
theorem inL_snoc (sp : List S54) (fall : List Int) (n : Nat) : inL sp fall (n + 1) = inL sp fall n ++ [clampI (rd fall n) (rd_T54 sp n).f0 (rd_T54 sp n).f1] := by simp [inL, List.range_succ]
theorem inL_rd (sp : List S54) (fall : List Int) (n i : Nat) (h : i < n) : rd (inL sp fall n) i = clampI (rd fall i) (rd_T54 sp i).f0 (rd_T54 sp i).f1 := by
  unfold rd inL
  rw [Int.toNat_natCast, List.getD_eq_getElem?_getD, List.getElem?_map, List.getElem?_range h]; rfl
theorem clamp_in (n lo hi : Int) (h : lo ≤ hi) : lo ≤ clampI n lo hi ∧ clampI n lo hi ≤ hi := by
  unfold clampI
  split
  · omega
  · split <;> omega
theorem Add_eq (a b : Int) (ha : 0 ≤ a) (hb : 0 ≤ b) (h : a + b ≤ 9223372036854775807) : exact_Add.f a b = some (a + b) := by
  unfold exact_Add.f
  have e : wrap64 (a + b) = a + b := by unfold wrap64; omega
  rw [e, decide_eq_false (show ¬ a < 0 by omega), decide_eq_false (show ¬ b < 0 by omega), decide_eq_false (show ¬ a + b < 0 by omega)]
  simp
def sumLo (sp : List S54) : Nat → Int | 0 => 0 | n + 1 => sumLo sp n + (rd_T54 sp n).f0
def sumHi (sp : List S54) : Nat → Int | 0 => 0 | n + 1 => sumHi sp n + (rd_T54 sp n).f1
def sumIn (sp : List S54) (fall : List Int) : Nat → Int | 0 => 0 | n + 1 => sumIn sp fall n + clampI (rd fall n) (rd_T54 sp n).f0 (rd_T54 sp n).f1
theorem sums (sp : List S54) (fall : List Int) (hok : ∀ i : Nat, i < sp.length → okS (rd_T54 sp i) = true) : ∀ n, n ≤ sp.length → 0 ≤ sumLo sp n ∧ sumLo sp n ≤ sumIn sp fall n ∧ sumIn sp fall n ≤ sumHi sp n ∧ sumHi sp n ≤ n * 1125899906842624
  | 0, _ => by simp [sumLo, sumHi, sumIn]
  | n + 1, h => by
    have ih := sums sp fall hok n (by omega)
    have ho := of_decide_eq_true (hok n (by omega))
    have hc := clamp_in (rd fall n) (rd_T54 sp n).f0 (rd_T54 sp n).f1 ho.1
    simp only [sumLo, sumHi, sumIn]
    omega
theorem Sum_l0 (sp : List S54) (fall : List Int) (hl : sp.length ≤ 64) (hok : ∀ i : Nat, i < sp.length → okS (rd_T54 sp i) = true) : ∀ (j i k : Nat), i + j = sp.length → j < k → rain_Sum.l0 k sp (sp.length : Int) (i : Int) (sumLo sp i) (sumHi sp i) = some (sumLo sp sp.length, sumHi sp sp.length) := by
  intro j
  induction j with
  | zero =>
    intro i k hi hk
    obtain ⟨k, rfl⟩ : ∃ n, k = n + 1 := ⟨k - 1, by omega⟩
    simp only [rain_Sum.l0]
    rw [if_neg (by omega), show i = sp.length by omega]
  | succ j ih =>
    intro i k hi hk
    obtain ⟨k, rfl⟩ : ∃ n, k = n + 1 := ⟨k - 1, by omega⟩
    have e : wrap64 ((i : Int) + 1) = ((i + 1 : Nat) : Int) := by unfold wrap64; omega
    have hs := sums sp fall hok i (by omega)
    have hs2 := sums sp fall hok (i + 1) (by omega)
    have ho := of_decide_eq_true (hok i (by omega))
    simp only [sumLo, sumHi] at hs2
    simp only [rain_Sum.l0]
    rw [if_pos (by omega), if_pos (by omega), if_pos (by omega)]
    unfold span_Add.f
    rw [Add_eq _ _ hs.1 ho.2.1 (by omega), Add_eq _ _ (by omega) (by omega) (by omega)]
    simp only [Option.bind_some]
    rw [e]
    exact ih (i + 1) k (by omega) (by omega)
theorem Sum_eq (sp : List S54) (fall : List Int) (hl : sp.length ≤ 64) (hok : ∀ i : Nat, i < sp.length → okS (rd_T54 sp i) = true) (k : Nat) (hk : 100 < k) : rain_Sum.f k sp = some (sumLo sp sp.length, sumHi sp sp.length) :=
  Sum_l0 sp fall hl hok sp.length 0 k (by omega) (by omega)
theorem rd_set_same (l : List Int) (i : Nat) (v : Int) (h : i < l.length) : rd (l.set i v) (i : Int) = v := by
  unfold rd
  rw [Int.toNat_natCast, List.getD_eq_getElem?_getD, List.getElem?_set_self h]; rfl
set_option maxRecDepth 10000 in
theorem CC_l0 (id from_ hour : Int) (rain : List (List S54)) (fall : List Int) (i3 : Nat) (hfr : IsI from_) (hh : IsI hour) (h1 : 1 ≤ fall.length) (h64 : fall.length ≤ 64) (h3 : i3 < fall.length)
    (hrow : ∀ r ∈ rain, okRow fall.length r = true) : ∀ (j i k : Nat), i + j = fall.length → j + 200 < k →
    bournelaw29_CastCovers.l0 k hour fall (i3 : Int) true (padS fall.length (rowAt from_ hour rain)) (inL (padS fall.length (rowAt from_ hour rain)) fall i) (sumIn (padS fall.length (rowAt from_ hour rain)) fall i) (i : Int) id from_ rain = some true := by
  have hra : ((rowAt from_ hour rain).length = fall.length ∨ rowAt from_ hour rain = []) ∧ ∀ s ∈ rowAt from_ hour rain, okS s = true := by
    unfold rowAt
    split
    · rename_i hc
      obtain ⟨m, hm⟩ : ∃ m : Nat, hour - from_ = m := ⟨(hour - from_).toNat, by omega⟩
      rw [hm, rdL3 rain m (by omega)]
      have := hrow _ (List.getElem_mem (show m < rain.length by omega))
      unfold okRow at this
      rw [Bool.and_eq_true, decide_eq_true_eq, List.all_eq_true] at this
      exact ⟨.inl this.1, this.2⟩
    · exact ⟨.inr rfl, fun s hs => by simp at hs⟩
  obtain ⟨hra1, hra2⟩ := hra
  obtain ⟨sp, hsp⟩ : ∃ sp, sp = padS fall.length (rowAt from_ hour rain) := ⟨_, rfl⟩
  have hspl : sp.length = fall.length := by rw [hsp, padS_length]
  have hok : ∀ i : Nat, i < sp.length → okS (rd_T54 sp i) = true := fun i hi => by
    rw [rd54 sp i hi]
    exact padS_ok _ _ hra2 _ (by rw [← hsp]; exact List.getElem_mem hi)
  have h64row : ∀ m : Nat, m < 64 → rd_T54 (padS 64 (rowAt from_ hour rain)) (m : Int) = if m < fall.length then rd_T54 sp (m : Int) else z54 := fun m hm => by
    rw [hsp]; exact padS_more fall.length 64 _ hra1 m hm h64
  rw [← hsp]
  intro j
  induction j with
  | zero =>
    intro i k hi hk
    obtain ⟨k, rfl⟩ : ∃ n, k = n + 1 := ⟨k - 1, by omega⟩
    obtain rfl : i = fall.length := by omega
    simp only [bournelaw29_CastCovers.l0]
    have hs := sums sp fall hok fall.length (by omega)
    rw [if_neg (by omega), Covers_eq id from_ rain hour _ hfr hh (by rw [inL_length]; exact h64) k (by omega)]
    have hcov : covB (padS 64 (rowAt from_ hour rain)) (inL sp fall fall.length) 0 64 = true := by
      refine covB_true _ _ _ _ (fun m _ hm => ?_)
      unfold hasB
      rw [h64row m (by omega), inL_length]
      by_cases hml : m < fall.length
      · rw [if_pos hml, if_pos (by omega), inL_rd sp fall _ m hml]
        have ho := of_decide_eq_true (hok m (by omega))
        exact decide_eq_true (clamp_in _ _ _ ho.1)
      · rw [if_neg hml, if_neg (by omega)]
        decide
    rw [hcov]
    simp only [Option.bind_some, if_true]
    rw [Sum_eq sp fall (by omega) hok k (by omega)]
    simp only [Option.bind_some]
    rw [Has_eq, hspl, decide_eq_true (show sumLo sp fall.length ≤ sumIn sp fall fall.length ∧ sumIn sp fall fall.length ≤ sumHi sp fall.length from ⟨hs.2.1, hs.2.2.1⟩)]
    simp only [Option.bind_some, if_true]
    rw [if_pos (by omega), if_pos (by omega), if_pos (by rw [inL_length]; omega), Int.toNat_natCast, Covers_eq id from_ rain hour _ hfr hh (by rw [List.length_set, inL_length]; exact h64) k (by omega)]
    have ho := of_decide_eq_true (hok i3 (by omega))
    have hw : wrap64 ((rd_T54 sp (i3 : Int)).f1 + 1) = (rd_T54 sp (i3 : Int)).f1 + 1 := by unfold wrap64; omega
    have hcov2 : covB (padS 64 (rowAt from_ hour rain)) ((inL sp fall fall.length).set i3 (wrap64 ((rd_T54 sp (i3 : Int)).f1 + 1))) 0 64 = false := by
      refine covB_false _ _ _ _ i3 (by omega) (by omega) ?_
      unfold hasB
      rw [h64row i3 (by omega), if_pos h3, List.length_set, inL_length, if_pos (by omega), rd_set_same _ _ _ (by rw [inL_length]; exact h3), hw]
      exact decide_eq_false (fun h => by omega)
    rw [hcov2]
    rfl
  | succ j ih =>
    intro i k hi hk
    obtain ⟨k, rfl⟩ : ∃ n, k = n + 1 := ⟨k - 1, by omega⟩
    have e : wrap64 ((i : Int) + 1) = ((i + 1 : Nat) : Int) := by unfold wrap64; omega
    have hs := sums sp fall hok (i + 1) (by omega)
    simp only [bournelaw29_CastCovers.l0]
    rw [if_pos (by omega), if_pos (by omega), if_pos (by omega), Clamp_eq]
    simp only [Option.bind_some]
    rw [if_pos (by rw [inL_length]; omega), ← inL_snoc, if_pos (by rw [inL_length]; omega), inL_rd sp fall _ i (by omega), e]
    have hw : wrap64 (sumIn sp fall i + clampI (rd fall i) (rd_T54 sp i).f0 (rd_T54 sp i).f1) = sumIn sp fall (i + 1) := by
      show _ = sumIn sp fall i + clampI (rd fall i) (rd_T54 sp i).f0 (rd_T54 sp i).f1
      simp only [sumIn] at hs
      unfold wrap64; omega
    rw [hw]
    exact ih (i + 1) k (by omega) (by omega)
end Go.Proofs.Ytehieahpocbboaa.G
namespace Go.Proofs.Ytehieahpocbboaa.Pure
open Go.Proofs.Ytehieahpocbboaa.G Go.RowKit Go.Proofs.YtehieahpocbboaaW.PrintWords Go.Proofs.YtehieahpocbboaaW.PrintLast Go.Proofs.YtehieahpocbboaaW.PrintMore
set_option maxRecDepth 10000 in
theorem CastCovers (id from_ : Int) (rain : List (List S54)) (hour : Int) (fall : List Int) (i : Int) (hfr : IsI from_) (hh : IsI hour) (hl : fall.length ≤ 1048576) : ∃ k, bournelaw29_CastCovers.f k id from_ rain hour fall i = some true := by
  refine ⟨5000, ?_⟩
  obtain ⟨k, hk, hk2⟩ : ∃ k, 5000 = k + 1 ∧ 4000 < k := ⟨4999, rfl, by omega⟩
  rw [hk]
  clear hk
  unfold bournelaw29_CastCovers.f bournelaw29_small.f
  simp only [Option.bind_some]
  rw [if_pos (by omega), Int.toNat_natCast, if_pos (by omega)]
  have hj : ∀ (x1 : Int) (x2 : List Int) (x3 : Int), bournelaw29_CastCovers.j0 (k + 1) x1 x2 x3 true true id from_ rain = some true := fun _ _ _ => by simp only [bournelaw29_CastCovers.j0, if_true]
  by_cases h1 : (fall.length : Int) < 1
  · rw [if_pos h1, hj]
  rw [if_neg h1]
  by_cases h64 : (fall.length : Int) > 64
  · rw [if_pos h64, hj]
  rw [if_neg h64]
  obtain ⟨b, hb, hrow⟩ := Right_eq (List.replicate fall.length z138) id from_ rain (by rw [List.length_replicate]; omega) (k + 1) (by omega)
  rw [hb]
  simp only [Option.bind_some]
  cases b with
  | false => rw [if_neg (by simp), hj]
  | true =>
    rw [if_pos rfl]
    by_cases h3 : i < 0
    · rw [if_pos h3, hj]
    rw [if_neg h3]
    by_cases h4 : i ≥ (fall.length : Int)
    · rw [decide_eq_true h4, hj]
    rw [decide_eq_false h4]
    obtain ⟨m, rfl⟩ : ∃ m : Nat, i = m := ⟨i.toNat, by omega⟩
    simp only [bournelaw29_CastCovers.j0]
    unfold cast_At.f
    rw [if_neg (by simp), if_pos ⟨hfr, hh⟩, if_neg (by omega), Int.toNat_natCast]
    simp only [Option.bind_some]
    rw [if_pos (by rw [padS_length])]
    have hr := hrow rfl
    rw [List.length_replicate] at hr
    exact CC_l0 id from_ hour rain fall m hfr hh (by omega) (by omega) (by omega) hr fall.length 0 k (by omega) (by omega)
end Go.Proofs.Ytehieahpocbboaa.Pure
