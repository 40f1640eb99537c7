import Derived.Test.YtehieahpocbboaaEP
/-
  bournelaw29.CastLast: the plain law.
-/
namespace Go.Proofs.Ytehieahpocbboaa.G
set_option linter.unusedVariables false

/-- The number of the last of the first k that p takes; -1 if there is none. -/
def lastIx (p : S29 → Bool) (r : List S29) : Nat → Int
  | 0 => -1
  | k + 1 => if p (rd_T29 r k) = true then (k : Int) else lastIx p r k
theorem lastIx_lt (p : S29 → Bool) (r : List S29) : ∀ k, -1 ≤ lastIx p r k ∧ lastIx p r k < k
  | 0 => by simp [lastIx]
  | k + 1 => by
    have := lastIx_lt p r k
    unfold lastIx
    split <;> omega
theorem lastIx_spec (p : S29 → Bool) (r : List S29) : ∀ k (i : Nat), i < k → p (rd_T29 r i) = true → ∃ j : Nat, lastIx p r k = (j : Int) ∧ i ≤ j ∧ j < k ∧ p (rd_T29 r j) = true
  | 0, i, h, _ => by omega
  | k + 1, i, h, hp => by
    by_cases hk : p (rd_T29 r k) = true
    · exact ⟨k, by unfold lastIx; rw [if_pos hk], by omega, by omega, hk⟩
    · rcases Nat.lt_or_ge i k with h1 | h1
      · obtain ⟨j, e, h2, h3, h4⟩ := lastIx_spec p r k i h1 hp
        exact ⟨j, by unfold lastIx; rw [if_neg hk]; exact e, h2, by omega, h4⟩
      · obtain rfl : i = k := by omega
        exact absurd hp hk
theorem rd29_get (r : List S29) (k : Nat) (h : k < r.length) : rd_T29 r (k : Int) = r[k] := by
  unfold rd_T29
  rw [Int.toNat_natCast, List.getD_eq_getElem?_getD, List.getElem?_eq_getElem h]
  rfl
theorem rd27_get (r : List S27) (k : Nat) (h : k < r.length) : rd_T27 r (k : Int) = r[k] := by
  unfold rd_T27
  rw [Int.toNat_natCast, List.getD_eq_getElem?_getD, List.getElem?_eq_getElem h]
  rfl

/-- What CastLast asks of a news: it is about this forecast, known, and of a kind that counts. -/
def takesL (h id : Int) (n : S29) : Bool := decide (n.f2.f0 = id) && adm h n
theorem castsOf_from (M : Int → Option S29) (ids : List Int) (x : S27) (hx : x ∈ castsOf M ids) : ∃ id ∈ ids, ∃ n, M id = some n ∧ n.f2 = x := by
  unfold castsOf at hx
  rw [List.mem_filterMap] at hx
  obtain ⟨id, h1, h2⟩ := hx
  cases hM : M id with
  | none => rw [hM] at h2; simp at h2
  | some n => rw [hM] at h2; simp at h2; exact ⟨id, h1, n, hM, h2⟩

theorem last_ok (h : Int) (l r : List S29) (hok : ∀ n ∈ l, IsN n) (hp : r.Perm l) (hs : r.Pairwise (fun a b => leB (bytesN a) (bytesN b) = true)) (x : S27) (hx : x ∈ admitted h l) :
    ∃ j : Nat, j < r.length ∧ lastIx (takesL h x.f0) r r.length = (j : Int) ∧ (rd_T29 r j).f0 ≠ 2 ∧ (rd_T29 r j).f2 = x := by
  obtain ⟨id, hid, n, hM, hnx⟩ := castsOf_from _ _ x hx
  have hid' := List.mem_of_mem_take hid
  obtain ⟨n', hM', hn2⟩ := (idsA_mem h l id).1 hid'
  rw [hM] at hM'
  cases hM'
  obtain ⟨h1, h2, h3, h4⟩ := (lastM_iff h l hok id n).1 hM
  have hxid : x.f0 = id := by rw [← hnx]; exact h3
  have hnr : n ∈ r := hp.mem_iff.2 h1
  obtain ⟨i, hi, hin⟩ := List.getElem_of_mem hnr
  have hpi : takesL h x.f0 (rd_T29 r (i : Int)) = true := by
    rw [rd29_get r i hi, hin]
    unfold takesL
    rw [h2, hxid, decide_eq_true h3]; rfl
  obtain ⟨j, e, hij, hj, hpj⟩ := lastIx_spec (takesL h x.f0) r r.length i hi hpi
  refine ⟨j, hj, e, ?_⟩
  rw [rd29_get r j hj] at hpj ⊢
  have hm : r[j] ∈ l := hp.mem_iff.1 (List.getElem_mem hj)
  unfold takesL at hpj
  rw [Bool.and_eq_true, decide_eq_true_eq] at hpj
  have h5 := h4 r[j] hm hpj.2 (by rw [hpj.1, hxid])
  have h6 : leB (bytesN n) (bytesN r[j]) = true := by
    rcases Nat.lt_or_ge i j with h7 | h7
    · have := List.pairwise_iff_getElem.1 hs i j hi hj h7
      rwa [hin] at this
    · obtain rfl : i = j := by omega
      rw [hin]; exact leB_refl _
  have h8 : r[j] = n := bytesN_inj _ _ (hok _ hm) (hok _ h1) (leB_anti h5 h6)
  rw [h8]
  exact ⟨hn2, hnx⟩

theorem castsOf_ids (M : Int → Option S29) (hM : ∀ x n, M x = some n → n.f2.f0 = x) : ∀ ids : List Int, (∀ x ∈ ids, (M x).isSome = true) → (castsOf M ids).map (·.f0) = ids
  | [], _ => rfl
  | x :: ids, h => by
    have h1 := h x (List.mem_cons_self ..)
    cases hx : M x with
    | none => rw [hx] at h1; cases h1
    | some n =>
      have := castsOf_ids M hM ids (fun y hy => h y (List.mem_cons_of_mem _ hy))
      unfold castsOf at this ⊢
      rw [List.filterMap_cons, hx]
      simp only [Option.map_some, List.map_cons]
      rw [this, hM x n hx]
theorem admitted_asc (h : Int) (l : List S29) : ((admitted h l).map (·.f0)).Pairwise (· < ·) := by
  unfold admitted
  rw [castsOf_ids _ (fun x n hn => (lastM_from h l x n hn).2.1) _ (fun x hx => by
    obtain ⟨n, hn, _⟩ := (idsA_mem h l x).1 (List.mem_of_mem_take hx)
    rw [hn]; rfl)]
  exact (idsA_asc h l).sublist (List.take_sublist _ _)
theorem admitted_lt (h : Int) (l : List S29) (j : Nat) (hj : j + 1 < (admitted h l).length) : (rd_T27 (admitted h l) (j : Int)).f0 < (rd_T27 (admitted h l) ((j + 1 : Nat) : Int)).f0 := by
  rw [rd27_get _ j (by omega), rd27_get _ (j + 1) hj]
  have := List.pairwise_iff_getElem.1 (admitted_asc h l) j (j + 1) (by rw [List.length_map]; omega) (by rw [List.length_map]; omega) (by omega)
  rwa [List.getElem_map, List.getElem_map] at this
end Go.Proofs.Ytehieahpocbboaa.G
