import Derived.Sort.LotA
import Derived.Sort.Lot0
namespace Go.Proofs.Ytehieahpocbboaa.ST
open Go.Sort
variable {α : Type} [Inhabited α]

/-! What a stable sort's merge does, on arrays alone. -/
def swapR (d : Array α) (a b : Nat) : Nat → Array α
  | 0 => d
  | n + 1 => swp (swapR d a b n) (a + n) (b + n)
theorem size_swapR (d : Array α) (a b : Nat) : ∀ n, (swapR d a b n).size = d.size
  | 0 => rfl
  | n + 1 => by rw [swapR, size_swp, size_swapR d a b n]

theorem get_swp (d : Array α) {i j : Nat} (hi : i < d.size) (hj : j < d.size) (p : Nat) : (swp d i j)[p]! = if p = j then d[i]! else if p = i then d[j]! else d[p]! := by
  by_cases h2 : p = j
  · subst h2; rw [if_pos rfl, swp_right d i p hj]
  · rw [if_neg h2]
    by_cases h1 : p = i
    · subst h1; rw [if_pos rfl]
      exact swp_left d p j hi h2
    · rw [if_neg h1]; exact swp_other d i j p h1 h2

/-- Where a place's element came from, behind two ranges' exchange. -/
def swI (a b n p : Nat) : Nat := if a ≤ p ∧ p < a + n then b + (p - a) else if b ≤ p ∧ p < b + n then a + (p - b) else p
theorem get_swapR (d : Array α) (a b : Nat) : ∀ (n : Nat), a + n ≤ b → b + n ≤ d.size → ∀ p, (swapR d a b n)[p]! = d[swI a b n p]!
  | 0, _, _, p => by rw [swapR]; unfold swI; rw [if_neg (by omega), if_neg (by omega)]
  | n + 1, h1, h2, p => by
    rw [swapR, get_swp _ (by rw [size_swapR]; omega) (by rw [size_swapR]; omega)]
    rw [get_swapR d a b n (by omega) (by omega), get_swapR d a b n (by omega) (by omega), get_swapR d a b n (by omega) (by omega)]
    by_cases c1 : p = b + n
    · rw [if_pos c1]; subst c1; congr 1; unfold swI; (repeat' split) <;> omega
    · rw [if_neg c1]
      by_cases c2 : p = a + n
      · rw [if_pos c2]; subst c2; congr 1; unfold swI; (repeat' split) <;> omega
      · rw [if_neg c2]; congr 1; unfold swI; (repeat' split) <;> omega

theorem perm_swapR (d : Array α) (a b lo hi : Nat) : ∀ n, lo ≤ a → lo ≤ b → a + n ≤ hi → b + n ≤ hi → hi ≤ d.size → PermIn lo hi d (swapR d a b n)
  | 0, _, _, _, _, _ => permIn_refl d lo hi
  | n + 1, h1, h2, h3, h4, h5 => by
    rw [swapR]
    exact permIn_trans _ _ _ _ _ (perm_swapR d a b lo hi n h1 h2 (by omega) (by omega) h5)
      (swp_permIn _ _ _ _ _ (by omega) (by omega) (by omega) (by omega) (by rw [size_swapR]; exact h5))

/-- d' is d with the neighbouring ranges [a, m) and [m, b) exchanged. -/
def rotI (a m b p : Nat) : Nat := if p < a ∨ b ≤ p then p else if p < a + (b - m) then p + (m - a) else p - (b - m)
def Rot (d : Array α) (a m b : Nat) (d' : Array α) : Prop := d'.size = d.size ∧ ∀ p, d'[p]! = d[rotI a m b p]!

theorem Rot.triv (d : Array α) (a m b : Nat) (h : a = m ∨ m = b) (h1 : a ≤ m) (h2 : m ≤ b) : Rot d a m b d := by
  refine ⟨rfl, fun p => ?_⟩
  congr 1; unfold rotI; split <;> (try split) <;> omega

/-- A rotation's step: the left range is the longer one. -/
theorem Rot.stepL {dk d' : Array α} {m i j : Nat} (hji : j < i) (him : i ≤ m) (hmj : m + j ≤ dk.size) (h : Rot (swapR dk (m - i) m j) (m - (i - j)) m (m + j) d') : Rot dk (m - i) m (m + j) d' := by
  obtain ⟨h1, h2⟩ := h
  refine ⟨by rw [h1, size_swapR], fun p => ?_⟩
  rw [h2, get_swapR _ _ _ _ (by omega) hmj]
  congr 1
  unfold rotI swI
  (repeat' split) <;> omega

theorem Rot.stepR {dk d' : Array α} {m i j : Nat} (hji : i < j) (him : i ≤ m) (hmj : m + j ≤ dk.size) (h : Rot (swapR dk (m - i) (m + j - i) i) (m - i) m (m + (j - i)) d') : Rot dk (m - i) m (m + j) d' := by
  obtain ⟨h1, h2⟩ := h
  refine ⟨by rw [h1, size_swapR], fun p => ?_⟩
  rw [h2, get_swapR _ _ _ _ (by omega) (by omega)]
  congr 1
  unfold rotI swI
  (repeat' split) <;> omega

theorem Rot.stepE {dk : Array α} {m i : Nat} (him : i ≤ m) (hmj : m + i ≤ dk.size) : Rot dk (m - i) m (m + i) (swapR dk (m - i) m i) := by
  refine ⟨size_swapR _ _ _ _, fun p => ?_⟩
  rw [get_swapR _ _ _ _ (by omega) hmj]
  congr 1
  unfold rotI swI
  (repeat' split) <;> omega

/-- One element led up, an exchange at a time. -/
theorem Rot.up {d dk : Array α} {a k : Nat} (hak : a ≤ k) (hk : k + 1 < d.size) (h : Rot d a (a + 1) (k + 1) dk) : Rot d a (a + 1) (k + 2) (swp dk k (k + 1)) := by
  obtain ⟨h1, h2⟩ := h
  refine ⟨by rw [size_swp, h1], fun p => ?_⟩
  rw [get_swp dk (by omega) (by omega), h2, h2, h2]
  by_cases c1 : p = k + 1
  · rw [if_pos c1]; subst c1; congr 1; unfold rotI; (repeat' split) <;> omega
  · rw [if_neg c1]
    by_cases c2 : p = k
    · rw [if_pos c2]; subst c2; congr 1; unfold rotI; (repeat' split) <;> omega
    · rw [if_neg c2]; congr 1; unfold rotI; (repeat' split) <;> omega
theorem Rot.down {d dk : Array α} {m k : Nat} (hk0 : 0 < k) (hkm : k ≤ m) (hm : m < d.size) (h : Rot d k m (m + 1) dk) : Rot d (k - 1) m (m + 1) (swp dk k (k - 1)) := by
  obtain ⟨h1, h2⟩ := h
  refine ⟨by rw [size_swp, h1], fun p => ?_⟩
  rw [get_swp dk (by omega) (by omega), h2, h2, h2]
  by_cases c1 : p = k - 1
  · rw [if_pos c1]; subst c1; congr 1; unfold rotI; (repeat' split) <;> omega
  · rw [if_neg c1]
    by_cases c2 : p = k
    · rw [if_pos c2]; subst c2; congr 1; unfold rotI; (repeat' split) <;> omega
    · rw [if_neg c2]; congr 1; unfold rotI; (repeat' split) <;> omega

section
set_option linter.unusedSectionVars false
variable {lt : α → α → Bool}
/-- Not after: x may stand ahead of y. -/
theorem nlt_trans (hO : SWO lt) {x y z : α} (h1 : lt y x = false) (h2 : lt z y = false) : lt z x = false := hO.ntrans z y x h2 h1
theorem lt_of_nlt (hO : SWO lt) {x y z : α} (h1 : lt x y = true) (h2 : lt z y = false) : lt x z = true := by
  cases h : lt x z with
  | true => rfl
  | false => rw [hO.ntrans x z y h h2] at h1; cases h1
theorem lt_of_nlt' (hO : SWO lt) {x y z : α} (h1 : lt y x = false) (h2 : lt y z = true) : lt x z = true := by
  cases h : lt x z with
  | true => rfl
  | false => rw [hO.ntrans y x z h1 h] at h2; cases h2
theorem nlt_of_lt (hO : SWO lt) {x y : α} (h : lt x y = true) : lt y x = false := by
  cases h' : lt y x with
  | false => rfl
  | true => have := hO.trans x y x h h'; rw [hO.irrefl] at this; cases this
theorem srt_le {d : Array α} (hO : SWO lt) {a b i j : Nat} (h : SortedIn lt a b d) (h1 : a ≤ i) (h2 : i ≤ j) (h3 : j < b) : lt d[j]! d[i]! = false := by
  rcases Nat.lt_or_ge i j with hlt | hge
  · exact h i j h1 hlt h3
  · obtain rfl : i = j := by omega
    exact hO.irrefl _

/-- One element, led to its place by binary search: what lies ahead is less, what lies behind isn't. -/
theorem ins_up (hO : SWO lt) {d d' : Array α} {a b i : Nat} (hR : Rot d a (a + 1) i d') (hai : a + 1 ≤ i) (hib : i ≤ b) (hs : SortedIn lt (a + 1) b d) (h1 : ∀ x, a + 1 ≤ x → x < i → lt d[x]! d[a]! = true) (h2 : ∀ x, i ≤ x → x < b → lt d[x]! d[a]! = false) : SortedIn lt a b d' := by
  intro p q hp hpq hq
  rw [hR.2, hR.2]
  have key : ∀ x, a ≤ x → (x < i - 1 ∧ rotI a (a + 1) i x = x + 1) ∨ (x = i - 1 ∧ rotI a (a + 1) i x = a) ∨ (i ≤ x ∧ rotI a (a + 1) i x = x) := fun x hx => by
    unfold rotI; (repeat' split) <;> omega
  rcases key p hp with ⟨c, e⟩ | ⟨c, e⟩ | ⟨c, e⟩ <;> rcases key q (by omega) with ⟨c', e'⟩ | ⟨c', e'⟩ | ⟨c', e'⟩ <;> rw [e, e']
  · exact hs _ _ (by omega) (by omega) (by omega)
  · exact nlt_of_lt hO (h1 _ (by omega) (by omega))
  · exact hs _ _ (by omega) (by omega) (by omega)
  · omega
  · omega
  · exact h2 _ (by omega) (by omega)
  · omega
  · omega
  · exact hs _ _ (by omega) (by omega) (by omega)

theorem ins_down (hO : SWO lt) {d d' : Array α} {a m i : Nat} (hR : Rot d i m (m + 1) d') (hai : a ≤ i) (him : i ≤ m) (hs : SortedIn lt a m d) (h1 : ∀ x, a ≤ x → x < i → lt d[m]! d[x]! = false) (h2 : ∀ x, i ≤ x → x < m → lt d[m]! d[x]! = true) : SortedIn lt a (m + 1) d' := by
  intro p q hp hpq hq
  rw [hR.2, hR.2]
  have key : ∀ x, x < m + 1 → (x < i ∧ rotI i m (m + 1) x = x) ∨ (x = i ∧ rotI i m (m + 1) x = m) ∨ (i < x ∧ rotI i m (m + 1) x = x - 1) := fun x hx => by
    unfold rotI; (repeat' split) <;> omega
  rcases key p (by omega) with ⟨c, e⟩ | ⟨c, e⟩ | ⟨c, e⟩ <;> rcases key q hq with ⟨c', e'⟩ | ⟨c', e'⟩ | ⟨c', e'⟩ <;> rw [e, e']
  · exact hs _ _ (by omega) (by omega) (by omega)
  · exact h1 _ (by omega) (by omega)
  · exact hs _ _ (by omega) (by omega) (by omega)
  · omega
  · omega
  · exact nlt_of_lt hO (h2 _ (by omega) (by omega))
  · omega
  · omega
  · exact hs _ _ (by omega) (by omega) (by omega)

/-- Binary search: a step up and a step down. -/
theorem up_step (hO : SWO lt) {d : Array α} {y : α} {m b i h : Nat} (hs : SortedIn lt m b d) (h1 : ∀ x, m ≤ x → x < i → lt d[x]! y = true) (hmi : m ≤ i) (hih : i ≤ h) (hb : h < b) (hl : lt d[h]! y = true) : ∀ x, m ≤ x → x < h + 1 → lt d[x]! y = true := fun x hx hxh =>
  lt_of_nlt' hO (srt_le hO hs hx (by omega) hb) hl
theorem dn_step (hO : SWO lt) {d : Array α} {y : α} {m b h : Nat} (hs : SortedIn lt m b d) (hmh : m ≤ h) (hl : lt d[h]! y = false) : ∀ x, h ≤ x → x < b → lt d[x]! y = false := fun x hx hxb =>
  nlt_trans hO hl (srt_le hO hs hmh hx hxb)
theorem up_step' (hO : SWO lt) {d : Array α} {y : α} {m b h : Nat} (hs : SortedIn lt m b d) (hb : h < b) (hl : lt y d[h]! = false) : ∀ x, m ≤ x → x < h + 1 → lt y d[x]! = false := fun x hx hxh =>
  nlt_trans hO (srt_le hO hs hx (by omega) hb) hl
theorem dn_step' (hO : SWO lt) {d : Array α} {y : α} {m b h : Nat} (hs : SortedIn lt m b d) (hmh : m ≤ h) (hl : lt y d[h]! = true) : ∀ x, h ≤ x → x < b → lt y d[x]! = true := fun x hx hxb =>
  lt_of_nlt hO hl (srt_le hO hs hmh hx hxb)

/-- The symmetric search's two sides. -/
theorem sym_up (hO : SWO lt) {d : Array α} {a m b n lo hi c : Nat} (hl : SortedIn lt a m d) (hr : SortedIn lt m b d) (hlo : a ≤ lo) (hhi : hi ≤ m) (hc1 : lo ≤ c) (hc2 : c < hi) (hn1 : m + hi ≤ n) (hn2 : n ≤ b + lo) (ht : lt d[n - 1 - c]! d[c]! = false) : ∀ x, lo ≤ x → x < c + 1 → lt d[n - 1 - x]! d[x]! = false := fun x hx hxc =>
  nlt_trans hO (nlt_trans hO (srt_le hO hl (by omega) (by omega : x ≤ c) (by omega)) ht) (srt_le hO hr (by omega) (by omega) (by omega))
theorem sym_dn (hO : SWO lt) {d : Array α} {a m b n lo hi c : Nat} (hl : SortedIn lt a m d) (hr : SortedIn lt m b d) (hlo : a ≤ lo) (hhi : hi ≤ m) (hc1 : lo ≤ c) (hc2 : c < hi) (hn1 : m + hi ≤ n) (hn2 : n ≤ b + lo) (ht : lt d[n - 1 - c]! d[c]! = true) : ∀ x, c ≤ x → x < hi → lt d[n - 1 - x]! d[x]! = true := fun x hx hxc =>
  lt_of_nlt hO (lt_of_nlt' hO (srt_le hO hr (by omega) (by omega : n - 1 - x ≤ n - 1 - c) (by omega)) ht) (srt_le hO hl (by omega) hx (by omega))

/-- WHAT THE ROTATION LEAVES: both halves are two sorted runs, and nothing of the right half is less than anything of the left. -/
theorem sym_halves (hO : SWO lt) {d d' : Array α} {a m b s lo hi : Nat} (hl : SortedIn lt a m d) (hr : SortedIn lt m b d) (ham : a < m) (hmb : m < b)
    (hlohi : ((a + b) / 2 < m ∧ lo = (a + b) / 2 + m - b ∧ hi = (a + b) / 2) ∨ (m ≤ (a + b) / 2 ∧ lo = a ∧ hi = m))
    (h1 : lo ≤ s) (h2 : s ≤ hi) (ht1 : ∀ x, lo ≤ x → x < s → lt d[(a + b) / 2 + m - 1 - x]! d[x]! = false) (ht2 : ∀ x, s ≤ x → x < hi → lt d[(a + b) / 2 + m - 1 - x]! d[x]! = true)
    (hR : Rot d s m ((a + b) / 2 + m - s) d') :
    SortedIn lt a s d' ∧ SortedIn lt s ((a + b) / 2) d' ∧ SortedIn lt ((a + b) / 2) ((a + b) / 2 + m - s) d' ∧ SortedIn lt ((a + b) / 2 + m - s) b d' ∧
    ∀ p q, a ≤ p → p < (a + b) / 2 → (a + b) / 2 ≤ q → q < b → lt d'[q]! d'[p]! = false := by
  generalize hmid : (a + b) / 2 = mid at *
  have ham' : a ≤ mid ∧ mid < b ∧ 2 * mid ≤ a + b ∧ a + b ≤ 2 * mid + 1 := by omega
  have hsm : s ≤ mid ∧ s ≤ m ∧ a ≤ s ∧ mid ≤ mid + m - s ∧ mid + m - s ≤ b ∧ m ≤ mid + m - s := by omega
  have kL : ∀ x, x < mid → (x < s ∧ rotI s m (mid + m - s) x = x) ∨ (s ≤ x ∧ rotI s m (mid + m - s) x = x + (m - s)) := fun x hx => by
    unfold rotI; (repeat' split) <;> omega
  have kR : ∀ x, mid ≤ x → (x < mid + m - s ∧ rotI s m (mid + m - s) x + mid = x + s) ∨ (mid + m - s ≤ x ∧ rotI s m (mid + m - s) x = x) := fun x hx => by
    unfold rotI; (repeat' split) <;> omega
  refine ⟨fun p q hp hpq hq => ?_, fun p q hp hpq hq => ?_, fun p q hp hpq hq => ?_, fun p q hp hpq hq => ?_, fun p q hp hpm hq hqb => ?_⟩ <;> rw [hR.2, hR.2]
  · rcases kL p (by omega) with ⟨c, e⟩ | ⟨c, e⟩ <;> rcases kL q (by omega) with ⟨c', e'⟩ | ⟨c', e'⟩ <;> rw [e, e']
    · exact hl _ _ (by omega) (by omega) (by omega)
    all_goals omega
  · rcases kL p (by omega) with ⟨c, e⟩ | ⟨c, e⟩ <;> rcases kL q (by omega) with ⟨c', e'⟩ | ⟨c', e'⟩ <;> rw [e, e']
    · omega
    · omega
    · omega
    · exact hr _ _ (by omega) (by omega) (by omega)
  · rcases kR p (by omega) with ⟨c, e⟩ | ⟨c, e⟩ <;> rcases kR q (by omega) with ⟨c', e'⟩ | ⟨c', e'⟩
    · exact hl _ _ (by omega) (by omega) (by omega)
    all_goals omega
  · rcases kR p (by omega) with ⟨c, e⟩ | ⟨c, e⟩ <;> rcases kR q (by omega) with ⟨c', e'⟩ | ⟨c', e'⟩
    · omega
    · omega
    · omega
    · rw [e, e']; exact hr _ _ (by omega) (by omega) (by omega)
  · rcases kL p hpm with ⟨c, e⟩ | ⟨c, e⟩ <;> rcases kR q hq with ⟨c', e'⟩ | ⟨c', e'⟩ <;> rw [e]
    · exact hl _ _ (by omega) (by omega) (by omega)
    · rw [e']
      -- from both ends
      have hs0 : lo < s := by omega
      have t := ht1 (s - 1) (by omega) (by omega)
      rw [show mid + m - 1 - (s - 1) = mid + m - s by omega] at t
      exact nlt_trans hO (nlt_trans hO (srt_le hO hl hp (by omega : p ≤ s - 1) (by omega)) t) (srt_le hO hr (by omega) c' hqb)
    · have hs0 : s < hi := by omega
      have t := ht2 s (Nat.le_refl _) hs0
      have x1 := srt_le hO hr (by omega : m ≤ p + (m - s)) (by omega : p + (m - s) ≤ mid + m - 1 - s) (by omega)
      exact nlt_of_lt hO (lt_of_nlt hO (lt_of_nlt' hO x1 t) (srt_le hO hl (by omega) (by omega : s ≤ rotI s m (mid + m - s) q) (by omega)))
    · rw [e']; exact hr _ _ (by omega) (by omega) (by omega)

/-- .. AND WITH BOTH HALVES SORTED, THE WHOLE IS. -/
theorem join_halves {d1 d2 : Array α} {a mid b : Nat} (hO : SWO lt) (hb : b ≤ d1.size) (ham : a ≤ mid) (hmb : mid ≤ b) (hx : ∀ p q, a ≤ p → p < mid → mid ≤ q → q < b → lt d1[q]! d1[p]! = false)
    (hp1 : PermIn a mid d1 d2) (hs1 : SortedIn lt a mid d2) {d3 : Array α} (hp2 : PermIn mid b d2 d3) (hs2 : SortedIn lt mid b d3) : SortedIn lt a b d3 := by
  intro p q hp hpq hq
  rcases Nat.lt_or_ge q mid with h | h
  · rw [hp2.2.1 p (Or.inl (by omega)), hp2.2.1 q (Or.inl h)]
    exact hs1 p q hp hpq h
  · rcases Nat.lt_or_ge p mid with h' | h'
    · -- p in the left, q in the right
      rw [hp2.2.1 p (Or.inl h')]
      have step1 : ∀ q', mid ≤ q' → q' < b → ∀ p', a ≤ p' → p' < mid → lt d2[q']! d2[p']! = false := fun q' h1 h2 p' h3 h4 => by
        rw [hp1.2.1 q' (Or.inr h1)]
        exact permIn_all d1 d2 a mid (fun x => lt d1[q']! x = false) (by omega) hp1 (fun i hi hi' => hx i q' hi hi' h1 h2) p' h3 h4
      exact permIn_all d2 d3 mid b (fun x => lt x d2[p]! = false) (by rw [hp1.1]; exact hb) hp2 (fun i hi hi' => step1 i hi hi' p hp h') q h hq
    · exact hs2 p q h' hpq hq
end
end Go.Proofs.Ytehieahpocbboaa.ST
