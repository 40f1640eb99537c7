/-
  graph.links at a right graph: row v holds the ends of v's arcs, sorted, each once.
-/
import Derived.Test.YtibnodjlcaodeaaTHLinksP
import Derived.Test.YtibnodjlcaodeaaTHRight
namespace Go.Proofs.Ytibnodjlcaodeaa.G
open Go.RowKit Go.Proofs.YtibnodjlcaodeaaW.PrintWords Go.Proofs.YtibnodjlcaodeaaW.PrintLast Go.Proofs.YtibnodjlcaodeaaW.PrintMore
set_option linter.unusedVariables false
set_option linter.unusedSimpArgs false

def tgt (l : List S31) (v : Nat) : List Int := (l.filter fun a => decide (a.f0 = (v : Int))).map (·.f1)
def outs (l : List S31) (v : Nat) : List Int := Lib.compact (sortI (tgt l v))
def graph_links.f (a0 : Int) (l1 : List S31) : Option (List (List Int)) := if graph_Right.f a0 l1 = some true then some ((List.range a0.toNat).map (outs l1)) else none

theorem right_of {n : Int} {l : List S31} (h : graph_Right.f n l = some true) : 0 ≤ n ∧ n ≤ 256 ∧ l.length ≤ 4096 ∧ ∀ a ∈ l, (0 ≤ a.f0 ∧ a.f0 < n) ∧ (0 ≤ a.f1 ∧ a.f1 < n) := by
  have h := Option.some.inj h
  simp only [Bool.and_eq_true, decide_eq_true_eq, List.all_eq_true] at h
  obtain ⟨⟨⟨h1, h2⟩, h3⟩, h4⟩ := h
  refine ⟨h1, h2, h3, fun a ha => ?_⟩
  have := h4 a ha
  simp only [arcIn, nodeIn, Bool.and_eq_true, decide_eq_true_eq] at this
  exact this

theorem wrap_le {i : Int} (h0 : 0 ≤ i) (h : i < 9223372036854775807) : wrap64 (i + 1) = i + 1 := by unfold wrap64; omega

theorem tgt_len (l : List S31) (v : Nat) : (tgt l v).length ≤ l.length := by
  unfold tgt
  rw [List.length_map]
  exact List.length_filter_le _ _

theorem tgt_snoc (l : List S31) (i : Nat) (h : i < l.length) (v : Nat) : tgt (l.take (i + 1)) v = tgt (l.take i) v ++ if l[i].f0 = (v : Int) then [l[i].f1] else [] := by
  unfold tgt
  rw [List.take_succ_eq_append_getElem h, List.filter_append, List.map_append]
  congr 1
  by_cases e : l[i].f0 = (v : Int) <;> simp [e]

theorem rd_T31_get {l : List S31} {i : Nat} (h : i < l.length) : rd_T31 l (i : Int) = l[i] := by
  unfold rd_T31
  rw [Int.toNat_natCast, List.getD_eq_getElem?_getD, List.getElem?_eq_getElem h]; rfl

theorem rd_map (n : Nat) (f : Nat → List Int) (v : Int) (h0 : 0 ≤ v) (h1 : v < n) : rd_L4 ((List.range n).map f) v = f v.toNat := by
  unfold rd_L4
  rw [List.getD_eq_getElem?_getD, List.getElem?_map, List.getElem?_range (by omega)]; rfl

theorem set_map (n : Nat) (f g : Nat → List Int) (v : Nat) (x : List Int) (hx : g v = x) (hne : ∀ u, u < n → u ≠ v → g u = f u) : ((List.range n).map f).set v x = (List.range n).map g := by
  apply List.ext_getElem?
  intro j
  rw [List.getElem?_set]
  by_cases hj : j < n
  · rw [List.getElem?_map, List.getElem?_map, List.getElem?_range hj]
    by_cases e : v = j
    · subst e
      simp [hj, hx]
    · simp [e, hne j hj (Ne.symm e)]
  · have : ¬ j < (List.range n).length := by simpa using hj
    by_cases e : v = j
    · subst e
      simp [hj]
    · simp [e, hj]

theorem links_l1 (n : Nat) (hn : n ≤ 256) (l : List S31) (hl : l.length ≤ 4096) (d : Nat) : ∀ (k j : Nat), j + d = n → d < k →
    graph_linksP.l1 k ((List.range n).map fun v => if v < j then outs l v else tgt l v) (n : Int) (j : Int) = some ((List.range n).map (outs l)) := by
  induction d with
  | zero =>
    intro k j hj hk
    obtain ⟨k, rfl⟩ : ∃ m, k = m + 1 := ⟨k - 1, by omega⟩
    simp only [graph_linksP.l1]
    rw [if_neg (by omega)]
    congr 1
    apply List.map_congr_left
    intro v hv
    have := List.mem_range.1 hv
    rw [if_pos (by omega)]
  | succ d ih =>
    intro k j hj hk
    obtain ⟨k, rfl⟩ : ∃ m, k = m + 1 := ⟨k - 1, by omega⟩
    simp only [graph_linksP.l1]
    rw [if_pos (by omega), if_pos (by omega), if_pos (by simp; omega), rd_map _ _ _ (by omega) (by omega)]
    simp only [Int.toNat_natCast, Nat.lt_irrefl, if_false]
    have h1 : slices_Sort_int_int.f (tgt l j) = some () := by
      unfold slices_Sort_int_int.f
      rw [if_pos (by have := tgt_len l j; omega)]
    rw [h1]
    simp only [Option.bind_some, slices_Compact_int_int.f]
    rw [wrap_le (by omega) (by omega), set_map n _ (fun v => if v < j + 1 then outs l v else tgt l v) j _ (by simp [outs]) (fun u hu hne => ?_)]
    · exact ih k (j + 1) (by omega) (by omega)
    · by_cases h : u < j
      · rw [if_pos (by omega), if_pos h]
      · rw [if_neg (by omega), if_neg h]

theorem links_l0 (n : Nat) (hn : n ≤ 256) (l : List S31) (hl : l.length ≤ 4096) (ha : ∀ a ∈ l, 0 ≤ a.f0 ∧ a.f0 < n) (d : Nat) : ∀ (k i : Nat), i + d = l.length → d + n + 1 < k →
    graph_linksP.l0 k ((List.range n).map (tgt (l.take i))) l (l.length : Int) (i : Int) = some ((List.range n).map (outs l)) := by
  induction d with
  | zero =>
    intro k i hi hk
    obtain ⟨k, rfl⟩ : ∃ m, k = m + 1 := ⟨k - 1, by omega⟩
    simp only [graph_linksP.l0]
    rw [if_neg (by omega), List.take_of_length_le (by omega)]
    have := links_l1 n hn l hl n k 0 (by omega) (by omega)
    simp only [Nat.not_lt_zero, if_false] at this
    rw [List.length_map, List.length_range]
    exact this
  | succ d ih =>
    intro k i hi hk
    obtain ⟨k, rfl⟩ : ∃ m, k = m + 1 := ⟨k - 1, by omega⟩
    have hlt : i < l.length := by omega
    have hm := ha l[i] (List.getElem_mem hlt)
    have hle : (tgt (l.take i) l[i].f0.toNat).length < 17592186044416 := by
      have h1 := tgt_len (l.take i) l[i].f0.toNat
      have h2 : (l.take i).length ≤ l.length := by simp; omega
      omega
    simp only [graph_linksP.l0]
    rw [rd_T31_get hlt, if_pos (by omega), if_pos (by omega), if_pos (by omega), if_pos hm.1, if_pos (by simp; omega), rd_map _ _ _ hm.1 hm.2, if_pos hle, wrap_le (by omega) (by omega),
      set_map n _ (tgt (l.take (i + 1))) l[i].f0.toNat _ ?_ ?_]
    · exact ih k (i + 1) (by omega) (by omega)
    · rw [tgt_snoc l i hlt, if_pos (by omega)]
    · intro u _ hne
      rw [tgt_snoc l i hlt, if_neg (by omega), List.append_nil]

theorem links_run {n : Int} {l : List S31} (h : graph_Right.f n l = some true) : ∃ k, graph_linksP.f k n l = some ((List.range n.toNat).map (outs l)) := by
  obtain ⟨h0, h1, h2, h3⟩ := right_of h
  refine ⟨l.length + n.toNat + 2, ?_⟩
  unfold graph_linksP.f
  rw [if_pos h0, if_pos (by omega)]
  have := links_l0 n.toNat (by omega) l h2 (fun a ha => ⟨(h3 a ha).1.1, by have := (h3 a ha).1.2; omega⟩) l.length (l.length + n.toNat + 2) 0 (by omega) (by omega)
  have e : (List.range n.toNat).map (tgt (l.take 0)) = List.replicate n.toNat [] := by
    apply List.ext_getElem?
    intro j
    simp only [List.getElem?_map, List.getElem?_replicate, List.take_zero]
    by_cases hj : j < n.toNat
    · rw [List.getElem?_range hj, if_pos hj]; rfl
    · rw [List.getElem?_eq_none (by simpa using hj), if_neg hj]; rfl
  rw [e] at this
  exact this

theorem graph_links.calls (a0 : Int) (A1 : Option Addr) (c1 : Nat) (l1 : List (S31)) (r : List (List Int)) (w : World) (hr1 : Kd.C k31 w A1 l1.length l1) (hc1 : l1.length ≤ c1) (h : graph_links.f a0 l1 = some r) :
    Calls Try.prog 30 #[.int .i64 a0, .slice A1 l1.length c1] w fun e w' => ∃ v0_ : Value, e = .returned (v0_) ∧ Kd.S (Kd.slice 3 (Kd.int .i64)) 25 w' w.heap.size (fun _ => True) v0_ r ∧ Below w.heap.size w w' := by
  unfold graph_links.f at h
  split at h
  · rename_i hr
    obtain rfl := Option.some.inj h
    obtain ⟨k, hk⟩ := links_run hr
    exact graph_linksP.calls k a0 A1 c1 l1 _ w hr1 hc1 hk
  · cases h
end Go.Proofs.Ytibnodjlcaodeaa.G
