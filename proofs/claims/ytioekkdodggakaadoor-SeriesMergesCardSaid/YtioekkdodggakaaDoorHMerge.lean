import Derived.Shelf.SlSortCmp.WholeK
import Derived.Shelf.SlSortCmp.NoneTotal
import Derived.Test.YtioekkdodggakaaDoorShelf
import Derived.Test.YtioekkdodggakaaDoorHPlain
import Derived.Test.YtioekkdodggakaaDoorHConcat
import Derived.Test.YtioekkdodggakaaDoorHCompact
/-
  slices.SortFunc at rows of flat elements; series.Merge.
-/
namespace Go.Proofs.YtioekkdodggakaaDoor.G
open Go.RowKit Go.Proofs.YtioekkdodggakaaDoorW.PrintWords Go.Proofs.YtioekkdodggakaaDoorW.PrintLast Go.Proofs.YtioekkdodggakaaDoorW.PrintMore
set_option linter.unusedVariables false
set_option linter.unusedSimpArgs false
theorem grown_same (w : World) (r : Option Nat) : w.grownBy w r := ⟨rfl, rfl, rfl, Nat.le_refl _, fun _ _ _ => rfl⟩
theorem sort_row {α : Type} [Inhabited α] {ρ : Go.Shelf.Ren} (L : SlLaysF0.n6 Tryd.prog ρ) (k : Nat) (aE : ∀ w, (isAgg (ρ.t 24)).run Tryd.prog w = .ok true w) (zE : ∀ w, (Go.sizeOf (ρ.t 24)).run Tryd.prog w = .ok k w) (enc : α → List Value) (hk : ∀ x, (enc x).length = k) (h1 : ∀ x, ∀ v ∈ enc x, v.oneCell' = true) (cf : α → α → Int) (hO : Go.Sort.SWO (ltOf cf)) (f e : Nat)
    (eg : ∀ args w, (callFunc f args).run Tryd.prog w = .ok (.enter f args) w) (hcmp : ∀ g n W, CmpLays Tryd.prog f #[] enc k cf g 0 n W)
    (W : World) (base : Nat) (v : Value) (l : List α) (ho : Row enc e k W base v l) (hl : l.length < 4611686018427387904) :
    Calls Tryd.prog (ρ.f 6) #[v, .func (.func f) #[] #[]] W fun e' w' => e' = .returned (.tuple #[]) ∧ ∃ r : List α, r.Perm l ∧ r.Pairwise (fun a b => ¬ cf b a < 0) ∧ Row enc e k w' base v r ∧ W.grownBy w' v.ownBlock := by
  rcases ho.2 with ⟨rfl, h0⟩ | ⟨g, cap, cur, rfl, hg, hb, hncap, hcapm, hcs, ht⟩
  · obtain rfl : l = [] := List.eq_nil_of_length_eq_zero h0
    refine (AnyF.slices_SortFunc_none L none 0 _ W).mono ?_
    rintro e' w' ⟨rfl, rfl⟩
    exact ⟨rfl, [], List.Perm.refl _, List.Pairwise.nil, ho, grown_same _ _⟩
  · have hsz : l.toArray.size = l.length := by simp
    have hH : Go.Sort.HoldsK enc k W g 0 l.toArray := ST.holds_own hk hb l.toArray (by rw [hsz, ht])
    have hlt : g < W.heap.size := (Array.getElem?_eq_some_iff.1 hb).1
    have h : Calls Tryd.prog (ρ.f 6) #[.slice (some ⟨g, 0, none⟩) l.toArray.size cap, .func (.func f) #[] #[]] W fun e w' =>
        e = .returned (.tuple #[]) ∧ ∃ d' n os, Go.Sort.PermIn 0 l.toArray.size l.toArray d' ∧ Go.Sort.SortedIn (ltOf cf) 0 l.toArray.size d' ∧ w' = sortWorldK enc k W g 0 n d' os :=
      AnyQ.slices_SortFunc L k aE zE enc hk h1 cf hO f #[] g 0 cap l.toArray W eg (hcmp g _ W) hH hlt (by rw [hsz]; exact hl)
    rw [hsz] at h
    refine h.mono ?_
    rintro e' w' ⟨rfl, d', n, os, hP, hS, rfl⟩
    have hds : d'.size = l.length := by rw [hP.1, hsz]
    obtain ⟨cur', hb', hcs', ht'⟩ := ST.sort_block (enc := enc) (k := k) (d := d') (m := n) (os := os) hb (by rw [hds, hcs]; exact Nat.mul_le_mul_right _ hncap)
    refine ⟨rfl, d'.toList, ?_, ?_, ⟨?_, .inr ⟨g, cap, cur', ?_, hg, hb', ?_, hcapm, by rw [hcs', hcs], ?_⟩⟩, ST.sort_grown⟩
    · have h2 := hP.2.2
      have e1 : d'.extract 0 l.length = d' := by rw [← hds]; simp
      have e2 : l.toArray.extract 0 l.length = l.toArray := by rw [← hsz]; simp
      rw [e1, e2] at h2
      exact h2
    · rw [List.pairwise_iff_getElem]
      intro i j hi hj hij
      rw [Array.length_toList] at hi hj
      have h3 := hS i j (Nat.zero_le _) hij (by omega)
      rw [getElem!_pos d' i hi, getElem!_pos d' j hj] at h3
      unfold ltOf at h3
      rw [decide_eq_false_iff_not] at h3
      rw [Array.getElem_toList, Array.getElem_toList]
      exact h3
    · rw [ST.flat_length hk]
    · simp [hds]
    · simp [hds]; exact hncap
    · rw [Array.length_toList, ht', ST.flatK_flat hk]
theorem lays23 (g n : Nat) (W : World) : CmpLays Tryd.prog 23 #[] encG 5 cmpG g 0 n W := by
  intro m os dk hs x y
  rw [Array.append_empty]
  exact (compare_calls x y _).mono fun e w' h => ⟨h.1, 1, h.2⟩
theorem SortG_any (W : World) (base : Nat) (v : Value) (l : List S29) (ho : Row encG 29 5 W base v l) (hl : l.length < 4611686018427387904) :
    Calls Tryd.prog 22 #[v, .func (.func 23) #[] #[]] W fun e' w' => e' = .returned (.tuple #[]) ∧ ∃ r : List S29, r.Perm l ∧ r.Pairwise (fun a b => ¬ cmpG b a < 0) ∧ Row encG 29 5 w' base v r ∧ W.grownBy w' v.ownBlock :=
  sort_row Tryd.sortG 5 Tryd.isAgg29 Tryd.sizeOf29 encG encG_len encG_one cmpG swoG 23 29 (enters_of Tryd.func23 (by kernel_rfl) rfl) lays23 W base v l ho hl

set_option maxHeartbeats 4000000 in
set_option maxRecDepth 100000 in
theorem Merge_any (A B : Option Addr) (ca cb : Nat) (x y : List S29) (w : World) (hx : ReadsRow (RE encG) 5 w A x.length x) (hy : ReadsRow (RE encG) 5 w B y.length y) (hcx : x.length ≤ ca) (hcy : y.length ≤ cb) (hnx : A = none → ca = 0) (hny : B = none → cb = 0) (hlx : x.length ≤ 100000) (hly : y.length ≤ 100000) :
    Calls Tryd.prog 9 #[.slice A x.length ca, .slice B y.length cb] w fun e w' => ∃ v r, e = .returned v ∧ MergeOf (fun g => g ∈ x ∨ g ∈ y) r ∧ r.length ≤ x.length + y.length ∧ Row encG 29 5 w' w.heap.size v r ∧ Below w.heap.size w w' := by
  have hC := Concat_any A B ca cb x y w.heap.size (w.alloc (.cells #[.slice A x.length ca, .slice B y.length cb] 22)) (al0 _ _) (ReadsRow.imp_ hx ((Below.refl _ _).alloc (Nat.le_refl _) _) (fun _ _ h => h)) (ReadsRow.imp_ hy ((Below.refl _ _).alloc (Nat.le_refl _) _) (fun _ _ h => h)) hcx hcy hnx hny hlx hly
  have HC := Aside0.mk hC
  clear hC hx hy hnx hny
  go_enter Tryd.func9, Tryd.ntmps9
  go_wp2_with fail
  refine HC.out.mono ?_
  rintro e w1 ⟨v1, rfl, ho1, hb1⟩
  have hb1' : Below w.heap.size w w1 := ((Below.refl w.heap.size w).alloc (Nat.le_refl _) _).trans (hb1.mono (by simp))
  have ho1' : Row encG 29 5 w1 w.heap.size v1 (x ++ y) := ho1.lower (by simp)
  have HB1 := Aside0.mk hb1'
  have HO1 := Aside0.mk ho1'
  clear ho1 hb1 hb1' ho1' HC
  go_wp2_with fail
  refine (SortG_any w1 w.heap.size v1 (x ++ y) HO1.out (by rw [List.length_append]; omega)).mono ?_
  rintro e w2 ⟨rfl, r, hp, hs, ho2, hg2⟩
  have HB2 := Aside0.mk (HB1.out.grown hg2 HB1.out.size (fun j hj => (HO1.out.at_base j hj).1))
  have HO2 := Aside0.mk ho2
  have HP := Aside0.mk hp
  have HS := Aside0.mk hs
  clear hp hs ho2 hg2 HO1 HB1
  go_wp2_with fail
  refine (Compact_any w.heap.size w2 v1 r HO2.out (by rw [HP.out.length_eq, List.length_append]; omega)).mono ?_
  rintro e w3 ⟨v3, rfl, ho3, hg3, hv3⟩
  have HB3 := Aside0.mk (HB2.out.grown hg3 HB2.out.size (fun j hj => (HO2.out.at_base j hj).1))
  have HO3 := Aside0.mk ho3
  clear ho3 hg3 hv3
  go_wp2
  go_ret
  have hsp := compact_spec (lt := ltG) ltG_irr (fun _ _ _ => ltG_trans) ltG_tri r (HS.out.imp (fun {a b} h => by rw [← cmpG_neg]; omega))
  refine ⟨_, compactG r, rfl, ⟨hsp.1, fun z => ?_⟩, ?_, HO3.out, HB3.out⟩
  · show z ∈ Go.Lib.compact r ↔ z ∈ x ∨ z ∈ y
    rw [hsp.2 z, HP.out.mem_iff, List.mem_append]
  · have : (compactG r).length ≤ r.length := by
      unfold compactG Go.Lib.compact Go.Lib.compactUpTo
      rw [List.length_map]
      refine Nat.le_trans (List.length_filter_le _ _) ?_
      simp
    rw [HP.out.length_eq, List.length_append] at this
    exact this
end Go.Proofs.YtioekkdodggakaaDoor.G
