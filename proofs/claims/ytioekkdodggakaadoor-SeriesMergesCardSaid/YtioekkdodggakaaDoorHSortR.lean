import Derived.Test.YtioekkdodggakaaDoorHMerge
import Derived.Test.YtioekkdodggakaaDoorHReadP
/-
  series.Readings' comparison and its sort.
-/
namespace Go.Proofs.YtioekkdodggakaaDoor.G
open Go.RowKit Go.Proofs.YtioekkdodggakaaDoorW.PrintWords Go.Proofs.YtioekkdodggakaaDoorW.PrintLast Go.Proofs.YtioekkdodggakaaDoorW.PrintMore
set_option linter.unusedVariables false
set_option linter.unusedSimpArgs false
def cmpR (x y : S49) : Int := orL [cmpI x.f1 y.f1, cmpI x.f0 y.f0]
def ltR (x y : S49) : Prop := x.f1 < y.f1 ∨ x.f1 = y.f1 ∧ x.f0 < y.f0
theorem cmpR_neg (x y : S49) : cmpR x y < 0 ↔ ltR x y := by
  unfold cmpR ltR orL orL orL cmpI
  (repeat' split) <;> omega
def FourAt (W1 w' : World) (p q : Nat) (x y : S49) : Prop :=
  Below W1.heap.size W1 w' ∧ w'.cell? ⟨p, 0, none⟩ = some (.int .i64 x.f0) ∧ w'.cell? ⟨p, 1, none⟩ = some (.int .i64 x.f1) ∧ w'.cell? ⟨q, 0, none⟩ = some (.int .i64 y.f0) ∧ w'.cell? ⟨q, 1, none⟩ = some (.int .i64 y.f1)
theorem FourAt.step {W w w2 : World} {p q : Nat} {x y : S49} (hb : Below w.heap.size w w2) (h : FourAt W w p q x y) : FourAt W w2 p q x y := by
  obtain ⟨h0, a0, a1, b0, b1⟩ := h
  have mv : ∀ (a : Addr) (v : Value), w.cell? a = some v → w2.cell? a = some v := fun a v ha => (hb.cell (World.block_lt_of_cell? w a ha)).trans ha
  exact ⟨h0.trans (hb.mono h0.size), mv _ _ a0, mv _ _ a1, mv _ _ b0, mv _ _ b1⟩
theorem or2 (a b : Int) (w : World) (g : Nat) (hg : w.heap[g]? = some (.cells #[.int .i64 a, .int .i64 b] 3 (0, 0))) :
    Calls Tryd.prog 34 #[.slice (some ⟨g, 0, none⟩) 2 2] w fun e' w' => e' = .returned (.int .i64 (orL [a, b])) ∧ w' = w :=
  or_calls ⟨g, 0, none⟩ [a, b] 2 w (by simp) (fun i x hx => by
    have h1 : i < 2 := by have := (List.getElem?_eq_some_iff.1 hx).1; simpa using this
    have h2 := blk_cell hg i
    rcases (show i = 0 ∨ i = 1 by omega) with rfl | rfl <;> (simp at hx; subst hx; exact h2.trans rfl))
set_option maxHeartbeats 16000000 in
set_option maxRecDepth 100000 in
theorem compareR_calls (x y : S49) (w : World) :
    Calls Tryd.prog 33 #[.agg #[.int .i64 x.f0, .int .i64 x.f1, .int .i64 x.f2.f0, .int .i64 x.f2.f1], .agg #[.int .i64 y.f0, .int .i64 y.f1, .int .i64 y.f2.f0, .int .i64 y.f2.f1]] w fun e w' => e = .returned (.int .i64 (cmpR x y)) ∧ ∃ os, w' = Go.Sort.grow (w.drewN 1) os := by
  have hu49 := Tryd.underlying49
  have hu39 := Tryd.underlying39
  obtain ⟨W1, hW1⟩ : ∃ W1 : World, W1 = (w.alloc (.cells #[.int .i64 x.f0, .int .i64 x.f1, .int .i64 x.f2.f0, .int .i64 x.f2.f1] 49)).alloc (.cells #[.int .i64 y.f0, .int .i64 y.f1, .int .i64 y.f2.f0, .int .i64 y.f2.f1] 49) := ⟨_, rfl⟩
  have hT0 : FourAt W1 W1 w.heap.size (w.heap.size + 1) x y := by
    rw [hW1]
    exact ⟨Below.refl _ _, (blk_cell (blk_alloc (al0 _ _) _) 0).trans rfl, (blk_cell (blk_alloc (al0 _ _) _) 1).trans rfl, (blk_cell (al1 _ _ _) 0).trans rfl, (blk_cell (al1 _ _ _) 1).trans rfl⟩
  have HB1 : Aside0 (Below w.heap.size w W1) := ⟨by rw [hW1]; exact ((Below.refl _ _).alloc (Nat.le_refl _) _).alloc (by simp) _⟩
  have HT0 := Aside0.mk hT0
  have HW1 := Aside0.mk hW1
  clear hW1 hT0
  go_enter Tryd.func33, Tryd.ntmps33
  go_upto_region 1 with fail
  rw [← HW1.out]
  go_region_held3 (fun w' => Below W1.heap.size W1 w' ∧ w'.cell? ⟨w.heap.size, 0, none⟩ = some (.int .i64 x.f0) ∧ w'.cell? ⟨w.heap.size, 1, none⟩ = some (.int .i64 x.f1) ∧ w'.cell? ⟨w.heap.size + 1, 0, none⟩ = some (.int .i64 y.f0) ∧ w'.cell? ⟨w.heap.size + 1, 1, none⟩ = some (.int .i64 y.f1)) (first | assumption | exact FourAt.step (below_drew1 (Below.refl _ _)) HT0.out | exact FourAt.step ((Below.refl _ _).alloc (Nat.le_refl _) _) (by assumption) | exact FourAt.step hb (by assumption))
    (first | (go_at_call 35; (with_reducible refine (cmpInt_calls _ _ _).mono ?_); rintro e w' ⟨rfl, rfl⟩) | (go_at_call 34; (with_reducible refine (or2 _ _ _ _ (al0d _ _)).mono ?_); rintro e w' ⟨rfl, rfl⟩))
  all_goals
    rename_i hHeld
    clear hHeld
    go_wp2
    go_ret
    exact ⟨by unfold cmpR; first | done | rfl | (simp; done), _, by rw [HW1.out]; exact grow3 _ _ _ _⟩
theorem ltR_irr (x : S49) : ¬ ltR x x := by unfold ltR; omega
theorem ltR_trans {x y z : S49} (h1 : ltR x y) (h2 : ltR y z) : ltR x z := by unfold ltR at *; omega
theorem swoR : Go.Sort.SWO (ltOf cmpR) where
  irrefl := fun x => by unfold ltOf; rw [decide_eq_false_iff_not, cmpR_neg]; exact ltR_irr x
  trans := fun x y z h1 h2 => by
    unfold ltOf at *
    rw [decide_eq_true_eq, cmpR_neg] at *
    exact ltR_trans h1 h2
  ntrans := fun x y z h1 h2 => by
    unfold ltOf at *
    rw [decide_eq_false_iff_not, cmpR_neg] at *
    unfold ltR at *
    omega
theorem lays33 (g n : Nat) (W : World) : CmpLays Tryd.prog 33 #[] encR 4 cmpR g 0 n W := by
  intro m os dk hs x y
  rw [Array.append_empty]
  exact (compareR_calls x y _).mono fun e w' h => ⟨h.1, 1, h.2⟩
theorem SortR_any (W : World) (base : Nat) (v : Value) (l : List S49) (ho : Row encR 49 4 W base v l) (hl : l.length < 4611686018427387904) :
    Calls Tryd.prog 32 #[v, .func (.func 33) #[] #[]] W fun e' w' => e' = .returned (.tuple #[]) ∧ ∃ r : List S49, r.Perm l ∧ r.Pairwise (fun a b => ¬ cmpR b a < 0) ∧ Row encR 49 4 w' base v r ∧ W.grownBy w' v.ownBlock :=
  sort_row Tryd.sortR 4 Tryd.isAgg49 Tryd.sizeOf49 encR encR_len encR_one cmpR swoR 33 49 (enters_of Tryd.func33 (by kernel_rfl) rfl) lays33 W base v l ho hl
end Go.Proofs.YtioekkdodggakaaDoor.G
