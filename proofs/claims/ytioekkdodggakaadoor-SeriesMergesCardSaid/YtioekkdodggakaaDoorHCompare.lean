import Derived.Test.YtioekkdodggakaaDoorHCmp
import Derived.Deep.DeepCutAuto
/-
  series.compare.
-/
namespace Go.Proofs.YtioekkdodggakaaDoor.G
open Go.RowKit Go.Proofs.YtioekkdodggakaaDoorW.PrintWords Go.Proofs.YtioekkdodggakaaDoorW.PrintLast Go.Proofs.YtioekkdodggakaaDoorW.PrintMore
set_option linter.unusedVariables false
set_option linter.unusedSimpArgs false
def cmpG (x y : S29) : Int := orL [cmpI x.f0 y.f0, cmpI x.f1 y.f1, cmpI x.f2 y.f2, cmpI x.f3 y.f3, cmpS x.f4 y.f4]
def TenAt (W1 w' : World) (p q : Nat) (x y : S29) : Prop :=
  Below W1.heap.size W1 w' ∧ w'.cell? ⟨p, 0, none⟩ = some (.int .i64 x.f0) ∧ w'.cell? ⟨p, 1, none⟩ = some (.int .i64 x.f1) ∧ w'.cell? ⟨p, 2, none⟩ = some (.int .i64 x.f2) ∧ w'.cell? ⟨p, 3, none⟩ = some (.int .i64 x.f3) ∧ w'.cell? ⟨p, 4, none⟩ = some (.string x.f4) ∧ w'.cell? ⟨q, 0, none⟩ = some (.int .i64 y.f0) ∧ w'.cell? ⟨q, 1, none⟩ = some (.int .i64 y.f1) ∧ w'.cell? ⟨q, 2, none⟩ = some (.int .i64 y.f2) ∧ w'.cell? ⟨q, 3, none⟩ = some (.int .i64 y.f3) ∧ w'.cell? ⟨q, 4, none⟩ = some (.string y.f4)
theorem TenAt.step {W w w2 : World} {p q : Nat} {x y : S29} (hb : Below w.heap.size w w2) (h : TenAt W w p q x y) : TenAt W w2 p q x y := by
  obtain ⟨h0, a0, a1, a2, a3, a4, b0, b1, b2, b3, b4⟩ := h
  have mv : ∀ (a : Addr) (v : Value), w.cell? a = some v → w2.cell? a = some v := fun a v ha => (hb.cell (World.block_lt_of_cell? w a ha)).trans ha
  exact ⟨h0.trans (hb.mono h0.size), mv _ _ a0, mv _ _ a1, mv _ _ a2, mv _ _ a3, mv _ _ a4, mv _ _ b0, mv _ _ b1, mv _ _ b2, mv _ _ b3, mv _ _ b4⟩
theorem or5 (a b c d e : Int) (w : World) (g : Nat) (hg : w.heap[g]? = some (.cells #[.int .i64 a, .int .i64 b, .int .i64 c, .int .i64 d, .int .i64 e] 3 (0, 0))) :
    Calls Tryd.prog 34 #[.slice (some ⟨g, 0, none⟩) 5 5] w fun e' w' => e' = .returned (.int .i64 (orL [a, b, c, d, e])) ∧ w' = w :=
  or_calls ⟨g, 0, none⟩ [a, b, c, d, e] 5 w (by simp) (fun i x hx => by
    have h1 : i < 5 := by have := (List.getElem?_eq_some_iff.1 hx).1; simpa using this
    have h2 := blk_cell hg i
    rcases (show i = 0 ∨ i = 1 ∨ i = 2 ∨ i = 3 ∨ i = 4 by omega) with rfl | rfl | rfl | rfl | rfl <;> (simp at hx; subst hx; exact h2.trans rfl))
theorem grow3 (w : World) (a b c : Obj) : ((((w.alloc a).alloc b).alloc c).drew) = Go.Sort.grow (w.drewN 1) #[a, b, c] := by
  show ({ ((w.alloc a).alloc b).alloc c with drawn := _ } : World) = _
  rw [Go.Sort.alloc_eq_grow, Go.Sort.alloc_eq_grow, Go.Sort.alloc_eq_grow, Go.Sort.grow_grow, Go.Sort.grow_grow]
  rfl
theorem al0d (w : World) (o : Obj) : (w.alloc o).drew.heap[w.heap.size]? = some o := al0 w o
set_option maxHeartbeats 16000000 in
set_option maxRecDepth 100000 in
theorem compare_calls (x y : S29) (w : World) :
    Calls Tryd.prog 23 #[.agg #[.int .i64 x.f0, .int .i64 x.f1, .int .i64 x.f2, .int .i64 x.f3, .string x.f4], .agg #[.int .i64 y.f0, .int .i64 y.f1, .int .i64 y.f2, .int .i64 y.f3, .string y.f4]] w fun e w' => e = .returned (.int .i64 (cmpG x y)) ∧ ∃ os, w' = Go.Sort.grow (w.drewN 1) os := by
  have hu29 := Tryd.underlying29
  have hu39 := Tryd.underlying39
  obtain ⟨W1, hW1⟩ : ∃ W1 : World, W1 = (w.alloc (.cells #[.int .i64 x.f0, .int .i64 x.f1, .int .i64 x.f2, .int .i64 x.f3, .string x.f4] 29)).alloc (.cells #[.int .i64 y.f0, .int .i64 y.f1, .int .i64 y.f2, .int .i64 y.f3, .string y.f4] 29) := ⟨_, rfl⟩
  have hT0 : TenAt W1 W1 w.heap.size (w.heap.size + 1) x y := by
    rw [hW1]
    exact ⟨Below.refl _ _, (blk_cell (blk_alloc (al0 _ _) _) 0).trans rfl, (blk_cell (blk_alloc (al0 _ _) _) 1).trans rfl, (blk_cell (blk_alloc (al0 _ _) _) 2).trans rfl, (blk_cell (blk_alloc (al0 _ _) _) 3).trans rfl, (blk_cell (blk_alloc (al0 _ _) _) 4).trans rfl, (blk_cell (al1 _ _ _) 0).trans rfl, (blk_cell (al1 _ _ _) 1).trans rfl, (blk_cell (al1 _ _ _) 2).trans rfl, (blk_cell (al1 _ _ _) 3).trans rfl, (blk_cell (al1 _ _ _) 4).trans rfl⟩
  have HB1 : Aside0 (Below w.heap.size w W1) := ⟨by rw [hW1]; exact ((Below.refl _ _).alloc (Nat.le_refl _) _).alloc (by simp) _⟩
  have HT0 := Aside0.mk hT0
  have HW1 := Aside0.mk hW1
  clear hW1 hT0
  go_enter Tryd.func23, Tryd.ntmps23
  go_upto_region 1 with fail
  rw [← HW1.out]
  go_region_held3 (fun w' => Below W1.heap.size W1 w' ∧ w'.cell? ⟨w.heap.size, 0, none⟩ = some (.int .i64 x.f0) ∧ w'.cell? ⟨w.heap.size, 1, none⟩ = some (.int .i64 x.f1) ∧ w'.cell? ⟨w.heap.size, 2, none⟩ = some (.int .i64 x.f2) ∧ w'.cell? ⟨w.heap.size, 3, none⟩ = some (.int .i64 x.f3) ∧ w'.cell? ⟨w.heap.size, 4, none⟩ = some (.string x.f4) ∧ w'.cell? ⟨w.heap.size + 1, 0, none⟩ = some (.int .i64 y.f0) ∧ w'.cell? ⟨w.heap.size + 1, 1, none⟩ = some (.int .i64 y.f1) ∧ w'.cell? ⟨w.heap.size + 1, 2, none⟩ = some (.int .i64 y.f2) ∧ w'.cell? ⟨w.heap.size + 1, 3, none⟩ = some (.int .i64 y.f3) ∧ w'.cell? ⟨w.heap.size + 1, 4, none⟩ = some (.string y.f4)) (first | assumption | exact TenAt.step (below_drew1 (Below.refl _ _)) HT0.out | exact TenAt.step ((Below.refl _ _).alloc (Nat.le_refl _) _) (by assumption) | exact TenAt.step hb (by assumption))
    (first | (go_at_call 35; (with_reducible refine (cmpInt_calls _ _ _).mono ?_); rintro e w' ⟨rfl, rfl⟩) | (go_at_call 41; (with_reducible refine (cmpStr_calls _ _ _).mono ?_); rintro e w' ⟨rfl, rfl⟩) | (go_at_call 34; (with_reducible refine (or5 _ _ _ _ _ _ _ (al0d _ _)).mono ?_); rintro e w' ⟨rfl, rfl⟩))
  all_goals
    rename_i hHeld
    clear hHeld
    go_wp2
    go_ret
    exact ⟨by unfold cmpG; first | done | rfl | (simp; done), _, by rw [HW1.out]; exact grow3 _ _ _ _⟩
end Go.Proofs.YtioekkdodggakaaDoor.G
