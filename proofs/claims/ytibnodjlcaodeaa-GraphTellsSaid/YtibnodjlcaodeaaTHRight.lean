/-
  graph.Right: every n and every list of arcs: whether n is from 0 to 256, there are at most 4096 arcs, and each end of each arc is from 0 to below n.
-/
import Derived.Laws.EntriesVeiled
import Derived.Test.YtibnodjlcaodeaaTHKit
import Derived.Test.YtibnodjlcaodeaaTShelf
namespace Go.Proofs.Ytibnodjlcaodeaa.G
open Go.RowKit Go.Proofs.YtibnodjlcaodeaaW.PrintWords Go.Proofs.YtibnodjlcaodeaaW.PrintLast Go.Proofs.YtibnodjlcaodeaaW.PrintMore
set_option linter.unusedVariables false
set_option linter.unusedSimpArgs false
def nodeIn (n v : Int) : Bool := decide (0 ≤ v) && decide (v < n)
def arcIn (n : Int) (a : S31) : Bool := nodeIn n a.f0 && nodeIn n a.f1
def graph_Right.f (a0 : Int) (l1 : List S31) : Option Bool := some (decide (0 ≤ a0) && decide (a0 ≤ 256) && decide (l1.length ≤ 4096) && l1.all (arcIn a0))

/-- The closure 'node': n lies in the cell ⟨B, 0⟩. -/
theorem node_calls (n v : Int) (B : Nat) (W : World) (hc : W.cell? ⟨B, 0, none⟩ = some (.int .i64 n)) :
    Calls Try.prog 27 #[.int .i64 v, .pointer (some ⟨B, 0, none⟩)] W fun e w' => e = .returned (.bool (nodeIn n v)) ∧ w' = W := by
  have e : nodeIn n v = (decide (0 ≤ v) && decide (v < n)) := rfl
  rw [e]
  by_cases h0 : 0 ≤ v
  · have h1 : decide (0 ≤ v) = true := decide_eq_true h0
    go_enter Try.func27, Try.ntmps27
    go_wp2
    go_ret
    exact ⟨by simp [h0], rfl⟩
  · have h1 : decide (0 ≤ v) = false := decide_eq_false h0
    go_enter Try.func27, Try.ntmps27
    go_wp2
    go_ret
    exact ⟨by simp [h0], rfl⟩

/-- An arc's two cells. -/
def encArc (x : S31) : List Value := [.int .i64 x.f0, .int .i64 x.f1]

theorem arc_calls (n : Int) (x : S31) (B F : Nat) (W : World) (hBW : B < W.heap.size) (hFW : F < W.heap.size) (hF : W.cell? ⟨F, 0, none⟩ = some (.func (.func 27) #[] #[.pointer (some ⟨B, 0, none⟩)])) (hc : W.cell? ⟨B, 0, none⟩ = some (.int .i64 n)) :
    Calls Try.prog 29 #[.agg #[.int .i64 x.f0, .int .i64 x.f1], .pointer (some ⟨F, 0, none⟩)] W fun e w' => e = .returned (.bool (!arcIn n x)) ∧ Below W.heap.size W w' := by
  have hb : B ≠ W.heap.size := by omega
  have hf : F ≠ W.heap.size := by omega
  have hB2 : (W.alloc (.cells #[.int .i64 x.f0, .int .i64 x.f1] 31)).cell? ⟨B, 0, none⟩ = some (.int .i64 n) := (((Below.refl W.heap.size W).alloc (Nat.le_refl _) _).cell (p := ⟨B, 0, none⟩) hBW).trans hc
  have C0 := Aside0.mk (node_calls n x.f0 B _ hB2)
  have C1 := Aside0.mk (node_calls n x.f1 B _ hB2)
  have HE : Aside0 (arcIn n x = (nodeIn n x.f0 && nodeIn n x.f1)) := ⟨rfl⟩
  have HB := Aside0.mk (below_alloc (Below.refl W.heap.size W) (.cells #[.int .i64 x.f0, .int .i64 x.f1] 31))
  clear hB2
  cases h0 : nodeIn n x.f0 with
  | false =>
    rw [h0] at C0
    have HE2 : Aside0 (arcIn n x = false) := ⟨by rw [HE.out, h0]; rfl⟩
    clear h0 C1 HE
    go_enter Try.func29, Try.ntmps29
    go_wp2_with (go_at_call 27; refine C0.out.mono ?_; rintro e w' ⟨rfl, rfl⟩)
    go_ret
    exact ⟨by rw [HE2.out]; rfl, HB.out⟩
  | true =>
    rw [h0] at C0
    have HE2 : Aside0 (arcIn n x = nodeIn n x.f1) := ⟨by rw [HE.out, h0]; rfl⟩
    clear h0 HE
    generalize nodeIn n x.f1 = y at C1 HE2
    go_enter Try.func29, Try.ntmps29
    go_wp2_with fail
    refine C0.out.mono ?_
    rintro e w' ⟨rfl, rfl⟩
    go_wp2_with fail
    refine C1.out.mono ?_
    rintro e w' ⟨rfl, rfl⟩
    go_wp2
    go_ret
    exact ⟨by rw [HE2.out]; rfl, HB.out⟩

theorem right_pred (n : Int) (B F : Nat) (w : World) (hBW : B < w.heap.size) (hFW : F < w.heap.size) (hF : w.cell? ⟨F, 0, none⟩ = some (.func (.func 27) #[] #[.pointer (some ⟨B, 0, none⟩)])) (hc : w.cell? ⟨B, 0, none⟩ = some (.int .i64 n)) :
    Go.Proofs.PredBelow Try.prog 29 #[.pointer (some ⟨F, 0, none⟩)] (fun x => .agg (encArc x).toArray) (fun x => !arcIn n x) w := fun W x hb => by
  have hs := hb.size
  refine (arc_calls n x B F W (by omega) (by omega) ((hb.cell (p := ⟨F, 0, none⟩) hFW).trans hF) ((hb.cell (p := ⟨B, 0, none⟩) hBW).trans hc)).mono ?_
  rintro e w' ⟨rfl, h⟩
  exact ⟨rfl, below_then hb hs h⟩

instance : Inhabited S31 := ⟨z31⟩

theorem not_all_any (n : Int) (l : List S31) : (!l.any (fun x => !arcIn n x)) = l.all (arcIn n) := by
  induction l with
  | nil => rfl
  | cons x l ih => rw [List.any_cons, List.all_cons, Bool.not_or, ih, Bool.not_not]

/-- slices.ContainsFunc at no element: the predicate isn't called. -/
theorem contains_none (a : Option Addr) (c : Nat) (fv : Value) (w : World) :
    Calls Try.prog 28 #[.slice a 0 c, fv] w fun e w' => e = .returned (.bool false) ∧ w' = w := by
  have H36 : Calls Try.prog 36 #[.slice a 0 c, fv] w fun e w' => e = .returned (.int .i64 (-1)) ∧ w' = w := by
    go_enter Try.func36, Try.ntmps36
    go_wp2
    go_loop [8] (fun i => i = .int .i64 0) (fun _ => 0)
    case atStart => exact rfl
    case round =>
      subst hrel
      go_wp2
      go_ret
      exact ⟨rfl, rfl⟩
  go_enter Try.func28, Try.ntmps28
  go_wp2_with (go_at_call 36; refine H36.mono ?_; rintro e w' ⟨rfl, rfl⟩)
  go_ret
  exact ⟨rfl, rfl⟩

theorem arc_cells {w : World} {A : Option Addr} {xs : List S31} (h : Kd.C k31 w A xs.length xs) (hn : 0 < xs.length) :
    ∃ b off, A = some ⟨b, off, none⟩ ∧ b < w.heap.size ∧ ∀ j, j < xs.length → ∀ i v, (encArc xs[j]!)[i]? = some v → w.cell? ⟨b, off + j * 2 + i, none⟩ = some v := by
  obtain ⟨b, off, rfl, hb, hc⟩ := C_addr h hn (by show 0 < 2; omega)
  refine ⟨b, off, rfl, hb, fun j hj i v hi => ?_⟩
  obtain ⟨c, _, hK, hcc⟩ := hc j _ (List.getElem?_eq_getElem hj)
  obtain rfl := k31_open hK
  rw [getElem!_pos xs j hj] at hi
  exact hcc i v hi

theorem graph_Right.calls (a0 : Int) (A1 : Option Addr) (c1 : Nat) (l1 : List (S31)) (r : Bool) (w : World) (hr1 : Kd.C k31 w A1 l1.length l1) (hc1 : l1.length ≤ c1) (h : graph_Right.f a0 l1 = some r) :
    Calls Try.prog 10 #[.int .i64 a0, .slice A1 l1.length c1] w fun e w' => e = .returned (.bool r) ∧ Below w.heap.size w w' := by
  have hr : r = (decide (0 ≤ a0) && decide (a0 ≤ 256) && decide (l1.length ≤ 4096) && l1.all (arcIn a0)) := (Option.some.inj h).symm
  clear h
  have hlm := hr1.2.1
  have HB := Aside0.mk (below_alloc (below_alloc (Below.refl w.heap.size w) (.cells #[.int .i64 a0] 3)) (.cells #[.func (.func 27) #[] #[.pointer (some ⟨w.heap.size, 0, none⟩)]] 38))
  by_cases h0 : 0 ≤ a0
  · have h0b : decide (0 ≤ a0) = true := decide_eq_true h0
    by_cases h1 : a0 ≤ 256
    · have h1b : decide (a0 ≤ 256) = true := decide_eq_true h1
      by_cases h2 : l1.length ≤ 4096
      · have h2b : decide (l1.length ≤ 4096) = true := decide_eq_true h2
        have h2c : decide ((l1.length : Int) ≤ 4096) = true := decide_eq_true (by omega)
        have hrr : Aside0 (r = l1.all (arcIn a0)) := ⟨by rw [hr, h0b, h1b, h2b]; rfl⟩
        clear hr
        have eg : ∀ args w, (callFunc 29 args).run Try.prog w = .ok (.enter 29 args) w := enters_of Try.func29 (by kernel_rfl) rfl
        have HC : Aside0 (Calls Try.prog 28 #[.slice A1 l1.length c1, .func (.func 29) #[] #[.pointer (some ⟨w.heap.size + 1, 0, none⟩)]] ((w.alloc (.cells #[.int .i64 a0] 3)).alloc (.cells #[.func (.func 27) #[] #[.pointer (some ⟨w.heap.size, 0, none⟩)]] 38)) fun e w' => e = .returned (.bool (!r)) ∧ Below w.heap.size w w') := by
          rcases Nat.eq_zero_or_pos l1.length with hl | hl
          · have hn : l1 = [] := List.eq_nil_of_length_eq_zero hl
            subst hn
            refine ⟨(contains_none A1 c1 _ _).mono ?_⟩
            rintro e w' ⟨rfl, rfl⟩
            exact ⟨by rw [hrr.out]; rfl, HB.out⟩
          · obtain ⟨b, off, rfl, hb, hc⟩ := arc_cells hr1 hl
            have hs := HB.out.size
            have h5 := right_pred a0 w.heap.size (w.heap.size + 1) ((w.alloc (.cells #[.int .i64 a0] 3)).alloc (.cells #[.func (.func 27) #[] #[.pointer (some ⟨w.heap.size, 0, none⟩)]] 38)) (by simp; omega) (by simp) (by simp) (by simp)
            refine ⟨(Try.slices_ContainsFunc 2 Try.isAgg31 Try.sizeOf31 encArc (fun _ => rfl) (fun x => !arcIn a0 x) 29 _ eg b off l1.length c1 l1 _ h5 (Nat.le_refl _) hlm (by omega) (fun j hj i v hi => ?_)).mono ?_⟩
            · exact (HB.out.cell (p := ⟨b, off + j * 2 + i, none⟩) hb).trans (hc j hj i v hi)
            · rintro e w' ⟨rfl, h⟩
              refine ⟨?_, below_then HB.out hs h⟩
              rw [List.take_length, hrr.out, ← not_all_any, Bool.not_not]
        clear HB hr1 hlm hrr
        go_enter Try.func10, Try.ntmps10
        go_wp2_with (go_at_call 28; refine HC.out.mono ?_; rintro e w' ⟨rfl, hb⟩)
        go_ret
        exact ⟨by simp, hb⟩
      · have h2c : decide ((l1.length : Int) ≤ 4096) = false := decide_eq_false (by omega)
        have h2b : decide (l1.length ≤ 4096) = false := decide_eq_false h2
        rw [h2b] at hr
        simp only [Bool.and_false, Bool.false_and] at hr
        subst hr
        clear HB
        go_enter Try.func10, Try.ntmps10
        go_wp2
        go_ret
        exact ⟨rfl, by repeat (first | exact Below.refl _ _ | apply below_alloc | apply below_drew | apply pw_below_drewN)⟩
    · have h1b : decide (a0 ≤ 256) = false := decide_eq_false h1
      rw [h1b] at hr
      simp only [Bool.and_false, Bool.false_and] at hr
      subst hr
      clear HB
      go_enter Try.func10, Try.ntmps10
      go_wp2
      go_ret
      exact ⟨rfl, by repeat (first | exact Below.refl _ _ | apply below_alloc | apply below_drew | apply pw_below_drewN)⟩
  · have h0b : decide (0 ≤ a0) = false := decide_eq_false h0
    rw [h0b] at hr
    simp only [Bool.and_false, Bool.false_and] at hr
    subst hr
    clear HB
    go_enter Try.func10, Try.ntmps10
    go_wp2
    go_ret
    exact ⟨rfl, by repeat (first | exact Below.refl _ _ | apply below_alloc | apply below_drew | apply pw_below_drewN)⟩
end Go.Proofs.Ytibnodjlcaodeaa.G
