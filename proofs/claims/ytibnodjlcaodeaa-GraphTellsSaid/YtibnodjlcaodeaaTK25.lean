-- written by gprint.py, a program of this session that drives the kit's printer with functions hooked, and made short; Lean checks every line
import Derived.Test.YtibnodjlcaodeaaTK0
import Derived.Test.YtibnodjlcaodeaaTK15
import Derived.Test.YtibnodjlcaodeaaTK22
import Derived.Test.YtibnodjlcaodeaaTK24
namespace Go.Proofs.Ytibnodjlcaodeaa.G
open Go.RowKit Go.Proofs.YtibnodjlcaodeaaW.PrintWords Go.Proofs.YtibnodjlcaodeaaW.PrintLast Go.Proofs.YtibnodjlcaodeaaW.PrintMore
attribute [local go_sem] max2_int min2_int max_two min_two max_three min_three max_four min_four   -- for this text's walks alone
set_option linter.unusedVariables false
set_option linter.unusedSimpArgs false
/-! ### bourneref11_Path: function 21 -/
mutual
def bourneref11_Path.j0 : Nat → Int → List (S31) → Int → Int → Bool → Option (List Int × Bool)
 | 0, _, _, _, _, _ => none
 | k + 1, x0, x1, x2, x3, x36 => if x36 = true then (some (([] : List Int), false)) else ((bourneref11_Steps.f k x0 x1 x3).bind fun t398 => (if 0 ≤ x2 then (if x2 < (t398.length : Int) then (if (rd t398 x2) < 0 then (some (([] : List Int), false)) else (bourneref11_Path.l0 k x1 x2 x3 t398 (([x2] : List Int)))) else (none)) else (none)))
def bourneref11_Path.l0 : Nat → List (S31) → Int → Int → List Int → List Int → Option (List Int × Bool)
 | 0, _, _, _, _, _ => none
 | k + 1, x1, x2, x3, x11, x12 => if x2 = x3 then (some (x12, true)) else (bourneref11_Path.l1 k x1 x2 x3 x11 x12 0)
def bourneref11_Path.l1 : Nat → List (S31) → Int → Int → List Int → List Int → Int → Option (List Int × Bool)
 | 0, _, _, _, _, _, _ => none
 | k + 1, x1, x2, x3, x11, x12, x13 => if 0 ≤ x13 then (if x13 < (x11.length : Int) then (if 0 ≤ x2 then (if x2 < (x11.length : Int) then (if (rd x11 x13) = (wrap64 ((rd x11 x2) - 1)) then ((bourneref11_Has.f k x1 x2 x13).bind fun t407 => (if t407 = true then (if x12.length < 17592186044416 then (bourneref11_Path.l0 k x1 x13 x3 x11 (x12 ++ [x13])) else (none)) else (bourneref11_Path.l1 k x1 x2 x3 x11 x12 (wrap64 (x13 + 1))))) else (bourneref11_Path.l1 k x1 x2 x3 x11 x12 (wrap64 (x13 + 1)))) else (none)) else (none)) else (none)) else (none)
end
def bourneref11_Path.f (k : Nat) (a0 : Int) (l1 : List (S31)) (a2 : Int) (a3 : Int) : Option (List Int × Bool) := (bourneref11_Right.f k a0 l1).bind fun t397 => (if t397 = true then (if a2 < 0 then (bourneref11_Path.j0 k a0 l1 a2 a3 true) else (if a2 ≥ a0 then (bourneref11_Path.j0 k a0 l1 a2 a3 true) else (if a3 < 0 then (bourneref11_Path.j0 k a0 l1 a2 a3 true) else (bourneref11_Path.j0 k a0 l1 a2 a3 (decide (a3 ≥ a0)))))) else (bourneref11_Path.j0 k a0 l1 a2 a3 true))
theorem bourneref11_Path.mono_l : ∀ k, (∀ y0 y1 y2 y3 y4, LeO (bourneref11_Path.j0 k y0 y1 y2 y3 y4) (bourneref11_Path.j0 (k + 1) y0 y1 y2 y3 y4)) ∧ (∀ y0 y1 y2 y3 y4, LeO (bourneref11_Path.l0 k y0 y1 y2 y3 y4) (bourneref11_Path.l0 (k + 1) y0 y1 y2 y3 y4)) ∧ (∀ y0 y1 y2 y3 y4 y5, LeO (bourneref11_Path.l1 k y0 y1 y2 y3 y4 y5) (bourneref11_Path.l1 (k + 1) y0 y1 y2 y3 y4 y5))
 | 0 => ⟨fun _ _ _ _ _ r h => by simp [bourneref11_Path.j0] at h, fun _ _ _ _ _ r h => by simp [bourneref11_Path.l0] at h, fun _ _ _ _ _ _ r h => by simp [bourneref11_Path.l1] at h⟩
 | k + 1 => by
  obtain ⟨ih0, ih1, ih2⟩ := bourneref11_Path.mono_l k
  refine ⟨?_, ?_, ?_⟩
  ·intro y0 y1 y2 y3 y4
   unfold bourneref11_Path.j0
   repeat' first
   | (with_reducible exact ih0 _ _ _ _ _)
   | (with_reducible exact ih1 _ _ _ _ _)
   | (with_reducible exact ih2 _ _ _ _ _ _)
   | (with_reducible exact bourneref11_Has.mono _ _ _ _)
   | (with_reducible exact bourneref11_Right.mono _ _ _)
   | (with_reducible exact bourneref11_Steps.mono _ _ _ _)
   | (with_reducible exact LeO.refl _)
   | (with_reducible exact LeO.none _)
   | (with_reducible refine LeO.ite ?_ ?_)
   | (with_reducible refine LeO.bind ?_ (fun _ => ?_))
   | exact ih0 _ _ _ _ _
   | exact ih1 _ _ _ _ _
   | exact ih2 _ _ _ _ _ _
   | exact bourneref11_Has.mono _ _ _ _
   | exact bourneref11_Right.mono _ _ _
   | exact bourneref11_Steps.mono _ _ _ _
   | exact LeO.none _
   | refine LeO.ite ?_ ?_
   | refine LeO.bind ?_ (fun _ => ?_)
  ·intro y0 y1 y2 y3 y4
   unfold bourneref11_Path.l0
   repeat' first
   | (with_reducible exact ih0 _ _ _ _ _)
   | (with_reducible exact ih1 _ _ _ _ _)
   | (with_reducible exact ih2 _ _ _ _ _ _)
   | (with_reducible exact bourneref11_Has.mono _ _ _ _)
   | (with_reducible exact bourneref11_Right.mono _ _ _)
   | (with_reducible exact bourneref11_Steps.mono _ _ _ _)
   | (with_reducible exact LeO.refl _)
   | (with_reducible exact LeO.none _)
   | (with_reducible refine LeO.ite ?_ ?_)
   | (with_reducible refine LeO.bind ?_ (fun _ => ?_))
   | exact ih0 _ _ _ _ _
   | exact ih1 _ _ _ _ _
   | exact ih2 _ _ _ _ _ _
   | exact bourneref11_Has.mono _ _ _ _
   | exact bourneref11_Right.mono _ _ _
   | exact bourneref11_Steps.mono _ _ _ _
   | exact LeO.none _
   | refine LeO.ite ?_ ?_
   | refine LeO.bind ?_ (fun _ => ?_)
  ·intro y0 y1 y2 y3 y4 y5
   unfold bourneref11_Path.l1
   repeat' first
   | (with_reducible exact ih0 _ _ _ _ _)
   | (with_reducible exact ih1 _ _ _ _ _)
   | (with_reducible exact ih2 _ _ _ _ _ _)
   | (with_reducible exact bourneref11_Has.mono _ _ _ _)
   | (with_reducible exact bourneref11_Right.mono _ _ _)
   | (with_reducible exact bourneref11_Steps.mono _ _ _ _)
   | (with_reducible exact LeO.refl _)
   | (with_reducible exact LeO.none _)
   | (with_reducible refine LeO.ite ?_ ?_)
   | (with_reducible refine LeO.bind ?_ (fun _ => ?_))
   | exact ih0 _ _ _ _ _
   | exact ih1 _ _ _ _ _
   | exact ih2 _ _ _ _ _ _
   | exact bourneref11_Has.mono _ _ _ _
   | exact bourneref11_Right.mono _ _ _
   | exact bourneref11_Steps.mono _ _ _ _
   | exact LeO.none _
   | refine LeO.ite ?_ ?_
   | refine LeO.bind ?_ (fun _ => ?_)
theorem bourneref11_Path.mono : ∀ a0 a1 a2 a3 k, LeO (bourneref11_Path.f k a0 a1 a2 a3) (bourneref11_Path.f (k + 1) a0 a1 a2 a3) := by
 intro a0 a1 a2 a3 k
 obtain ⟨ih0, ih1, ih2⟩ := bourneref11_Path.mono_l k
 unfold bourneref11_Path.f
 repeat' first
   | (with_reducible exact ih0 _ _ _ _ _)
   | (with_reducible exact ih1 _ _ _ _ _)
   | (with_reducible exact ih2 _ _ _ _ _ _)
   | (with_reducible exact bourneref11_Has.mono _ _ _ _)
   | (with_reducible exact bourneref11_Right.mono _ _ _)
   | (with_reducible exact bourneref11_Steps.mono _ _ _ _)
   | (with_reducible exact LeO.refl _)
   | (with_reducible exact LeO.none _)
   | (with_reducible refine LeO.ite ?_ ?_)
   | (with_reducible refine LeO.bind ?_ (fun _ => ?_))
   | exact ih0 _ _ _ _ _
   | exact ih1 _ _ _ _ _
   | exact ih2 _ _ _ _ _ _
   | exact bourneref11_Has.mono _ _ _ _
   | exact bourneref11_Right.mono _ _ _
   | exact bourneref11_Steps.mono _ _ _ _
   | exact LeO.none _
   | refine LeO.ite ?_ ?_
   | refine LeO.bind ?_ (fun _ => ?_)
set_option maxHeartbeats 8000000 in
set_option maxRecDepth 100000 in
theorem bourneref11_Path.calls (k : Nat) (a0 : Int) (A1 : Option Addr) (c1 : Nat) (l1 : List (S31)) (a2 : Int) (a3 : Int) (r1 : List Int) (r2 : Bool) (w : World) (hr1 : Kd.C k31 w A1 l1.length l1) (hc1 : l1.length ≤ c1) (h : bourneref11_Path.f k a0 l1 a2 a3 = some (r1, r2)) :
  Calls Try.prog 21 #[.int .i64 a0, .slice A1 l1.length c1, .int .i64 a2, .int .i64 a3] w fun e w' => ∃ v0_ : Value, e = .returned (.tuple #[v0_, .bool r2]) ∧ Kd.R (Kd.int .i64) 3 w' w.heap.size (fun _ => True) v0_ r1 ∧ Below w.heap.size w w' := by
 have HR1 := Aside0.mk hr1; have HC1 := Aside0.mk hc1; clear hr1 hc1; have HB := Aside0.mk (Below.refl w.heap.size w); have H : ((bourneref11_Right.f k a0 l1).bind fun t397 => (if t397 = true then (if a2 < 0 then (bourneref11_Path.j0 k a0 l1 a2 a3 true) else (if a2 ≥ a0 then (bourneref11_Path.j0 k a0 l1 a2 a3 true) else (if a3 < 0 then (bourneref11_Path.j0 k a0 l1 a2 a3 true) else (bourneref11_Path.j0 k a0 l1 a2 a3 (decide (a3 ≥ a0)))))) else (bourneref11_Path.j0 k a0 l1 a2 a3 true))) = some (r1, r2) := h
 clear h; replace H := Option.bind_eq_some_iff.mp H; obtain ⟨t397, A50, H⟩ := H; replace H : (if t397 = true then (if a2 < 0 then (bourneref11_Path.j0 k a0 l1 a2 a3 true) else (if a2 ≥ a0 then (bourneref11_Path.j0 k a0 l1 a2 a3 true) else (if a3 < 0 then (bourneref11_Path.j0 k a0 l1 a2 a3 true) else (bourneref11_Path.j0 k a0 l1 a2 a3 (decide (a3 ≥ a0)))))) else (bourneref11_Path.j0 k a0 l1 a2 a3 true)) = some (r1, r2) := H
 have A5 := Aside0.mk A50; clear A50; have HC6 := Aside0.mk H; clear H; go_enter Try.func21, Try.ntmps21
 go_upto_region 2 with (first | (go_at_call 22; (with_reducible refine (bourneref11_Right.calls k a0 _ _ l1 t397 _ ?side1 ?side2 A5.out).mono ?_); (case side1 => repeat (first | exact HR1.out | (with_reducible refine cAl ?_ _) | (with_reducible refine cDn ?_ _) | (with_reducible refine cDr ?_))); (case side2 => exact HC1.out); rintro e w' ⟨rfl, ⟨nd, rfl⟩⟩; (try first | exact ⟨rfl, _, World.drewN_drewN _ _ _⟩ | exact ⟨rfl, _, Eq.trans (World.drewN_drewN _ _ _) (congrArg (World.drewN _) (Nat.add_assoc _ _ _))⟩)))
 repeat (go_quiet (fail); try go_wp2)
 (try simp only [Act.put, List.setIfInBounds_toArray, List.set_cons_zero, List.set_cons_succ])
 go_cut [36] (fun v36 wc => ∃ (kq : Nat) (x36_5 : Bool), v36 = .bool x36_5 ∧ Aside0 (bourneref11_Path.j0 kq a0 l1 a2 a3 x36_5 = some (r1, r2)) ∧ Aside0 (kq ≤ k) ∧ Aside0 (Below w.heap.size w wc))
 case first =>
  have H := HC6.out; clear HC6; by_cases c7 : t397 = true
  ·subst c7; have H1 : (if a2 < 0 then (bourneref11_Path.j0 k a0 l1 a2 a3 true) else (if a2 ≥ a0 then (bourneref11_Path.j0 k a0 l1 a2 a3 true) else (if a3 < 0 then (bourneref11_Path.j0 k a0 l1 a2 a3 true) else (bourneref11_Path.j0 k a0 l1 a2 a3 (decide (a3 ≥ a0)))))) = some (r1, r2) := by rw [if_pos rfl] at H; exact H
   clear H; have H := H1; clear H1; by_cases c8 : a2 < 0
   ·rw [if_pos c8] at H; have c8b0 : decide (a2 < 0) = true := decide_eq_true c8; clear c8; (first | rw [c8b0] | (simp only [i64_w, i32_w]; rw [c8b0]) | skip)
    have H' := Aside0.mk H; clear H; go_wp2
    repeat (go_quiet (fail); try go_wp2)
    go_meet
    case rel => exact ⟨_, (true), (by first | rfl | (simp; done) | (simp [*]; done)), H', ⟨by first | omega | exact Nat.le_refl _⟩, ⟨by repeat (first | (with_reducible first | exact HB.out | apply bAl | apply bDn | apply bD1) | exact HB.out)⟩⟩
   ·rw [if_neg c8] at H; have c8b0 : decide (a2 < 0) = false := decide_eq_false c8; clear c8; (first | rw [c8b0] | (simp only [i64_w, i32_w]; rw [c8b0]) | skip)
    by_cases c9 : a2 ≥ a0
    ·rw [if_pos c9] at H; have c9b0 : decide (a0 ≤ a2) = true := decide_eq_true c9; clear c9; have H' := Aside0.mk H; clear H; go_wp2
     repeat (go_quiet (fail); try go_wp2)
     go_meet
     case rel => exact ⟨_, (true), (by first | rfl | (simp; done) | (simp [*]; done)), H', ⟨by first | omega | exact Nat.le_refl _⟩, ⟨by repeat (first | (with_reducible first | exact HB.out | apply bAl | apply bDn | apply bD1) | exact HB.out)⟩⟩
    ·rw [if_neg c9] at H; have c9b0 : decide (a0 ≤ a2) = false := decide_eq_false c9; clear c9; by_cases c10 : a3 < 0
     ·rw [if_pos c10] at H; have c10b0 : decide (a3 < 0) = true := decide_eq_true c10; clear c10; have H' := Aside0.mk H; clear H; go_wp2
      repeat (go_quiet (fail); try go_wp2)
      go_meet
      case rel => exact ⟨_, (true), (by first | rfl | (simp; done) | (simp [*]; done)), H', ⟨by first | omega | exact Nat.le_refl _⟩, ⟨by repeat (first | (with_reducible first | exact HB.out | apply bAl | apply bDn | apply bD1) | exact HB.out)⟩⟩
     ·rw [if_neg c10] at H; have c10b0 : decide (a3 < 0) = false := decide_eq_false c10; clear c10; have H' := Aside0.mk H; clear H; go_wp2
      repeat (go_quiet (fail); try go_wp2)
      go_meet
      case rel => exact ⟨_, (decide (a3 ≥ a0)), (by first | rfl | (simp; done) | (simp [*]; done)), H', ⟨by first | omega | exact Nat.le_refl _⟩, ⟨by repeat (first | (with_reducible first | exact HB.out | apply bAl | apply bDn | apply bD1) | exact HB.out)⟩⟩
  ·replace c7 := Bool.eq_false_iff.mpr c7; subst c7; have H1 : (bourneref11_Path.j0 k a0 l1 a2 a3 true) = some (r1, r2) := by rw [if_neg (show ¬ (false = true) by decide)] at H; exact H
   clear H; have H := H1; clear H1; have H' := Aside0.mk H; clear H; go_wp2
   repeat (go_quiet (fail); try go_wp2)
   go_meet
   case rel => exact ⟨_, (true), (by first | rfl | (simp; done) | (simp [*]; done)), H', ⟨by first | omega | exact Nat.le_refl _⟩, ⟨by repeat (first | (with_reducible first | exact HB.out | apply bAl | apply bDn | apply bD1) | exact HB.out)⟩⟩
 case rest =>
  clear HC6; (try clear c1); (try clear c2); (try clear p2); (try clear c7); (try clear c8); (try clear c8b0); (try clear c9); (try clear c9b0); (try clear c10); (try clear c10b0); obtain ⟨kq, x36_5, rfl, HA, HJ5, HB⟩ := hcut
  cases kq with
  | zero => exact absurd HA.out (by simp [bourneref11_Path.j0])
  | succ kj5 =>
   have H := HA.out; clear HA; simp only [bourneref11_Path.j0] at H; by_cases c11 : x36_5 = true
   ·subst c11; have H1 : (some (([] : List Int), false)) = some (r1, r2) := by rw [if_pos rfl] at H; exact H
    clear H; have H := H1; clear H1; simp only [Option.some.injEq, Prod.mk.injEq] at H
    obtain ⟨rfl, rfl⟩ := H; go_wp2
    repeat (go_quiet (fail); try go_wp2)
    go_ret2
    exact ⟨_, by first | rfl | (simp [errW_none, errW_some] <;> rfl) | (simp [*, errW_none, errW_some] <;> rfl), by first | exact Kd.R_nil _ _ _ _ _ | exact Kd.N_nil _ _ _ _ _ | exact Kd.V_nil _ _ _ _ _ | exact Kd.Q_nil _ _ _ _ _ | exact Kd.S_nil _ _ _ _ _, by repeat (first | (with_reducible first | exact HB.out | apply bAl | apply bDn | apply bD1) | exact HB.out)⟩
   ·replace c11 := Bool.eq_false_iff.mpr c11; subst c11; have H1 : ((bourneref11_Steps.f kj5 a0 l1 a3).bind fun t398 => (if 0 ≤ a2 then (if a2 < (t398.length : Int) then (if (rd t398 a2) < 0 then (some (([] : List Int), false)) else (bourneref11_Path.l0 kj5 l1 a2 a3 t398 (([a2] : List Int)))) else (none)) else (none))) = some (r1, r2) := by rw [if_neg (show ¬ (false = true) by decide)] at H; exact H
    clear H; have H := H1; clear H1; replace H := Option.bind_eq_some_iff.mp H; obtain ⟨t398, A120, H⟩ := H; replace H : (if 0 ≤ a2 then (if a2 < (t398.length : Int) then (if (rd t398 a2) < 0 then (some (([] : List Int), false)) else (bourneref11_Path.l0 kj5 l1 a2 a3 t398 (([a2] : List Int)))) else (none)) else (none)) = some (r1, r2) := H
    have A12 := Aside0.mk A120; clear A120; by_cases c13 : 0 ≤ a2
    ·rw [if_pos c13] at H; have c13b0 : decide (0 ≤ a2) = true := decide_eq_true c13; clear c13; by_cases c14 : a2 < (t398.length : Int)
     ·rw [if_pos c14] at H; have c14b0 : decide (a2 < (t398.length : Int)) = true := decide_eq_true c14; clear c14; by_cases c15 : (rd t398 a2) < 0
      ·rw [if_pos c15] at H; have c15b0 : decide ((rd t398 a2) < 0) = true := decide_eq_true c15; clear c15; simp only [Option.some.injEq, Prod.mk.injEq] at H
       obtain ⟨rfl, rfl⟩ := H; go_wp2_with (first | (go_at_call 35; (with_reducible refine (bourneref11_Steps.calls kj5 a0 _ _ l1 a3 t398 _ ?side1 ?side2 A12.out).mono ?_); (case side1 => repeat (first | exact (Kd.C_below HR1.out HB.out) | (with_reducible refine cAl ?_ _) | (with_reducible refine cDn ?_ _) | (with_reducible refine cDr ?_))); (case side2 => exact HC1.out); rintro e w16 ⟨v399, rfl, ho0, hb⟩; have n0_ := Aside0.mk (Kd.R_lower ho0 (below_size (by repeat (first | (with_reducible first | exact HB.out | apply bAl | apply bDn | apply bD1) | exact HB.out)))); have n1_ := Aside0.mk (below_step (by repeat (first | (with_reducible first | exact HB.out | apply bAl | apply bDn | apply bD1) | exact HB.out)) hb); clear HB; have HO400 := n0_; have HB := n1_; clear n0_ n1_; (try clear hb); (try clear hb2); (try clear hk); (try clear hi); (try clear ho0); obtain ⟨Ao17, co17, eo17⟩ := Kd.R_slice HO400.out; subst eo17; have p401 : 0 ≤ (a2 : Int) := odt (by first | (with_reducible assumption) | assumption); have q401 : a2 < (t398.length : Int) := odt (by first | (with_reducible assumption) | assumption); obtain ⟨ad401, e401, hx401_0⟩ := Kd.at_int (Kd.R_reads' HO400.out).2.2 a2 p401 q401; cases e401; replace p401 := eq_true p401; replace q401 := eq_true q401))
       repeat (go_quiet (fail); try go_wp2)
       go_ret2
       exact ⟨_, by first | rfl | (simp [errW_none, errW_some] <;> rfl) | (simp [*, errW_none, errW_some] <;> rfl), by first | exact Kd.R_nil _ _ _ _ _ | exact Kd.N_nil _ _ _ _ _ | exact Kd.V_nil _ _ _ _ _ | exact Kd.Q_nil _ _ _ _ _ | exact Kd.S_nil _ _ _ _ _, by repeat (first | (with_reducible first | exact HB.out | apply bAl | apply bDn | apply bD1) | exact HB.out)⟩
      ·rw [if_neg c15] at H; have c15b0 : decide ((rd t398 a2) < 0) = false := decide_eq_false c15; clear c15; obtain ⟨y402, hy402⟩ : ∃ y_ : List Int, y_ = (([a2] : List Int)) := ⟨_, rfl⟩
       replace H : (bourneref11_Path.l0 kj5 l1 a2 a3 t398 y402) = some (r1, r2) := by first | (rw [hy402]; with_reducible exact H) | (have H2_ := (Option.bind_some _ _).symm.trans H; rw [hy402]; with_reducible exact H2_) | (have H2_ := (Option.bind_some _ _).symm.trans H; with_reducible exact H2_) | with_reducible exact H | (rw [hy402]; exact H) | exact H
       have Ny402 := Aside0.mk hy402; clear hy402; have H' := Aside0.mk H; clear H; go_wp2_with (first | (go_at_call 35; (with_reducible refine (bourneref11_Steps.calls kj5 a0 _ _ l1 a3 t398 _ ?side1 ?side2 A12.out).mono ?_); (case side1 => repeat (first | exact (Kd.C_below HR1.out HB.out) | (with_reducible refine cAl ?_ _) | (with_reducible refine cDn ?_ _) | (with_reducible refine cDr ?_))); (case side2 => exact HC1.out); rintro e w18 ⟨v399, rfl, ho0, hb⟩; have n0_ := Aside0.mk (Kd.R_lower ho0 (below_size (by repeat (first | (with_reducible first | exact HB.out | apply bAl | apply bDn | apply bD1) | exact HB.out)))); have n1_ := Aside0.mk (below_step (by repeat (first | (with_reducible first | exact HB.out | apply bAl | apply bDn | apply bD1) | exact HB.out)) hb); clear HB; have HO400 := n0_; have HB := n1_; clear n0_ n1_; (try clear hb); (try clear hb2); (try clear hk); (try clear hi); (try clear ho0); obtain ⟨Ao19, co19, eo19⟩ := Kd.R_slice HO400.out; subst eo19; have p401 : 0 ≤ (a2 : Int) := odt (by first | (with_reducible assumption) | assumption); have q401 : a2 < (t398.length : Int) := odt (by first | (with_reducible assumption) | assumption); obtain ⟨ad401, e401, hx401_0⟩ := Kd.at_int (Kd.R_reads' HO400.out).2.2 a2 p401 q401; cases e401; replace p401 := eq_true p401; replace q401 := eq_true q401) | ((with_reducible refine gate_dst (N := 47) rfl ?_); refine Kd.R_lit (Kd.int .i64) _ 3 ?hg (N := 47) ?hd (xs := ([a2] : List Int)) (inner := [.int .i64 a2]) (ok := fun _ => True) (okp := fun _ => True) ?hr ?hp (fun _ hk => hk) trivial (Below.refl _ _) (Nat.le_refl _) (by simp) ?_; (case hd => rfl); (case hg => rfl); (case hr => first | (go_simp; done) | (go_simp; rfl)); (case hp => exact (Reps.one (show Kd.M (Kd.int .i64) _ _ _ a2 [.int .i64 a2] from rfl) (Reps.none _ _))); intro v403 w20 ho21 hb hg_ hnew_; clear hg_ hnew_; (first | rw [← Ny402.out] at ho21 | (simp only [Int.reduceToNat] at ho21; rw [← Ny402.out] at ho21)); have n0_ := Aside0.mk (Kd.R_elder' (by (with_reducible repeat (first | apply rAl | apply rDn | apply rDr)); exact HO400.out) (Kd.R_base ho21) hb); have n1_ := Aside0.mk (Kd.R_lower (Kd.R_new' ho21 (Kd.R_lt (by (with_reducible repeat (first | apply rAl | apply rDn | apply rDr)); exact HO400.out))) (below_size (by repeat (first | (with_reducible first | exact HB.out | apply bAl | apply bDn | apply bD1) | exact HB.out)))); have n2_ := Aside0.mk (below_step (by repeat (first | (with_reducible first | exact HB.out | apply bAl | apply bDn | apply bD1) | exact HB.out)) hb); clear HO400; clear HB; have HO400 := n0_; have HO404 := n1_; have HB := n2_; clear n0_ n1_ n2_; clear hb ho21))
       repeat (go_quiet (fail); try go_wp2)
       go_loopg [2, 12] kj5 (fun kq v2 v12 w' => ∃ (x2_2 : Int) (x12_2 : List Int), v2 = .int .i64 x2_2 ∧ Aside0 (bourneref11_Path.l0 kq l1 x2_2 a3 t398 x12_2 = some (r1, r2)) ∧ Aside0 (kq ≤ kj5) ∧ Aside0 (Kd.R (Kd.int .i64) 3 w' w.heap.size (fun k_ => some k_ ≠ (v12 : Value).ownBlock) (.slice (some ad401) t398.length co19) t398) ∧ Aside0 (Kd.R (Kd.int .i64) 3 w' w.heap.size (fun k_ => some k_ ≠ ((.slice (some ad401) t398.length co19) : Value).ownBlock) v12 x12_2) ∧ Aside0 (Below w.heap.size w w'))
       case atStart => exact ⟨(a2), (y402), (by first | rfl | (simp; done) | (simp [*]; done)), H', ⟨Nat.le_refl _⟩, ⟨by (with_reducible repeat (first | apply rAl | apply rDn | apply rDr)); exact Kd.R_mono HO400.out (fun _ hk => hk.2)⟩, ⟨by (with_reducible repeat (first | apply rAl | apply rDn | apply rDr)); exact Kd.R_mono HO404.out (fun _ hk => hk.2)⟩, ⟨by repeat (first | (with_reducible first | exact HB.out | apply bAl | apply bDn | apply bD1) | exact HB.out)⟩⟩
       case round =>
        clear H'; (try clear c1); (try clear c2); (try clear p2); (try clear p4); (try clear q4); (try clear hx4); (try clear c7); (try clear c8); (try clear c8b0); (try clear c9); (try clear c9b0); (try clear c10); (try clear c10b0); (try clear c11); (try clear c13); (try clear c13b0); (try clear c14); (try clear c14b0); (try clear c15); (try clear c15b0); (try clear c21); (try clear hx401_0); (try clear p2); (try clear p401); (try clear q401); obtain ⟨x2_2, x12_2, rfl, HA, HK2, HO_11, HO_12, HB⟩ := hrel
        cases gk with
        | zero => exact absurd HA.out (by simp [bourneref11_Path.l0])
        | succ k2 =>
         have H := HA.out; clear HA; simp only [bourneref11_Path.l0] at H; by_cases c22 : x2_2 = a3
         ·rw [if_pos c22] at H; have c22b0 : (x2_2 == a3) = true := beq_iff_eq.mpr c22; have c22b1 : (x2_2 != a3) = false := bne_eq_false_iff_eq.mpr c22; clear c22; simp only [Option.some.injEq, Prod.mk.injEq] at H
          obtain ⟨rfl, rfl⟩ := H; go_wp2
          repeat (go_quiet (fail); try go_wp2)
          go_ret2
          exact ⟨_, by first | rfl | (simp [errW_none, errW_some] <;> rfl) | (simp [*, errW_none, errW_some] <;> rfl), by (with_reducible repeat (first | apply rAl | apply rDn | apply rDr)); exact Kd.R_mono HO_12.out (fun _ hk => trivial), by repeat (first | (with_reducible first | exact HB.out | apply bAl | apply bDn | apply bD1) | exact HB.out)⟩
         ·rw [if_neg c22] at H; have c22b0 : (x2_2 == a3) = false := beq_eq_false_iff_ne.mpr c22; have c22b1 : (x2_2 != a3) = true := bne_iff_ne.mpr c22; have H' := Aside0.mk H; clear H; go_wp2
          repeat (go_quiet (fail); try go_wp2)
          go_loopg [13] k2 (fun kq v13 w' => ∃ (x13_3 : Int), v13 = .int .i64 x13_3 ∧ Aside0 (bourneref11_Path.l1 kq l1 x2_2 a3 t398 x12_2 x13_3 = some (r1, r2)) ∧ Aside0 (kq ≤ k2) ∧ Aside0 (Kd.R (Kd.int .i64) 3 w' w.heap.size (fun k_ => some k_ ≠ (u12 : Value).ownBlock) (.slice (some ad401) t398.length co19) t398) ∧ Aside0 (Kd.R (Kd.int .i64) 3 w' w.heap.size (fun k_ => some k_ ≠ ((.slice (some ad401) t398.length co19) : Value).ownBlock) u12 x12_2) ∧ Aside0 (Below w.heap.size w w'))
          case atStart => exact ⟨(0), (by first | rfl | (simp; done) | (simp [*]; done)), H', ⟨Nat.le_refl _⟩, ⟨by (with_reducible repeat (first | apply rAl | apply rDn | apply rDr)); exact HO_11.out⟩, ⟨by (with_reducible repeat (first | apply rAl | apply rDn | apply rDr)); exact HO_12.out⟩, ⟨by repeat (first | (with_reducible first | exact HB.out | apply bAl | apply bDn | apply bD1) | exact HB.out)⟩⟩
          case round =>
           clear H'; (try clear c1); (try clear c2); (try clear p2); (try clear p4); (try clear q4); (try clear hx4); (try clear c7); (try clear c8); (try clear c8b0); (try clear c9); (try clear c9b0); (try clear c10); (try clear c10b0); (try clear c11); (try clear c13); (try clear c13b0); (try clear c14); (try clear c14b0); (try clear c15); (try clear c15b0); (try clear c21); (try clear c22); (try clear c22b0); (try clear c22b1); (try clear hx401_0); (try clear p2); (try clear p4); (try clear p401); (try clear q4); (try clear q401); obtain ⟨x13_3, rfl, HA, HK3, HO_11, HO_12, HB⟩ := hrel
           cases gk with
           | zero => exact absurd HA.out (by simp [bourneref11_Path.l1])
           | succ k3 =>
            have H := HA.out; clear HA; simp only [bourneref11_Path.l1] at H; by_cases c23 : 0 ≤ x13_3
            ·rw [if_pos c23] at H; have c23b0 : decide (0 ≤ x13_3) = true := decide_eq_true c23; clear c23; by_cases c24 : x13_3 < (t398.length : Int)
             ·rw [if_pos c24] at H; have c24b0 : decide (x13_3 < (t398.length : Int)) = true := decide_eq_true c24; clear c24; by_cases c25 : 0 ≤ x2_2
              ·rw [if_pos c25] at H; have c25b0 : decide (0 ≤ x2_2) = true := decide_eq_true c25; clear c25; by_cases c26 : x2_2 < (t398.length : Int)
               ·rw [if_pos c26] at H; have c26b0 : decide (x2_2 < (t398.length : Int)) = true := decide_eq_true c26; clear c26; by_cases c27 : (rd t398 x13_3) = (wrap64 ((rd t398 x2_2) - 1))
                ·rw [if_pos c27] at H; have c27b0 : ((rd t398 x13_3) == (wrap64 ((rd t398 x2_2) - 1))) = true := beq_iff_eq.mpr c27; have c27b1 : ((rd t398 x13_3) != (wrap64 ((rd t398 x2_2) - 1))) = false := bne_eq_false_iff_eq.mpr c27; clear c27; replace H := Option.bind_eq_some_iff.mp H; obtain ⟨t407, A280, H⟩ := H; replace H : (if t407 = true then (if x12_2.length < 17592186044416 then (bourneref11_Path.l0 k3 l1 x13_3 a3 t398 (x12_2 ++ [x13_3])) else (none)) else (bourneref11_Path.l1 k3 l1 x2_2 a3 t398 x12_2 (wrap64 (x13_3 + 1)))) = some (r1, r2) := H
                 have A28 := Aside0.mk A280; clear A280; by_cases c29 : t407 = true
                 ·subst c29; have H1 : (if x12_2.length < 17592186044416 then (bourneref11_Path.l0 k3 l1 x13_3 a3 t398 (x12_2 ++ [x13_3])) else (none)) = some (r1, r2) := by rw [if_pos rfl] at H; exact H
                  clear H; have H := H1; clear H1; by_cases c30 : x12_2.length < 17592186044416
                  ·rw [if_pos c30] at H; have LMc30 := Aside0.mk c30; clear c30; obtain ⟨y408, hy408⟩ : ∃ y_ : List Int, y_ = (x12_2 ++ [x13_3]) := ⟨_, rfl⟩
                   replace H : (bourneref11_Path.l0 k3 l1 x13_3 a3 t398 y408) = some (r1, r2) := by first | (rw [hy408]; with_reducible exact H) | (have H2_ := (Option.bind_some _ _).symm.trans H; rw [hy408]; with_reducible exact H2_) | (have H2_ := (Option.bind_some _ _).symm.trans H; with_reducible exact H2_) | with_reducible exact H | (rw [hy408]; exact H) | exact H
                   have Ny408 := Aside0.mk hy408; clear hy408; have H' := Aside0.mk H; clear H; have p405 : 0 ≤ (x13_3 : Int) := odt (by first | (with_reducible assumption) | assumption); have q405 : x13_3 < (t398.length : Int) := odt (by first | (with_reducible assumption) | assumption); obtain ⟨ad405, e405, hx405_0⟩ := Kd.at_int (Kd.R_reads' HO_11.out).2.2 x13_3 p405 q405
                   obtain rfl : ad401 = ad405 := (by injection e405)
                   replace p405 := eq_true p405; replace q405 := eq_true q405; have p406 : 0 ≤ (x2_2 : Int) := odt (by first | (with_reducible assumption) | assumption); have q406 : x2_2 < (t398.length : Int) := odt (by first | (with_reducible assumption) | assumption); obtain ⟨ad406, e406, hx406_0⟩ := Kd.at_int (Kd.R_reads' HO_11.out).2.2 x2_2 p406 q406
                   obtain rfl : ad401 = ad406 := (by injection e406)
                   replace p406 := eq_true p406; replace q406 := eq_true q406; go_wp2_with (first | (go_at_call 14; (with_reducible refine (bourneref11_Has.calls k3 _ _ l1 x2_2 x13_3 true _ ?side1 ?side2 A28.out).mono ?_); (case side1 => repeat (first | exact (Kd.C_below HR1.out HB.out) | (with_reducible refine cAl ?_ _) | (with_reducible refine cDn ?_ _) | (with_reducible refine cDr ?_))); (case side2 => exact HC1.out); rintro e w' ⟨rfl, ⟨nd, rfl⟩⟩; (try first | exact ⟨rfl, _, World.drewN_drewN _ _ _⟩ | exact ⟨rfl, _, Eq.trans (World.drewN_drewN _ _ _) (congrArg (World.drewN _) (Nat.add_assoc _ _ _))⟩)) | ((with_reducible refine gate_builtin (b := .append) (xs := #[.tmp 71, .tmp 73]) rfl ?_); at_builtin; refine Kd.R_append (Kd.int .i64) (w0 := w) w.heap.size rfl (.tmp 71) (.tmp 73) 25 3 (.int .i64 0) 8 rfl Try.underlying25 info3 rfl (by decide) (by omega) u12 x12_2 x13_3 [.int .i64 x13_3] (fun k_ => some k_ ≠ (.slice (some ad401) t398.length co19 : Value).ownBlock) (fun _ => False) rfl rfl ?aP (fun _ hk => hk.elim) ?aF ?aO ?aB ?aS ?aL ?_; (case aP => exact rfl); (case aB => exact (by repeat (first | (with_reducible first | exact HB.out | apply bAl | apply bDn | apply bD1) | exact HB.out))); (case aF => exact (fun k_ hk => Kd.fresh' (Kd.R_lt (by (with_reducible repeat (first | apply rAl | apply rDn | apply rDr)); exact HO_11.out)) k_ hk)); (case aO => exact (by (with_reducible repeat (first | apply rAl | apply rDn | apply rDr)); exact HO_12.out)); (case aS => exact (below_size (by repeat (first | (with_reducible first | exact HB.out | apply bAl | apply bDn | apply bD1) | exact HB.out)))); (case aL => have := LMc30.out; omega); intro v409 w31 ho hb hg hat; rw [← Ny408.out] at ho; have n0_ := Aside0.mk (Kd.R_after (ok := (fun _ => True)) (by (with_reducible repeat (first | apply rAl | apply rDn | apply rDr)); exact Kd.R_mono HO_11.out (fun _ hk => by first | exact ⟨trivial, hk⟩ | exact hk | exact ⟨hk.1, hk.2⟩ | exact ⟨hk.2, hk.1⟩ | (simp_all; done))) hg hat); have n1_ := Aside0.mk (hb); have n2_ := Aside0.mk (ho); clear HO_11; clear HB; clear HO_12; have HO_11 := n0_; have HB := n1_; have HO410 := n2_; clear n0_ n1_ n2_; clear ho hb hg hat))
                   repeat (go_quiet (first | (go_at_call 14; (with_reducible refine (bourneref11_Has.calls k3 _ _ l1 x2_2 x13_3 true _ ?side1 ?side2 A28.out).mono ?_); (case side1 => repeat (first | exact (Kd.C_below HR1.out HB.out) | (with_reducible refine cAl ?_ _) | (with_reducible refine cDn ?_ _) | (with_reducible refine cDr ?_))); (case side2 => exact HC1.out); rintro e w' ⟨rfl, ⟨nd, rfl⟩⟩; (try first | exact ⟨rfl, _, World.drewN_drewN _ _ _⟩ | exact ⟨rfl, _, Eq.trans (World.drewN_drewN _ _ _) (congrArg (World.drewN _) (Nat.add_assoc _ _ _))⟩)) | ((with_reducible refine gate_builtin (b := .append) (xs := #[.tmp 71, .tmp 73]) rfl ?_); at_builtin; refine Kd.R_append (Kd.int .i64) (w0 := w) w.heap.size rfl (.tmp 71) (.tmp 73) 25 3 (.int .i64 0) 8 rfl Try.underlying25 info3 rfl (by decide) (by omega) u12 x12_2 x13_3 [.int .i64 x13_3] (fun k_ => some k_ ≠ (.slice (some ad401) t398.length co19 : Value).ownBlock) (fun _ => False) rfl rfl ?aP (fun _ hk => hk.elim) ?aF ?aO ?aB ?aS ?aL ?_; (case aP => exact rfl); (case aB => exact (by repeat (first | (with_reducible first | exact HB.out | apply bAl | apply bDn | apply bD1) | exact HB.out))); (case aF => exact (fun k_ hk => Kd.fresh' (Kd.R_lt (by (with_reducible repeat (first | apply rAl | apply rDn | apply rDr)); exact HO_11.out)) k_ hk)); (case aO => exact (by (with_reducible repeat (first | apply rAl | apply rDn | apply rDr)); exact HO_12.out)); (case aS => exact (below_size (by repeat (first | (with_reducible first | exact HB.out | apply bAl | apply bDn | apply bD1) | exact HB.out)))); (case aL => have := LMc30.out; omega); intro v409 w31 ho hb hg hat; rw [← Ny408.out] at ho; have n0_ := Aside0.mk (Kd.R_after (ok := (fun _ => True)) (by (with_reducible repeat (first | apply rAl | apply rDn | apply rDr)); exact Kd.R_mono HO_11.out (fun _ hk => by first | exact ⟨trivial, hk⟩ | exact hk | exact ⟨hk.1, hk.2⟩ | exact ⟨hk.2, hk.1⟩ | (simp_all; done))) hg hat); have n1_ := Aside0.mk (hb); have n2_ := Aside0.mk (ho); clear HO_11; clear HB; clear HO_12; have HO_11 := n0_; have HB := n1_; have HO410 := n2_; clear n0_ n1_ n2_; clear ho hb hg hat)); try go_wp2_with (first | (go_at_call 14; (with_reducible refine (bourneref11_Has.calls k3 _ _ l1 x2_2 x13_3 true _ ?side1 ?side2 A28.out).mono ?_); (case side1 => repeat (first | exact (Kd.C_below HR1.out HB.out) | (with_reducible refine cAl ?_ _) | (with_reducible refine cDn ?_ _) | (with_reducible refine cDr ?_))); (case side2 => exact HC1.out); rintro e w' ⟨rfl, ⟨nd, rfl⟩⟩; (try first | exact ⟨rfl, _, World.drewN_drewN _ _ _⟩ | exact ⟨rfl, _, Eq.trans (World.drewN_drewN _ _ _) (congrArg (World.drewN _) (Nat.add_assoc _ _ _))⟩)) | ((with_reducible refine gate_builtin (b := .append) (xs := #[.tmp 71, .tmp 73]) rfl ?_); at_builtin; refine Kd.R_append (Kd.int .i64) (w0 := w) w.heap.size rfl (.tmp 71) (.tmp 73) 25 3 (.int .i64 0) 8 rfl Try.underlying25 info3 rfl (by decide) (by omega) u12 x12_2 x13_3 [.int .i64 x13_3] (fun k_ => some k_ ≠ (.slice (some ad401) t398.length co19 : Value).ownBlock) (fun _ => False) rfl rfl ?aP (fun _ hk => hk.elim) ?aF ?aO ?aB ?aS ?aL ?_; (case aP => exact rfl); (case aB => exact (by repeat (first | (with_reducible first | exact HB.out | apply bAl | apply bDn | apply bD1) | exact HB.out))); (case aF => exact (fun k_ hk => Kd.fresh' (Kd.R_lt (by (with_reducible repeat (first | apply rAl | apply rDn | apply rDr)); exact HO_11.out)) k_ hk)); (case aO => exact (by (with_reducible repeat (first | apply rAl | apply rDn | apply rDr)); exact HO_12.out)); (case aS => exact (below_size (by repeat (first | (with_reducible first | exact HB.out | apply bAl | apply bDn | apply bD1) | exact HB.out)))); (case aL => have := LMc30.out; omega); intro v409 w31 ho hb hg hat; rw [← Ny408.out] at ho; have n0_ := Aside0.mk (Kd.R_after (ok := (fun _ => True)) (by (with_reducible repeat (first | apply rAl | apply rDn | apply rDr)); exact Kd.R_mono HO_11.out (fun _ hk => by first | exact ⟨trivial, hk⟩ | exact hk | exact ⟨hk.1, hk.2⟩ | exact ⟨hk.2, hk.1⟩ | (simp_all; done))) hg hat); have n1_ := Aside0.mk (hb); have n2_ := Aside0.mk (ho); clear HO_11; clear HB; clear HO_12; have HO_11 := n0_; have HB := n1_; have HO410 := n2_; clear n0_ n1_ n2_; clear ho hb hg hat)))
                   go_roundg k3
                   case measure => have := HJ5.out; have := HK2.out; have := HK3.out; omega
                   case rel => exact ⟨(x13_3), (y408), (by first | rfl | (simp; done) | (simp [*]; done)), H', ⟨by have := HJ5.out; have := HK2.out; have := HK3.out; omega⟩, ⟨by (with_reducible repeat (first | apply rAl | apply rDn | apply rDr)); exact Kd.R_mono HO_11.out (fun _ hk => hk.2)⟩, ⟨by (with_reducible repeat (first | apply rAl | apply rDn | apply rDr)); exact HO410.out⟩, ⟨by repeat (first | (with_reducible first | exact HB.out | apply bAl | apply bDn | apply bD1) | exact HB.out)⟩⟩
                  ·rw [if_neg c30] at H; exact absurd H (by simp)
                 ·replace c29 := Bool.eq_false_iff.mpr c29; subst c29; have H1 : (bourneref11_Path.l1 k3 l1 x2_2 a3 t398 x12_2 (wrap64 (x13_3 + 1))) = some (r1, r2) := by rw [if_neg (show ¬ (false = true) by decide)] at H; exact H
                  clear H; have H := H1; clear H1; have H' := Aside0.mk H; clear H; have p405 : 0 ≤ (x13_3 : Int) := odt (by first | (with_reducible assumption) | assumption); have q405 : x13_3 < (t398.length : Int) := odt (by first | (with_reducible assumption) | assumption); obtain ⟨ad405, e405, hx405_0⟩ := Kd.at_int (Kd.R_reads' HO_11.out).2.2 x13_3 p405 q405
                  obtain rfl : ad401 = ad405 := (by injection e405)
                  replace p405 := eq_true p405; replace q405 := eq_true q405; have p406 : 0 ≤ (x2_2 : Int) := odt (by first | (with_reducible assumption) | assumption); have q406 : x2_2 < (t398.length : Int) := odt (by first | (with_reducible assumption) | assumption); obtain ⟨ad406, e406, hx406_0⟩ := Kd.at_int (Kd.R_reads' HO_11.out).2.2 x2_2 p406 q406
                  obtain rfl : ad401 = ad406 := (by injection e406)
                  replace p406 := eq_true p406; replace q406 := eq_true q406; go_wp2_with (first | (go_at_call 14; (with_reducible refine (bourneref11_Has.calls k3 _ _ l1 x2_2 x13_3 false _ ?side1 ?side2 A28.out).mono ?_); (case side1 => repeat (first | exact (Kd.C_below HR1.out HB.out) | (with_reducible refine cAl ?_ _) | (with_reducible refine cDn ?_ _) | (with_reducible refine cDr ?_))); (case side2 => exact HC1.out); rintro e w' ⟨rfl, ⟨nd, rfl⟩⟩; (try first | exact ⟨rfl, _, World.drewN_drewN _ _ _⟩ | exact ⟨rfl, _, Eq.trans (World.drewN_drewN _ _ _) (congrArg (World.drewN _) (Nat.add_assoc _ _ _))⟩)))
                  repeat (go_quiet (first | (go_at_call 14; (with_reducible refine (bourneref11_Has.calls k3 _ _ l1 x2_2 x13_3 false _ ?side1 ?side2 A28.out).mono ?_); (case side1 => repeat (first | exact (Kd.C_below HR1.out HB.out) | (with_reducible refine cAl ?_ _) | (with_reducible refine cDn ?_ _) | (with_reducible refine cDr ?_))); (case side2 => exact HC1.out); rintro e w' ⟨rfl, ⟨nd, rfl⟩⟩; (try first | exact ⟨rfl, _, World.drewN_drewN _ _ _⟩ | exact ⟨rfl, _, Eq.trans (World.drewN_drewN _ _ _) (congrArg (World.drewN _) (Nat.add_assoc _ _ _))⟩))); try go_wp2_with (first | (go_at_call 14; (with_reducible refine (bourneref11_Has.calls k3 _ _ l1 x2_2 x13_3 false _ ?side1 ?side2 A28.out).mono ?_); (case side1 => repeat (first | exact (Kd.C_below HR1.out HB.out) | (with_reducible refine cAl ?_ _) | (with_reducible refine cDn ?_ _) | (with_reducible refine cDr ?_))); (case side2 => exact HC1.out); rintro e w' ⟨rfl, ⟨nd, rfl⟩⟩; (try first | exact ⟨rfl, _, World.drewN_drewN _ _ _⟩ | exact ⟨rfl, _, Eq.trans (World.drewN_drewN _ _ _) (congrArg (World.drewN _) (Nat.add_assoc _ _ _))⟩))))
                  go_roundg k3
                  case measure => have := HJ5.out; have := HK2.out; have := HK3.out; omega
                  case rel => exact ⟨(wrap64 (x13_3 + 1)), (by first | rfl | (simp; done) | (simp [*]; done)), H', ⟨by have := HJ5.out; have := HK2.out; have := HK3.out; omega⟩, ⟨by (with_reducible repeat (first | apply rAl | apply rDn | apply rDr)); exact HO_11.out⟩, ⟨by (with_reducible repeat (first | apply rAl | apply rDn | apply rDr)); exact HO_12.out⟩, ⟨by repeat (first | (with_reducible first | exact HB.out | apply bAl | apply bDn | apply bD1) | exact HB.out)⟩⟩
                ·rw [if_neg c27] at H; have c27b0 : ((rd t398 x13_3) == (wrap64 ((rd t398 x2_2) - 1))) = false := beq_eq_false_iff_ne.mpr c27; have c27b1 : ((rd t398 x13_3) != (wrap64 ((rd t398 x2_2) - 1))) = true := bne_iff_ne.mpr c27; have H' := Aside0.mk H; clear H; have p405 : 0 ≤ (x13_3 : Int) := odt (by first | (with_reducible assumption) | assumption); have q405 : x13_3 < (t398.length : Int) := odt (by first | (with_reducible assumption) | assumption); obtain ⟨ad405, e405, hx405_0⟩ := Kd.at_int (Kd.R_reads' HO_11.out).2.2 x13_3 p405 q405
                 obtain rfl : ad401 = ad405 := (by injection e405)
                 replace p405 := eq_true p405; replace q405 := eq_true q405; have p406 : 0 ≤ (x2_2 : Int) := odt (by first | (with_reducible assumption) | assumption); have q406 : x2_2 < (t398.length : Int) := odt (by first | (with_reducible assumption) | assumption); obtain ⟨ad406, e406, hx406_0⟩ := Kd.at_int (Kd.R_reads' HO_11.out).2.2 x2_2 p406 q406
                 obtain rfl : ad401 = ad406 := (by injection e406)
                 replace p406 := eq_true p406; replace q406 := eq_true q406; go_wp2
                 repeat (go_quiet (fail); try go_wp2)
                 go_roundg k3
                 case measure => have := HJ5.out; have := HK2.out; have := HK3.out; omega
                 case rel => exact ⟨(wrap64 (x13_3 + 1)), (by first | rfl | (simp; done) | (simp [*]; done)), H', ⟨by have := HJ5.out; have := HK2.out; have := HK3.out; omega⟩, ⟨by (with_reducible repeat (first | apply rAl | apply rDn | apply rDr)); exact HO_11.out⟩, ⟨by (with_reducible repeat (first | apply rAl | apply rDn | apply rDr)); exact HO_12.out⟩, ⟨by repeat (first | (with_reducible first | exact HB.out | apply bAl | apply bDn | apply bD1) | exact HB.out)⟩⟩
               ·rw [if_neg c26] at H; exact absurd H (by simp)
              ·rw [if_neg c25] at H; exact absurd H (by simp)
             ·rw [if_neg c24] at H; exact absurd H (by simp)
            ·rw [if_neg c23] at H; exact absurd H (by simp)
     ·rw [if_neg c14] at H; exact absurd H (by simp)
    ·rw [if_neg c13] at H; exact absurd H (by simp)
end Go.Proofs.Ytibnodjlcaodeaa.G
