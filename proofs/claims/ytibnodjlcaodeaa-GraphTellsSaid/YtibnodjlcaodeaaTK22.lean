-- written by gprint.py, a program of this session that drives the kit's printer with functions hooked, and made short; Lean checks every line
import Derived.Test.YtibnodjlcaodeaaTK0
namespace Go.Proofs.Ytibnodjlcaodeaa.G
open Go.RowKit Go.Proofs.YtibnodjlcaodeaaW.PrintWords Go.Proofs.YtibnodjlcaodeaaW.PrintLast Go.Proofs.YtibnodjlcaodeaaW.PrintMore
attribute [local go_sem] max2_int min2_int max_two min_two max_three min_three max_four min_four   -- for this text's walks alone
set_option linter.unusedVariables false
set_option linter.unusedSimpArgs false
/-! ### bourneref11_Right: function 22 -/
mutual
def bourneref11_Right.j0 : Nat → Int → List (S31) → Bool → Option (Bool)
 | 0, _, _, _ => none
 | k + 1, x0, x1, x16 => if x16 = true then (some false) else (bourneref11_Right.l0 k x0 x1 0)
def bourneref11_Right.l0 : Nat → Int → List (S31) → Int → Option (Bool)
 | 0, _, _, _ => none
 | k + 1, x0, x1, x5 => if x5 < (x1.length : Int) then (if 0 ≤ x5 then (if ((rd_T31 x1 x5).f0) < 0 then (some false) else (if ((rd_T31 x1 x5).f0) ≥ x0 then (some false) else (if ((rd_T31 x1 x5).f1) < 0 then (some false) else (if ((rd_T31 x1 x5).f1) ≥ x0 then (some false) else (bourneref11_Right.l0 k x0 x1 (wrap64 (x5 + 1))))))) else (none)) else (some true)
end
def bourneref11_Right.f (k : Nat) (a0 : Int) (l1 : List (S31)) : Option (Bool) := if a0 < 0 then (bourneref11_Right.j0 k a0 l1 true) else (if a0 > 256 then (bourneref11_Right.j0 k a0 l1 true) else (bourneref11_Right.j0 k a0 l1 (decide ((l1.length : Int) > 4096))))
theorem bourneref11_Right.mono_l : ∀ k, (∀ y0 y1 y2, LeO (bourneref11_Right.j0 k y0 y1 y2) (bourneref11_Right.j0 (k + 1) y0 y1 y2)) ∧ (∀ y0 y1 y2, LeO (bourneref11_Right.l0 k y0 y1 y2) (bourneref11_Right.l0 (k + 1) y0 y1 y2))
 | 0 => ⟨fun _ _ _ r h => by simp [bourneref11_Right.j0] at h, fun _ _ _ r h => by simp [bourneref11_Right.l0] at h⟩
 | k + 1 => by
  obtain ⟨ih0, ih1⟩ := bourneref11_Right.mono_l k
  refine ⟨?_, ?_⟩
  ·intro y0 y1 y2
   unfold bourneref11_Right.j0
   repeat' first
   | (with_reducible exact ih0 _ _ _)
   | (with_reducible exact ih1 _ _ _)
   | (with_reducible exact LeO.refl _)
   | (with_reducible exact LeO.none _)
   | (with_reducible refine LeO.ite ?_ ?_)
   | (with_reducible refine LeO.bind ?_ (fun _ => ?_))
   | exact ih0 _ _ _
   | exact ih1 _ _ _
   | exact LeO.none _
   | refine LeO.ite ?_ ?_
   | refine LeO.bind ?_ (fun _ => ?_)
  ·intro y0 y1 y2
   unfold bourneref11_Right.l0
   repeat' first
   | (with_reducible exact ih0 _ _ _)
   | (with_reducible exact ih1 _ _ _)
   | (with_reducible exact LeO.refl _)
   | (with_reducible exact LeO.none _)
   | (with_reducible refine LeO.ite ?_ ?_)
   | (with_reducible refine LeO.bind ?_ (fun _ => ?_))
   | exact ih0 _ _ _
   | exact ih1 _ _ _
   | exact LeO.none _
   | refine LeO.ite ?_ ?_
   | refine LeO.bind ?_ (fun _ => ?_)
theorem bourneref11_Right.mono : ∀ a0 a1 k, LeO (bourneref11_Right.f k a0 a1) (bourneref11_Right.f (k + 1) a0 a1) := by
 intro a0 a1 k
 obtain ⟨ih0, ih1⟩ := bourneref11_Right.mono_l k
 unfold bourneref11_Right.f
 repeat' first
   | (with_reducible exact ih0 _ _ _)
   | (with_reducible exact ih1 _ _ _)
   | (with_reducible exact LeO.refl _)
   | (with_reducible exact LeO.none _)
   | (with_reducible refine LeO.ite ?_ ?_)
   | (with_reducible refine LeO.bind ?_ (fun _ => ?_))
   | exact ih0 _ _ _
   | exact ih1 _ _ _
   | exact LeO.none _
   | refine LeO.ite ?_ ?_
   | refine LeO.bind ?_ (fun _ => ?_)
set_option maxHeartbeats 8000000 in
set_option maxRecDepth 100000 in
theorem bourneref11_Right.calls (k : Nat) (a0 : Int) (A1 : Option Addr) (c1 : Nat) (l1 : List (S31)) (r : Bool) (w : World) (hr1 : Kd.C k31 w A1 l1.length l1) (hc1 : l1.length ≤ c1) (h : bourneref11_Right.f k a0 l1 = some r) :
  Calls Try.prog 22 #[.int .i64 a0, .slice A1 l1.length c1] w fun e w' => e = .returned (.bool r) ∧ Drawn0 w w' := by
 have HR1 := Aside0.mk hr1; have HC1 := Aside0.mk hc1; clear hr1 hc1; have H : (if a0 < 0 then (bourneref11_Right.j0 k a0 l1 true) else (if a0 > 256 then (bourneref11_Right.j0 k a0 l1 true) else (bourneref11_Right.j0 k a0 l1 (decide ((l1.length : Int) > 4096))))) = some r := h
 clear h; have HC3 := Aside0.mk H; clear H; go_enter Try.func22, Try.ntmps22
 go_upto_region 1 with (fail)
 go_cut [16] (fun v16 wc => ∃ (kq : Nat) (x16_2 : Bool), v16 = .bool x16_2 ∧ Aside0 (bourneref11_Right.j0 kq a0 l1 x16_2 = some r) ∧ Aside0 (kq ≤ k) ∧ Drawn0 w wc)
 case first =>
  have H := HC3.out; clear HC3; by_cases c4 : a0 < 0
  ·rw [if_pos c4] at H; have c4b0 : decide (a0 < 0) = true := decide_eq_true c4; clear c4; (first | rw [c4b0] | (simp only [i64_w, i32_w]; rw [c4b0]) | skip)
   have H' := Aside0.mk H; clear H; go_wp2
   go_meet
   case rel => exact ⟨_, (true), (by first | rfl | (simp; done) | (simp [*]; done)), H', ⟨by first | omega | exact Nat.le_refl _⟩, by repeat (first | exact Drawn0.refl _ | apply Drawn0.step)⟩
  ·rw [if_neg c4] at H; have c4b0 : decide (a0 < 0) = false := decide_eq_false c4; clear c4; (first | rw [c4b0] | (simp only [i64_w, i32_w]; rw [c4b0]) | skip)
   by_cases c5 : a0 > 256
   ·rw [if_pos c5] at H; have c5b0 : decide (256 < a0) = true := decide_eq_true c5; clear c5; have H' := Aside0.mk H; clear H; go_wp2
    go_meet
    case rel => exact ⟨_, (true), (by first | rfl | (simp; done) | (simp [*]; done)), H', ⟨by first | omega | exact Nat.le_refl _⟩, by repeat (first | exact Drawn0.refl _ | apply Drawn0.step)⟩
   ·rw [if_neg c5] at H; have c5b0 : decide (256 < a0) = false := decide_eq_false c5; clear c5; have H' := Aside0.mk H; clear H; go_wp2
    go_meet
    case rel => exact ⟨_, (decide ((l1.length : Int) > 4096)), (by first | rfl | (simp; done) | (simp [*]; done)), H', ⟨by first | omega | exact Nat.le_refl _⟩, by repeat (first | exact Drawn0.refl _ | apply Drawn0.step)⟩
 case rest =>
  clear HC3; (try clear c1); (try clear c2); (try clear p2); (try clear c4); (try clear c4b0); (try clear c5); (try clear c5b0); obtain ⟨kq, x16_2, rfl, HA, HJ2, ⟨mc2, rfl⟩⟩ := hcut
  cases kq with
  | zero => exact absurd HA.out (by simp [bourneref11_Right.j0])
  | succ kj2 =>
   have H := HA.out; clear HA; simp only [bourneref11_Right.j0] at H; by_cases c6 : x16_2 = true
   ·subst c6; have H1 : (some false) = some r := by rw [if_pos rfl] at H; exact H
    clear H; have H := H1; clear H1; obtain rfl := Option.some.inj H; go_wp2
    go_ret
    exact ⟨by first | rfl | (simp; done) | (simp [*]; done), by repeat (first | exact Drawn0.refl _ | apply Drawn0.step)⟩
   ·replace c6 := Bool.eq_false_iff.mpr c6; subst c6; have H1 : (bourneref11_Right.l0 kj2 a0 l1 0) = some r := by rw [if_neg (show ¬ (false = true) by decide)] at H; exact H
    clear H; have H := H1; clear H1; have H' := Aside0.mk H; clear H; go_wp2
    go_loopg [5] kj2 (fun kq v5 w' => ∃ (x5_2 : Int), v5 = .int .i64 x5_2 ∧ Aside0 (bourneref11_Right.l0 kq a0 l1 x5_2 = some r) ∧ Aside0 (kq ≤ kj2) ∧ Drawn0 w w')
    case atStart => exact ⟨(0), (by first | rfl | (simp; done) | (simp [*]; done)), H', ⟨Nat.le_refl _⟩, by repeat (first | exact Drawn0.refl _ | apply Drawn0.step)⟩
    case round =>
     clear H'; (try clear c1); (try clear c2); (try clear p2); (try clear c4); (try clear c4b0); (try clear c5); (try clear c5b0); (try clear c6); (try clear p2); obtain ⟨x5_2, rfl, HA, HK2, ⟨m2, rfl⟩⟩ := hrel
     cases gk with
     | zero => exact absurd HA.out (by simp [bourneref11_Right.l0])
     | succ k2 =>
      have H := HA.out; clear HA; simp only [bourneref11_Right.l0] at H; by_cases c7 : x5_2 < (l1.length : Int)
      ·rw [if_pos c7] at H; have c7b0 : decide (x5_2 < (l1.length : Int)) = true := decide_eq_true c7; clear c7; by_cases c8 : 0 ≤ x5_2
       ·rw [if_pos c8] at H; have c8b0 : decide (0 ≤ x5_2) = true := decide_eq_true c8; clear c8; by_cases c9 : ((rd_T31 l1 x5_2).f0) < 0
        ·rw [if_pos c9] at H; have c9b0 : decide (((rd_T31 l1 x5_2).f0) < 0) = true := decide_eq_true c9; clear c9; obtain rfl := Option.some.inj H; have p356 : 0 ≤ (x5_2 : Int) := odt (by first | (with_reducible assumption) | assumption); have q356 : x5_2 < (l1.length : Int) := odt (by first | (with_reducible assumption) | assumption); obtain ⟨ad356, e356, hx356_0, hx356_1⟩ := at_T31 HR1.out x5_2 p356 q356
         cases e356; replace p356 := eq_true p356; replace q356 := eq_true q356; go_wp2
         go_ret
         exact ⟨by first | rfl | (simp; done) | (simp [*]; done), by repeat (first | exact Drawn0.refl _ | apply Drawn0.step)⟩
        ·rw [if_neg c9] at H; have c9b0 : decide (((rd_T31 l1 x5_2).f0) < 0) = false := decide_eq_false c9; clear c9; by_cases c10 : ((rd_T31 l1 x5_2).f0) ≥ a0
         ·rw [if_pos c10] at H; have c10b0 : decide (a0 ≤ ((rd_T31 l1 x5_2).f0)) = true := decide_eq_true c10; clear c10; obtain rfl := Option.some.inj H; have p356 : 0 ≤ (x5_2 : Int) := odt (by first | (with_reducible assumption) | assumption); have q356 : x5_2 < (l1.length : Int) := odt (by first | (with_reducible assumption) | assumption); obtain ⟨ad356, e356, hx356_0, hx356_1⟩ := at_T31 HR1.out x5_2 p356 q356
          cases e356; replace p356 := eq_true p356; replace q356 := eq_true q356; have p357 : 0 ≤ (x5_2 : Int) := odt (by first | (with_reducible assumption) | assumption); have q357 : x5_2 < (l1.length : Int) := odt (by first | (with_reducible assumption) | assumption); obtain ⟨ad357, e357, hx357_0, hx357_1⟩ := at_T31 HR1.out x5_2 p357 q357
          obtain rfl : ad356 = ad357 := (by injection e357)
          replace p357 := eq_true p357; replace q357 := eq_true q357; go_wp2
          go_ret
          exact ⟨by first | rfl | (simp; done) | (simp [*]; done), by repeat (first | exact Drawn0.refl _ | apply Drawn0.step)⟩
         ·rw [if_neg c10] at H; have c10b0 : decide (a0 ≤ ((rd_T31 l1 x5_2).f0)) = false := decide_eq_false c10; clear c10; by_cases c11 : ((rd_T31 l1 x5_2).f1) < 0
          ·rw [if_pos c11] at H; have c11b0 : decide (((rd_T31 l1 x5_2).f1) < 0) = true := decide_eq_true c11; clear c11; obtain rfl := Option.some.inj H; have p356 : 0 ≤ (x5_2 : Int) := odt (by first | (with_reducible assumption) | assumption); have q356 : x5_2 < (l1.length : Int) := odt (by first | (with_reducible assumption) | assumption); obtain ⟨ad356, e356, hx356_0, hx356_1⟩ := at_T31 HR1.out x5_2 p356 q356
           cases e356; replace p356 := eq_true p356; replace q356 := eq_true q356; have p357 : 0 ≤ (x5_2 : Int) := odt (by first | (with_reducible assumption) | assumption); have q357 : x5_2 < (l1.length : Int) := odt (by first | (with_reducible assumption) | assumption); obtain ⟨ad357, e357, hx357_0, hx357_1⟩ := at_T31 HR1.out x5_2 p357 q357
           obtain rfl : ad356 = ad357 := (by injection e357)
           replace p357 := eq_true p357; replace q357 := eq_true q357; have p358 : 0 ≤ (x5_2 : Int) := odt (by first | (with_reducible assumption) | assumption); have q358 : x5_2 < (l1.length : Int) := odt (by first | (with_reducible assumption) | assumption); obtain ⟨ad358, e358, hx358_0, hx358_1⟩ := at_T31 HR1.out x5_2 p358 q358
           obtain rfl : ad356 = ad358 := (by injection e358)
           replace p358 := eq_true p358; replace q358 := eq_true q358; go_wp2
           go_ret
           exact ⟨by first | rfl | (simp; done) | (simp [*]; done), by repeat (first | exact Drawn0.refl _ | apply Drawn0.step)⟩
          ·rw [if_neg c11] at H; have c11b0 : decide (((rd_T31 l1 x5_2).f1) < 0) = false := decide_eq_false c11; clear c11; by_cases c12 : ((rd_T31 l1 x5_2).f1) ≥ a0
           ·rw [if_pos c12] at H; have c12b0 : decide (a0 ≤ ((rd_T31 l1 x5_2).f1)) = true := decide_eq_true c12; clear c12; obtain rfl := Option.some.inj H; have p356 : 0 ≤ (x5_2 : Int) := odt (by first | (with_reducible assumption) | assumption); have q356 : x5_2 < (l1.length : Int) := odt (by first | (with_reducible assumption) | assumption); obtain ⟨ad356, e356, hx356_0, hx356_1⟩ := at_T31 HR1.out x5_2 p356 q356
            cases e356; replace p356 := eq_true p356; replace q356 := eq_true q356; have p357 : 0 ≤ (x5_2 : Int) := odt (by first | (with_reducible assumption) | assumption); have q357 : x5_2 < (l1.length : Int) := odt (by first | (with_reducible assumption) | assumption); obtain ⟨ad357, e357, hx357_0, hx357_1⟩ := at_T31 HR1.out x5_2 p357 q357
            obtain rfl : ad356 = ad357 := (by injection e357)
            replace p357 := eq_true p357; replace q357 := eq_true q357; have p358 : 0 ≤ (x5_2 : Int) := odt (by first | (with_reducible assumption) | assumption); have q358 : x5_2 < (l1.length : Int) := odt (by first | (with_reducible assumption) | assumption); obtain ⟨ad358, e358, hx358_0, hx358_1⟩ := at_T31 HR1.out x5_2 p358 q358
            obtain rfl : ad356 = ad358 := (by injection e358)
            replace p358 := eq_true p358; replace q358 := eq_true q358; have p359 : 0 ≤ (x5_2 : Int) := odt (by first | (with_reducible assumption) | assumption); have q359 : x5_2 < (l1.length : Int) := odt (by first | (with_reducible assumption) | assumption); obtain ⟨ad359, e359, hx359_0, hx359_1⟩ := at_T31 HR1.out x5_2 p359 q359
            obtain rfl : ad356 = ad359 := (by injection e359)
            replace p359 := eq_true p359; replace q359 := eq_true q359; go_wp2
            go_ret
            exact ⟨by first | rfl | (simp; done) | (simp [*]; done), by repeat (first | exact Drawn0.refl _ | apply Drawn0.step)⟩
           ·rw [if_neg c12] at H; have c12b0 : decide (a0 ≤ ((rd_T31 l1 x5_2).f1)) = false := decide_eq_false c12; clear c12; have H' := Aside0.mk H; clear H; have p356 : 0 ≤ (x5_2 : Int) := odt (by first | (with_reducible assumption) | assumption); have q356 : x5_2 < (l1.length : Int) := odt (by first | (with_reducible assumption) | assumption); obtain ⟨ad356, e356, hx356_0, hx356_1⟩ := at_T31 HR1.out x5_2 p356 q356
            cases e356; replace p356 := eq_true p356; replace q356 := eq_true q356; have p357 : 0 ≤ (x5_2 : Int) := odt (by first | (with_reducible assumption) | assumption); have q357 : x5_2 < (l1.length : Int) := odt (by first | (with_reducible assumption) | assumption); obtain ⟨ad357, e357, hx357_0, hx357_1⟩ := at_T31 HR1.out x5_2 p357 q357
            obtain rfl : ad356 = ad357 := (by injection e357)
            replace p357 := eq_true p357; replace q357 := eq_true q357; have p358 : 0 ≤ (x5_2 : Int) := odt (by first | (with_reducible assumption) | assumption); have q358 : x5_2 < (l1.length : Int) := odt (by first | (with_reducible assumption) | assumption); obtain ⟨ad358, e358, hx358_0, hx358_1⟩ := at_T31 HR1.out x5_2 p358 q358
            obtain rfl : ad356 = ad358 := (by injection e358)
            replace p358 := eq_true p358; replace q358 := eq_true q358; have p359 : 0 ≤ (x5_2 : Int) := odt (by first | (with_reducible assumption) | assumption); have q359 : x5_2 < (l1.length : Int) := odt (by first | (with_reducible assumption) | assumption); obtain ⟨ad359, e359, hx359_0, hx359_1⟩ := at_T31 HR1.out x5_2 p359 q359
            obtain rfl : ad356 = ad359 := (by injection e359)
            replace p359 := eq_true p359; replace q359 := eq_true q359; go_wp2
            go_roundg k2
            case measure => have := HJ2.out; have := HK2.out; omega
            case rel => exact ⟨(wrap64 (x5_2 + 1)), (by first | rfl | (simp; done) | (simp [*]; done)), H', ⟨by have := HJ2.out; have := HK2.out; omega⟩, by repeat (first | exact Drawn0.refl _ | apply Drawn0.step)⟩
       ·rw [if_neg c8] at H; exact absurd H (by simp)
      ·rw [if_neg c7] at H; have c7b0 : decide (x5_2 < (l1.length : Int)) = false := decide_eq_false c7; clear c7; obtain rfl := Option.some.inj H; go_wp2
       go_ret
       exact ⟨by first | rfl | (simp; done) | (simp [*]; done), by repeat (first | exact Drawn0.refl _ | apply Drawn0.step)⟩
end Go.Proofs.Ytibnodjlcaodeaa.G
