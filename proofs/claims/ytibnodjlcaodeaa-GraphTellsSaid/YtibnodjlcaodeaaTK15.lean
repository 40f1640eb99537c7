-- written by gprint.py, a program of this session that drives the kit's printer with functions hooked, and made short; Lean checks every line
import Derived.Test.YtibnodjlcaodeaaTK0
namespace Go.Proofs.Ytibnodjlcaodeaa.G
open Go.RowKit Go.Proofs.YtibnodjlcaodeaaW.PrintWords Go.Proofs.YtibnodjlcaodeaaW.PrintLast Go.Proofs.YtibnodjlcaodeaaW.PrintMore
attribute [local go_sem] max2_int min2_int max_two min_two max_three min_three max_four min_four   -- for this text's walks alone
set_option linter.unusedVariables false
set_option linter.unusedSimpArgs false
/-! ### bourneref11_Has: function 14 -/
def bourneref11_Has.l0 : Nat → List (S31) → Int → Int → Int → Option (Bool)
 | 0, _, _, _, _ => none
 | k + 1, x0, x1, x2, x7 => if x7 < (x0.length : Int) then (if 0 ≤ x7 then (if ((rd_T31 x0 x7).f0) = x1 then (if ((rd_T31 x0 x7).f1) = x2 then (some true) else (bourneref11_Has.l0 k x0 x1 x2 (wrap64 (x7 + 1)))) else (bourneref11_Has.l0 k x0 x1 x2 (wrap64 (x7 + 1)))) else (none)) else (some false)
def bourneref11_Has.f (k : Nat) (l0 : List (S31)) (a1 : Int) (a2 : Int) : Option (Bool) := bourneref11_Has.l0 k l0 a1 a2 0
theorem bourneref11_Has.mono_l : ∀ k, (∀ y0 y1 y2 y3, LeO (bourneref11_Has.l0 k y0 y1 y2 y3) (bourneref11_Has.l0 (k + 1) y0 y1 y2 y3))
 | 0 => fun _ _ _ _ r h => by simp [bourneref11_Has.l0] at h
 | k + 1 => by
  have ih0 := bourneref11_Has.mono_l k
  ·intro y0 y1 y2 y3
   unfold bourneref11_Has.l0
   repeat' first
   | (with_reducible exact ih0 _ _ _ _)
   | (with_reducible exact LeO.refl _)
   | (with_reducible exact LeO.none _)
   | (with_reducible refine LeO.ite ?_ ?_)
   | (with_reducible refine LeO.bind ?_ (fun _ => ?_))
   | exact ih0 _ _ _ _
   | exact LeO.none _
   | refine LeO.ite ?_ ?_
   | refine LeO.bind ?_ (fun _ => ?_)
theorem bourneref11_Has.mono : ∀ a0 a1 a2 k, LeO (bourneref11_Has.f k a0 a1 a2) (bourneref11_Has.f (k + 1) a0 a1 a2) := by
 intro a0 a1 a2 k
 have ih0 := bourneref11_Has.mono_l k
 unfold bourneref11_Has.f
 repeat' first
   | (with_reducible exact ih0 _ _ _ _)
   | (with_reducible exact LeO.refl _)
   | (with_reducible exact LeO.none _)
   | (with_reducible refine LeO.ite ?_ ?_)
   | (with_reducible refine LeO.bind ?_ (fun _ => ?_))
   | exact ih0 _ _ _ _
   | exact LeO.none _
   | refine LeO.ite ?_ ?_
   | refine LeO.bind ?_ (fun _ => ?_)
set_option maxHeartbeats 8000000 in
set_option maxRecDepth 100000 in
theorem bourneref11_Has.calls (k : Nat) (A0 : Option Addr) (c0 : Nat) (l0 : List (S31)) (a1 : Int) (a2 : Int) (r : Bool) (w : World) (hr0 : Kd.C k31 w A0 l0.length l0) (hc0 : l0.length ≤ c0) (h : bourneref11_Has.f k l0 a1 a2 = some r) :
  Calls Try.prog 14 #[.slice A0 l0.length c0, .int .i64 a1, .int .i64 a2] w fun e w' => e = .returned (.bool r) ∧ Drawn0 w w' := by
 have HR0 := Aside0.mk hr0; have HC0 := Aside0.mk hc0; clear hr0 hc0; have H : (bourneref11_Has.l0 k l0 a1 a2 0) = some r := h
 clear h; have H' := Aside0.mk H; clear H; go_enter Try.func14, Try.ntmps14
 go_wp2
 go_loopg [7] k (fun kq v7 w' => ∃ (x7_1 : Int), v7 = .int .i64 x7_1 ∧ Aside0 (bourneref11_Has.l0 kq l0 a1 a2 x7_1 = some r) ∧ Aside0 (kq ≤ k) ∧ Drawn0 w w')
 case atStart => exact ⟨(0), (by first | rfl | (simp; done) | (simp [*]; done)), H', ⟨Nat.le_refl _⟩, by repeat (first | exact Drawn0.refl _ | apply Drawn0.step)⟩
 case round =>
  clear H'; (try clear c1); (try clear p2); obtain ⟨x7_1, rfl, HA, HK1, ⟨m1, rfl⟩⟩ := hrel
  cases gk with
  | zero => exact absurd HA.out (by simp [bourneref11_Has.l0])
  | succ k1 =>
   have H := HA.out; clear HA; simp only [bourneref11_Has.l0] at H; by_cases c4 : x7_1 < (l0.length : Int)
   ·rw [if_pos c4] at H; have c4b0 : decide (x7_1 < (l0.length : Int)) = true := decide_eq_true c4; clear c4; by_cases c5 : 0 ≤ x7_1
    ·rw [if_pos c5] at H; have c5b0 : decide (0 ≤ x7_1) = true := decide_eq_true c5; clear c5; by_cases c6 : ((rd_T31 l0 x7_1).f0) = a1
     ·rw [if_pos c6] at H; have c6b0 : (((rd_T31 l0 x7_1).f0) == a1) = true := beq_iff_eq.mpr c6; have c6b1 : (((rd_T31 l0 x7_1).f0) != a1) = false := bne_eq_false_iff_eq.mpr c6; clear c6; by_cases c7 : ((rd_T31 l0 x7_1).f1) = a2
      ·rw [if_pos c7] at H; have c7b0 : (((rd_T31 l0 x7_1).f1) == a2) = true := beq_iff_eq.mpr c7; have c7b1 : (((rd_T31 l0 x7_1).f1) != a2) = false := bne_eq_false_iff_eq.mpr c7; clear c7; obtain rfl := Option.some.inj H; have p254 : 0 ≤ (x7_1 : Int) := odt (by first | (with_reducible assumption) | assumption); have q254 : x7_1 < (l0.length : Int) := odt (by first | (with_reducible assumption) | assumption); obtain ⟨ad254, e254, hx254_0, hx254_1⟩ := at_T31 HR0.out x7_1 p254 q254
       cases e254; replace p254 := eq_true p254; replace q254 := eq_true q254; have p255 : 0 ≤ (x7_1 : Int) := odt (by first | (with_reducible assumption) | assumption); have q255 : x7_1 < (l0.length : Int) := odt (by first | (with_reducible assumption) | assumption); obtain ⟨ad255, e255, hx255_0, hx255_1⟩ := at_T31 HR0.out x7_1 p255 q255
       obtain rfl : ad254 = ad255 := (by injection e255)
       replace p255 := eq_true p255; replace q255 := eq_true q255; go_wp2
       go_ret
       exact ⟨by first | rfl | (simp; done) | (simp [*]; done), by repeat (first | exact Drawn0.refl _ | apply Drawn0.step)⟩
      ·rw [if_neg c7] at H; have c7b0 : (((rd_T31 l0 x7_1).f1) == a2) = false := beq_eq_false_iff_ne.mpr c7; have c7b1 : (((rd_T31 l0 x7_1).f1) != a2) = true := bne_iff_ne.mpr c7; have H' := Aside0.mk H; clear H; have p254 : 0 ≤ (x7_1 : Int) := odt (by first | (with_reducible assumption) | assumption); have q254 : x7_1 < (l0.length : Int) := odt (by first | (with_reducible assumption) | assumption); obtain ⟨ad254, e254, hx254_0, hx254_1⟩ := at_T31 HR0.out x7_1 p254 q254
       cases e254; replace p254 := eq_true p254; replace q254 := eq_true q254; have p255 : 0 ≤ (x7_1 : Int) := odt (by first | (with_reducible assumption) | assumption); have q255 : x7_1 < (l0.length : Int) := odt (by first | (with_reducible assumption) | assumption); obtain ⟨ad255, e255, hx255_0, hx255_1⟩ := at_T31 HR0.out x7_1 p255 q255
       obtain rfl : ad254 = ad255 := (by injection e255)
       replace p255 := eq_true p255; replace q255 := eq_true q255; go_wp2
       go_roundg k1
       case measure => have := HK1.out; omega
       case rel => exact ⟨(wrap64 (x7_1 + 1)), (by first | rfl | (simp; done) | (simp [*]; done)), H', ⟨by have := HK1.out; omega⟩, by repeat (first | exact Drawn0.refl _ | apply Drawn0.step)⟩
     ·rw [if_neg c6] at H; have c6b0 : (((rd_T31 l0 x7_1).f0) == a1) = false := beq_eq_false_iff_ne.mpr c6; have c6b1 : (((rd_T31 l0 x7_1).f0) != a1) = true := bne_iff_ne.mpr c6; have H' := Aside0.mk H; clear H; have p254 : 0 ≤ (x7_1 : Int) := odt (by first | (with_reducible assumption) | assumption); have q254 : x7_1 < (l0.length : Int) := odt (by first | (with_reducible assumption) | assumption); obtain ⟨ad254, e254, hx254_0, hx254_1⟩ := at_T31 HR0.out x7_1 p254 q254
      cases e254; replace p254 := eq_true p254; replace q254 := eq_true q254; go_wp2
      go_roundg k1
      case measure => have := HK1.out; omega
      case rel => exact ⟨(wrap64 (x7_1 + 1)), (by first | rfl | (simp; done) | (simp [*]; done)), H', ⟨by have := HK1.out; omega⟩, by repeat (first | exact Drawn0.refl _ | apply Drawn0.step)⟩
    ·rw [if_neg c5] at H; exact absurd H (by simp)
   ·rw [if_neg c4] at H; have c4b0 : decide (x7_1 < (l0.length : Int)) = false := decide_eq_false c4; clear c4; obtain rfl := Option.some.inj H; go_wp2
    go_ret
    exact ⟨by first | rfl | (simp; done) | (simp [*]; done), by repeat (first | exact Drawn0.refl _ | apply Drawn0.step)⟩
end Go.Proofs.Ytibnodjlcaodeaa.G
