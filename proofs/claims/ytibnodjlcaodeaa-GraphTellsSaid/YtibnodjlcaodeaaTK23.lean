-- written by gprint.py, a program of this session that drives the kit's printer with functions hooked, and made short; Lean checks every line
import Derived.Test.YtibnodjlcaodeaaTK0
import Derived.Test.YtibnodjlcaodeaaTK22
namespace Go.Proofs.Ytibnodjlcaodeaa.G
open Go.RowKit Go.Proofs.YtibnodjlcaodeaaW.PrintWords Go.Proofs.YtibnodjlcaodeaaW.PrintLast Go.Proofs.YtibnodjlcaodeaaW.PrintMore
attribute [local go_sem] max2_int min2_int max_two min_two max_three min_three max_four min_four   -- for this text's walks alone
set_option linter.unusedVariables false
set_option linter.unusedSimpArgs false
/-! ### bourneref11_Order: function 20 -/
mutual
def bourneref11_Order.l0 : Nat → Int → List (S31) → List Bool → List Int → Option (List Int × Bool)
 | 0, _, _, _, _ => none
 | k + 1, x0, x1, x7, x8 => if (x8.length : Int) < x0 then (if 0 ≤ x0 then (if (x0 : Int).toNat ≤ 281474976710656 then (bourneref11_Order.l1 k x0 x1 x7 x8 (List.replicate (x0 : Int).toNat false) 0) else (none)) else (none)) else (some (x8, true))
def bourneref11_Order.l1 : Nat → Int → List (S31) → List Bool → List Int → List Bool → Int → Option (List Int × Bool)
 | 0, _, _, _, _, _, _ => none
 | k + 1, x0, x1, x7, x8, x9, x10 => if x10 < x0 then (if 0 ≤ x10 then (if x10 < (x7.length : Int) then (if x10 < (x9.length : Int) then (bourneref11_Order.l1 k x0 x1 x7 x8 (x9.set (x10 : Int).toNat (!(rdOf false x7 x10))) (wrap64 (x10 + 1))) else (none)) else (none)) else (none)) else (bourneref11_Order.l2 k x0 x1 x7 x8 x9 0)
def bourneref11_Order.l2 : Nat → Int → List (S31) → List Bool → List Int → List Bool → Int → Option (List Int × Bool)
 | 0, _, _, _, _, _, _ => none
 | k + 1, x0, x1, x7, x8, x9, x11 => if x11 < (x1.length : Int) then (if 0 ≤ x11 then (if 0 ≤ ((rd_T31 x1 x11).f0) then (if ((rd_T31 x1 x11).f0) < (x7.length : Int) then (if (rdOf false x7 ((rd_T31 x1 x11).f0) = true) then (bourneref11_Order.l2 k x0 x1 x7 x8 x9 (wrap64 (x11 + 1))) else (if 0 ≤ ((rd_T31 x1 x11).f1) then (if ((rd_T31 x1 x11).f1) < (x9.length : Int) then (bourneref11_Order.l2 k x0 x1 x7 x8 (x9.set (((rd_T31 x1 x11).f1) : Int).toNat false) (wrap64 (x11 + 1))) else (none)) else (none))) else (none)) else (none)) else (none)) else (bourneref11_Order.l3 k x0 x1 x7 x8 x9 0)
def bourneref11_Order.l3 : Nat → Int → List (S31) → List Bool → List Int → List Bool → Int → Option (List Int × Bool)
 | 0, _, _, _, _, _, _ => none
 | k + 1, x0, x1, x7, x8, x9, x12 => if x12 < x0 then (if 0 ≤ x12 then (if x12 < (x9.length : Int) then (if rdOf false x9 x12 = true then (if x12 = x0 then (some (([] : List Int), false)) else (if x12 < (x7.length : Int) then (if x8.length < 17592186044416 then (bourneref11_Order.l0 k x0 x1 (x7.set (x12 : Int).toNat true) (x8 ++ [x12])) else (none)) else (none))) else (bourneref11_Order.l3 k x0 x1 x7 x8 x9 (wrap64 (x12 + 1)))) else (none)) else (none)) else (if x12 = x0 then (some (([] : List Int), false)) else (if 0 ≤ x12 then (if x12 < (x7.length : Int) then (if x8.length < 17592186044416 then (bourneref11_Order.l0 k x0 x1 (x7.set (x12 : Int).toNat true) (x8 ++ [x12])) else (none)) else (none)) else (none)))
end
def bourneref11_Order.f (k : Nat) (a0 : Int) (l1 : List (S31)) : Option (List Int × Bool) := (bourneref11_Right.f k a0 l1).bind fun t360 => (if t360 = true then (if 0 ≤ a0 then (if (a0 : Int).toNat ≤ 281474976710656 then (bourneref11_Order.l0 k a0 l1 (List.replicate (a0 : Int).toNat false) ([] : List Int)) else (none)) else (none)) else (some (([] : List Int), false)))
theorem bourneref11_Order.mono_l : ∀ k, (∀ y0 y1 y2 y3, LeO (bourneref11_Order.l0 k y0 y1 y2 y3) (bourneref11_Order.l0 (k + 1) y0 y1 y2 y3)) ∧ (∀ y0 y1 y2 y3 y4 y5, LeO (bourneref11_Order.l1 k y0 y1 y2 y3 y4 y5) (bourneref11_Order.l1 (k + 1) y0 y1 y2 y3 y4 y5)) ∧ (∀ y0 y1 y2 y3 y4 y5, LeO (bourneref11_Order.l2 k y0 y1 y2 y3 y4 y5) (bourneref11_Order.l2 (k + 1) y0 y1 y2 y3 y4 y5)) ∧ (∀ y0 y1 y2 y3 y4 y5, LeO (bourneref11_Order.l3 k y0 y1 y2 y3 y4 y5) (bourneref11_Order.l3 (k + 1) y0 y1 y2 y3 y4 y5))
 | 0 => ⟨fun _ _ _ _ r h => by simp [bourneref11_Order.l0] at h, fun _ _ _ _ _ _ r h => by simp [bourneref11_Order.l1] at h, fun _ _ _ _ _ _ r h => by simp [bourneref11_Order.l2] at h, fun _ _ _ _ _ _ r h => by simp [bourneref11_Order.l3] at h⟩
 | k + 1 => by
  obtain ⟨ih0, ih1, ih2, ih3⟩ := bourneref11_Order.mono_l k
  refine ⟨?_, ?_, ?_, ?_⟩
  ·intro y0 y1 y2 y3
   unfold bourneref11_Order.l0
   repeat' first
   | (with_reducible exact ih0 _ _ _ _)
   | (with_reducible exact ih1 _ _ _ _ _ _)
   | (with_reducible exact ih2 _ _ _ _ _ _)
   | (with_reducible exact ih3 _ _ _ _ _ _)
   | (with_reducible exact bourneref11_Right.mono _ _ _)
   | (with_reducible exact LeO.refl _)
   | (with_reducible exact LeO.none _)
   | (with_reducible refine LeO.ite ?_ ?_)
   | (with_reducible refine LeO.bind ?_ (fun _ => ?_))
   | exact ih0 _ _ _ _
   | exact ih1 _ _ _ _ _ _
   | exact ih2 _ _ _ _ _ _
   | exact ih3 _ _ _ _ _ _
   | exact bourneref11_Right.mono _ _ _
   | exact LeO.none _
   | refine LeO.ite ?_ ?_
   | refine LeO.bind ?_ (fun _ => ?_)
  ·intro y0 y1 y2 y3 y4 y5
   unfold bourneref11_Order.l1
   repeat' first
   | (with_reducible exact ih0 _ _ _ _)
   | (with_reducible exact ih1 _ _ _ _ _ _)
   | (with_reducible exact ih2 _ _ _ _ _ _)
   | (with_reducible exact ih3 _ _ _ _ _ _)
   | (with_reducible exact bourneref11_Right.mono _ _ _)
   | (with_reducible exact LeO.refl _)
   | (with_reducible exact LeO.none _)
   | (with_reducible refine LeO.ite ?_ ?_)
   | (with_reducible refine LeO.bind ?_ (fun _ => ?_))
   | exact ih0 _ _ _ _
   | exact ih1 _ _ _ _ _ _
   | exact ih2 _ _ _ _ _ _
   | exact ih3 _ _ _ _ _ _
   | exact bourneref11_Right.mono _ _ _
   | exact LeO.none _
   | refine LeO.ite ?_ ?_
   | refine LeO.bind ?_ (fun _ => ?_)
  ·intro y0 y1 y2 y3 y4 y5
   unfold bourneref11_Order.l2
   repeat' first
   | (with_reducible exact ih0 _ _ _ _)
   | (with_reducible exact ih1 _ _ _ _ _ _)
   | (with_reducible exact ih2 _ _ _ _ _ _)
   | (with_reducible exact ih3 _ _ _ _ _ _)
   | (with_reducible exact bourneref11_Right.mono _ _ _)
   | (with_reducible exact LeO.refl _)
   | (with_reducible exact LeO.none _)
   | (with_reducible refine LeO.ite ?_ ?_)
   | (with_reducible refine LeO.bind ?_ (fun _ => ?_))
   | exact ih0 _ _ _ _
   | exact ih1 _ _ _ _ _ _
   | exact ih2 _ _ _ _ _ _
   | exact ih3 _ _ _ _ _ _
   | exact bourneref11_Right.mono _ _ _
   | exact LeO.none _
   | refine LeO.ite ?_ ?_
   | refine LeO.bind ?_ (fun _ => ?_)
  ·intro y0 y1 y2 y3 y4 y5
   unfold bourneref11_Order.l3
   repeat' first
   | (with_reducible exact ih0 _ _ _ _)
   | (with_reducible exact ih1 _ _ _ _ _ _)
   | (with_reducible exact ih2 _ _ _ _ _ _)
   | (with_reducible exact ih3 _ _ _ _ _ _)
   | (with_reducible exact bourneref11_Right.mono _ _ _)
   | (with_reducible exact LeO.refl _)
   | (with_reducible exact LeO.none _)
   | (with_reducible refine LeO.ite ?_ ?_)
   | (with_reducible refine LeO.bind ?_ (fun _ => ?_))
   | exact ih0 _ _ _ _
   | exact ih1 _ _ _ _ _ _
   | exact ih2 _ _ _ _ _ _
   | exact ih3 _ _ _ _ _ _
   | exact bourneref11_Right.mono _ _ _
   | exact LeO.none _
   | refine LeO.ite ?_ ?_
   | refine LeO.bind ?_ (fun _ => ?_)
theorem bourneref11_Order.mono : ∀ a0 a1 k, LeO (bourneref11_Order.f k a0 a1) (bourneref11_Order.f (k + 1) a0 a1) := by
 intro a0 a1 k
 obtain ⟨ih0, ih1, ih2, ih3⟩ := bourneref11_Order.mono_l k
 unfold bourneref11_Order.f
 repeat' first
   | (with_reducible exact ih0 _ _ _ _)
   | (with_reducible exact ih1 _ _ _ _ _ _)
   | (with_reducible exact ih2 _ _ _ _ _ _)
   | (with_reducible exact ih3 _ _ _ _ _ _)
   | (with_reducible exact bourneref11_Right.mono _ _ _)
   | (with_reducible exact LeO.refl _)
   | (with_reducible exact LeO.none _)
   | (with_reducible refine LeO.ite ?_ ?_)
   | (with_reducible refine LeO.bind ?_ (fun _ => ?_))
   | exact ih0 _ _ _ _
   | exact ih1 _ _ _ _ _ _
   | exact ih2 _ _ _ _ _ _
   | exact ih3 _ _ _ _ _ _
   | exact bourneref11_Right.mono _ _ _
   | exact LeO.none _
   | refine LeO.ite ?_ ?_
   | refine LeO.bind ?_ (fun _ => ?_)
set_option maxHeartbeats 8000000 in
set_option maxRecDepth 100000 in
theorem bourneref11_Order.calls (k : Nat) (a0 : Int) (A1 : Option Addr) (c1 : Nat) (l1 : List (S31)) (r1 : List Int) (r2 : Bool) (w : World) (hr1 : Kd.C k31 w A1 l1.length l1) (hc1 : l1.length ≤ c1) (h : bourneref11_Order.f k a0 l1 = some (r1, r2)) :
  Calls Try.prog 20 #[.int .i64 a0, .slice A1 l1.length c1] w fun e w' => ∃ v0_ : Value, e = .returned (.tuple #[v0_, .bool r2]) ∧ Kd.R (Kd.int .i64) 3 w' w.heap.size (fun _ => True) v0_ r1 ∧ Below w.heap.size w w' := by
 have HR1 := Aside0.mk hr1; have HC1 := Aside0.mk hc1; clear hr1 hc1; have HB := Aside0.mk (Below.refl w.heap.size w); have H : ((bourneref11_Right.f k a0 l1).bind fun t360 => (if t360 = true then (if 0 ≤ a0 then (if (a0 : Int).toNat ≤ 281474976710656 then (bourneref11_Order.l0 k a0 l1 (List.replicate (a0 : Int).toNat false) ([] : List Int)) else (none)) else (none)) else (some (([] : List Int), false)))) = some (r1, r2) := h
 clear h; replace H := Option.bind_eq_some_iff.mp H; obtain ⟨t360, A30, H⟩ := H; replace H : (if t360 = true then (if 0 ≤ a0 then (if (a0 : Int).toNat ≤ 281474976710656 then (bourneref11_Order.l0 k a0 l1 (List.replicate (a0 : Int).toNat false) ([] : List Int)) else (none)) else (none)) else (some (([] : List Int), false))) = some (r1, r2) := H
 have A3 := Aside0.mk A30; clear A30; by_cases c4 : t360 = true
 ·subst c4; have H1 : (if 0 ≤ a0 then (if (a0 : Int).toNat ≤ 281474976710656 then (bourneref11_Order.l0 k a0 l1 (List.replicate (a0 : Int).toNat false) ([] : List Int)) else (none)) else (none)) = some (r1, r2) := by rw [if_pos rfl] at H; exact H
  clear H; have H := H1; clear H1; by_cases c5 : 0 ≤ a0
  ·rw [if_pos c5] at H; have c5b0 := eq_true c5; have c5b1 : decide (0 ≤ a0) = true := decide_eq_true c5; clear c5; by_cases c6 : (a0 : Int).toNat ≤ 281474976710656
   ·rw [if_pos c6] at H; have c6b0 := eq_true c6; have c6b1 : decide ((a0 : Int).toNat ≤ 281474976710656) = true := decide_eq_true c6; clear c6; obtain ⟨y361, hy361⟩ : ∃ y_ : List Bool, y_ = (List.replicate (a0 : Int).toNat false) := ⟨_, rfl⟩
    replace H : (bourneref11_Order.l0 k a0 l1 y361 ([] : List Int)) = some (r1, r2) := by first | (rw [hy361]; with_reducible exact H) | (have H2_ := (Option.bind_some _ _).symm.trans H; rw [hy361]; with_reducible exact H2_) | (have H2_ := (Option.bind_some _ _).symm.trans H; with_reducible exact H2_) | with_reducible exact H | (rw [hy361]; exact H) | exact H
    have Ny361 := Aside0.mk hy361; clear hy361; have H' := Aside0.mk H; clear H; go_enter Try.func20, Try.ntmps20
    go_wp2_with (first | ((with_reducible refine gate_callee (f := 22) rfl ?_); refine goesL_ (some 15) rfl rfl Try.func22 (by kernel_rfl) rfl #[.int .i64 a0, .slice A1 l1.length c1] rfl (by (try simp only [List.map_toArray, List.map_cons, List.map_nil]); first | done | rfl | (simp only [List.length_drop, List.length_take]; rfl)) ?_; (with_reducible refine (bourneref11_Right.calls k a0 _ _ l1 true _ ?side1 ?side2 A3.out).mono ?_); (case side1 => repeat (first | exact HR1.out | (with_reducible refine cAl ?_ _) | (with_reducible refine cDn ?_ _) | (with_reducible refine cDr ?_))); (case side2 => exact HC1.out); rintro e w' ⟨rfl, ⟨nd, rfl⟩⟩; refine ⟨_, rfl, ?_⟩) | ((with_reducible refine gate_dst (N := 19) rfl ?_); refine Kd.R_make Kd.bool _ 4 rfl (N := 19) rfl 46 _ _ rfl a0 rfl rfl Try.underlying46 (.bool false) 1 info4 rfl (by decide) (by omega) false (ok := fun _ => True) (okp := fun _ => True) rfl (fun _ hk => hk) trivial (odt (by first | (with_reducible assumption) | assumption)) (Nat.le_trans (Nat.mul_le_mul_right _ (odt (by first | (with_reducible assumption) | assumption) : a0.toNat ≤ 281474976710656)) (by omega)) (Below.refl _ _) (Nat.le_refl _) ?_; intro v362 w7 ho8 hb hg_ hnew_; clear hg_ hnew_; (first | rw [← Ny361.out] at ho8 | (simp only [Int.reduceToNat] at ho8; rw [← Ny361.out] at ho8)); have n0_ := Aside0.mk (Kd.R_lower ho8 (below_size (by repeat (first | (with_reducible first | exact HB.out | apply bAl | apply bDn | apply bD1) | exact HB.out)))); have n1_ := Aside0.mk (below_step (by repeat (first | (with_reducible first | exact HB.out | apply bAl | apply bDn | apply bD1) | exact HB.out)) hb); clear HB; have HO363 := n0_; have HB := n1_; clear n0_ n1_; clear hb ho8))
    go_loopg [8] k (fun kq v8 w' => ∃ (x7_1 : List Bool) (x8_1 : List Int), Aside0 (bourneref11_Order.l0 kq a0 l1 x7_1 x8_1 = some (r1, r2)) ∧ Aside0 (kq ≤ k) ∧ Aside0 (Kd.R Kd.bool 4 w' w.heap.size (fun _ => True) v362 x7_1) ∧ Aside0 (Kd.R (Kd.int .i64) 3 w' w.heap.size (fun _ => True) v8 x8_1) ∧ Aside0 (Below w.heap.size w w'))
    case atStart => exact ⟨(y361), (([] : List Int)), H', ⟨Nat.le_refl _⟩, ⟨by (with_reducible repeat (first | apply rAl | apply rDn | apply rDr)); exact HO363.out⟩, ⟨by first | exact Kd.R_nil _ _ _ _ _ | exact Kd.N_nil _ _ _ _ _ | exact Kd.V_nil _ _ _ _ _ | exact Kd.Q_nil _ _ _ _ _ | exact Kd.S_nil _ _ _ _ _⟩, ⟨by repeat (first | (with_reducible first | exact HB.out | apply bAl | apply bDn | apply bD1) | exact HB.out)⟩⟩
    case round =>
     clear H'; (try clear c1); (try clear c2); (try clear p2); (try clear c4); (try clear c5); (try clear c5b0); (try clear c5b1); (try clear c6); (try clear c6b0); (try clear c6b1); obtain ⟨x7_1, x8_1, HA, HK1, HO_7, HO_8, HB⟩ := hrel
     cases gk with
     | zero => exact absurd HA.out (by simp [bourneref11_Order.l0])
     | succ k1 =>
      have H := HA.out; clear HA; simp only [bourneref11_Order.l0] at H; by_cases c9 : (x8_1.length : Int) < a0
      ·rw [if_pos c9] at H; have c9b0 : decide ((x8_1.length : Int) < a0) = true := decide_eq_true c9; clear c9; by_cases c10 : 0 ≤ a0
       ·rw [if_pos c10] at H; have c10b0 := eq_true c10; have c10b1 : decide (0 ≤ a0) = true := decide_eq_true c10; clear c10; by_cases c11 : (a0 : Int).toNat ≤ 281474976710656
        ·rw [if_pos c11] at H; have c11b0 := eq_true c11; have c11b1 : decide ((a0 : Int).toNat ≤ 281474976710656) = true := decide_eq_true c11; clear c11; obtain ⟨y364, hy364⟩ : ∃ y_ : List Bool, y_ = (List.replicate (a0 : Int).toNat false) := ⟨_, rfl⟩
         replace H : (bourneref11_Order.l1 k1 a0 l1 x7_1 x8_1 y364 0) = some (r1, r2) := by first | (rw [hy364]; with_reducible exact H) | (have H2_ := (Option.bind_some _ _).symm.trans H; rw [hy364]; with_reducible exact H2_) | (have H2_ := (Option.bind_some _ _).symm.trans H; with_reducible exact H2_) | with_reducible exact H | (rw [hy364]; exact H) | exact H
         have Ny364 := Aside0.mk hy364; clear hy364; have H' := Aside0.mk H; clear H; obtain ⟨Ao12, co12, eo12⟩ := Kd.R_slice HO_8.out; subst eo12; go_wp2_with (first | ((with_reducible refine gate_dst (N := 25) rfl ?_); refine Kd.R_make Kd.bool _ 4 rfl (N := 25) rfl 46 _ _ rfl a0 rfl rfl Try.underlying46 (.bool false) 1 info4 rfl (by decide) (by omega) false (ok := fun _ => True) (okp := fun _ => True) rfl (fun _ hk => hk) trivial (odt (by first | (with_reducible assumption) | assumption)) (Nat.le_trans (Nat.mul_le_mul_right _ (odt (by first | (with_reducible assumption) | assumption) : a0.toNat ≤ 281474976710656)) (by omega)) (Below.refl _ _) (Nat.le_refl _) ?_; intro v365 w13 ho14 hb hg_ hnew_; clear hg_ hnew_; (first | rw [← Ny364.out] at ho14 | (simp only [Int.reduceToNat] at ho14; rw [← Ny364.out] at ho14)); have n0_ := Aside0.mk (Kd.R_elder' (by (with_reducible repeat (first | apply rAl | apply rDn | apply rDr)); exact HO_7.out) (Kd.R_base ho14) hb); have n1_ := Aside0.mk (Kd.R_below (by (with_reducible repeat (first | apply rAl | apply rDn | apply rDr)); exact HO_8.out) hb); have n2_ := Aside0.mk (Kd.R_lower (Kd.R_new' ho14 (Kd.R_lt (by (with_reducible repeat (first | apply rAl | apply rDn | apply rDr)); exact HO_7.out))) (below_size (by repeat (first | (with_reducible first | exact HB.out | apply bAl | apply bDn | apply bD1) | exact HB.out)))); have n3_ := Aside0.mk (below_step (by repeat (first | (with_reducible first | exact HB.out | apply bAl | apply bDn | apply bD1) | exact HB.out)) hb); clear HO_7; clear HO_8; clear HB; have HO_7 := n0_; have HO_8 := n1_; have HO366 := n2_; have HB := n3_; clear n0_ n1_ n2_ n3_; clear hb ho14))
         go_loopg [10] k1 (fun kq v10 w' => ∃ (x9_2 : List Bool) (x10_2 : Int), v10 = .int .i64 x10_2 ∧ Aside0 (bourneref11_Order.l1 kq a0 l1 x7_1 x8_1 x9_2 x10_2 = some (r1, r2)) ∧ Aside0 (kq ≤ k1) ∧ Aside0 (Kd.R Kd.bool 4 w' w.heap.size (fun k_ => some k_ ≠ (v365 : Value).ownBlock) v362 x7_1) ∧ Aside0 (Kd.R (Kd.int .i64) 3 w' w.heap.size (fun _ => True) (.slice Ao12 x8_1.length co12) x8_1) ∧ Aside0 (Kd.R Kd.bool 4 w' w.heap.size (fun k_ => some k_ ≠ (v362 : Value).ownBlock) v365 x9_2) ∧ Aside0 (Below w.heap.size w w'))
         case atStart => exact ⟨(y364), (0), (by first | rfl | (simp; done) | (simp [*]; done)), H', ⟨Nat.le_refl _⟩, ⟨by (with_reducible repeat (first | apply rAl | apply rDn | apply rDr)); exact Kd.R_mono HO_7.out (fun _ hk => hk.2)⟩, ⟨by (with_reducible repeat (first | apply rAl | apply rDn | apply rDr)); exact HO_8.out⟩, ⟨by (with_reducible repeat (first | apply rAl | apply rDn | apply rDr)); exact Kd.R_mono HO366.out (fun _ hk => hk.2)⟩, ⟨by repeat (first | (with_reducible first | exact HB.out | apply bAl | apply bDn | apply bD1) | exact HB.out)⟩⟩
         case round =>
          clear H'; (try clear c1); (try clear c2); (try clear p2); (try clear c4); (try clear c5); (try clear c5b0); (try clear c5b1); (try clear c6); (try clear c6b0); (try clear c6b1); (try clear c9); (try clear c9b0); (try clear c10); (try clear c10b0); (try clear c10b1); (try clear c11); (try clear c11b0); (try clear c11b1); (try clear p2); obtain ⟨x9_2, x10_2, rfl, HA, HK2, HO_7, HO_8, HO_9, HB⟩ := hrel
          cases gk with
          | zero => exact absurd HA.out (by simp [bourneref11_Order.l1])
          | succ k2 =>
           have H := HA.out; clear HA; simp only [bourneref11_Order.l1] at H; by_cases c15 : x10_2 < a0
           ·rw [if_pos c15] at H; have c15b0 : decide (x10_2 < a0) = true := decide_eq_true c15; clear c15; by_cases c16 : 0 ≤ x10_2
            ·rw [if_pos c16] at H; have c16b0 : decide (0 ≤ x10_2) = true := decide_eq_true c16; clear c16; by_cases c17 : x10_2 < (x7_1.length : Int)
             ·rw [if_pos c17] at H; have c17b0 : decide (x10_2 < (x7_1.length : Int)) = true := decide_eq_true c17; clear c17; by_cases c18 : x10_2 < (x9_2.length : Int)
              ·rw [if_pos c18] at H; have c18b0 : decide (x10_2 < (x9_2.length : Int)) = true := decide_eq_true c18; clear c18; obtain ⟨y368, hy368⟩ : ∃ y_ : List Bool, y_ = (x9_2.set (x10_2 : Int).toNat (!(rdOf false x7_1 x10_2))) := ⟨_, rfl⟩
               replace H : (bourneref11_Order.l1 k2 a0 l1 x7_1 x8_1 y368 (wrap64 (x10_2 + 1))) = some (r1, r2) := by first | (rw [hy368]; with_reducible exact H) | (have H2_ := (Option.bind_some _ _).symm.trans H; rw [hy368]; with_reducible exact H2_) | (have H2_ := (Option.bind_some _ _).symm.trans H; with_reducible exact H2_) | with_reducible exact H | (rw [hy368]; exact H) | exact H
               have Ny368 := Aside0.mk hy368; clear hy368; have H' := Aside0.mk H; clear H; obtain ⟨Ao20, co20, eo20⟩ := Kd.R_slice HO_7.out; subst eo20; have p367 : 0 ≤ (x10_2 : Int) := odt (by first | (with_reducible assumption) | assumption); have q367 : x10_2 < (x7_1.length : Int) := odt (by first | (with_reducible assumption) | assumption); obtain ⟨ad367, e367, hx367_0⟩ := Kd.at_bool (Kd.R_reads' HO_7.out).2.2 x10_2 p367 q367
               cases e367; replace p367 := eq_true p367; replace q367 := eq_true q367; have p19 : 0 ≤ (x10_2 : Int) := odt (by first | (with_reducible assumption) | assumption); have q19 : (x10_2 : Int) < ((x9_2.length : Int) : Int) := odt (by first | (with_reducible assumption) | assumption); obtain ⟨go19, co19, eo19, gb19, gl19, cl19, HG19⟩ := Kd.R_form HO_9.out (by omega)
               (first | cases eo19 | (injection eo19 with ea_ en_ ec_; (first | subst ea_ | (injection ea_ with ea_; subst ea_)); subst ec_; clear en_))
               have GB19 := Aside0.mk gb19; have GG19 := Aside0.mk HG19; clear gb19 gl19 HG19; obtain ⟨hx19_0, hf19_0⟩ := Kd.R_celln false HO_9.out (x10_2 : Int) p19 q19
               replace p19 := eq_true p19; replace q19 := eq_true q19; have HP21 := Kd.R_putg HO_9.out (x10_2 : Int) (!(rdOf false x7_1 x10_2))
               go_wp2_with (first | ((with_reducible refine gate_store (t := 4) (p := 38) rfl ?_); refine store_event (t := 4) (p := 38) (v := ?vo_w22) (w1 := (wr.setCell ⟨go19, (x10_2 : Int).toNat, none⟩ (.bool (!(rdOf false x7_1 x10_2))))) ?hg ?ho ?hn ?hr ?_; (case ho => rfl); (case hg => rfl); (case hn => rfl); (case hr => first | (go_simp; done) | (go_simp; rfl)); intro w22 hw; have hg : wr.grownBy w22 (some go19) := (by rw [hw]; exact HP21.2); have hp_ : Kd.R Kd.bool 4 w22 w.heap.size (fun k_ => some k_ ≠ (.slice (some ad367) x7_1.length co20 : Value).ownBlock) (.slice (some ⟨go19, 0, none⟩) x9_2.length co19) y368 := (by rw [hw, Ny368.out]; exact HP21.1); clear HP21; have n0_ := Aside0.mk (Kd.R_after (v := (.slice (some ⟨go19, 0, none⟩) x9_2.length co19)) (v1 := (.slice (some ⟨go19, 0, none⟩) x9_2.length co19)) (ok := (fun _ => True)) (by (with_reducible repeat (first | apply rAl | apply rDn | apply rDr)); exact Kd.R_mono HO_7.out (fun _ hk => by first | exact ⟨trivial, hk⟩ | exact hk | exact ⟨hk.1, hk.2⟩ | exact ⟨hk.2, hk.1⟩ | (simp_all; done))) hg (.inl rfl)); have n1_ := Aside0.mk (Kd.R_over' (v := (.slice (some ⟨go19, 0, none⟩) x9_2.length co19)) (by (with_reducible repeat (first | apply rAl | apply rDn | apply rDr)); exact HO_8.out) (Kd.R_typed HO_9.out) (by decide) hg); have n2_ := Aside0.mk (hp_); have n3_ := Aside0.mk ((by rw [hw]; exact below_set (HB.out) GB19.out : Below w.heap.size w w22)); clear HO_7; clear HO_8; clear HO_9; clear HB; have HO_7 := n0_; have HO_8 := n1_; have HO_9 := n2_; have HB := n3_; clear n0_ n1_ n2_ n3_; clear hg hw hp_))
               go_roundg k2
               case measure => have := HK1.out; have := HK2.out; omega
               case rel => exact ⟨(y368), (wrap64 (x10_2 + 1)), (by first | rfl | (simp; done) | (simp [*]; done)), H', ⟨by have := HK1.out; have := HK2.out; omega⟩, ⟨by (with_reducible repeat (first | apply rAl | apply rDn | apply rDr)); exact Kd.R_mono HO_7.out (fun _ hk => hk.2)⟩, ⟨by (with_reducible repeat (first | apply rAl | apply rDn | apply rDr)); exact HO_8.out⟩, ⟨by (with_reducible repeat (first | apply rAl | apply rDn | apply rDr)); exact HO_9.out⟩, ⟨by repeat (first | (with_reducible first | exact HB.out | apply bAl | apply bDn | apply bD1) | exact HB.out)⟩⟩
              ·rw [if_neg c18] at H; exact absurd H (by simp)
             ·rw [if_neg c17] at H; exact absurd H (by simp)
            ·rw [if_neg c16] at H; exact absurd H (by simp)
           ·rw [if_neg c15] at H; have c15b0 : decide (x10_2 < a0) = false := decide_eq_false c15; clear c15; have H' := Aside0.mk H; clear H; go_wp2
            go_loopg [11] k2 (fun kq v11 w' => ∃ (x9_3 : List Bool) (x11_3 : Int), v11 = .int .i64 x11_3 ∧ Aside0 (bourneref11_Order.l2 kq a0 l1 x7_1 x8_1 x9_3 x11_3 = some (r1, r2)) ∧ Aside0 (kq ≤ k2) ∧ Aside0 (Kd.R Kd.bool 4 w' w.heap.size (fun k_ => some k_ ≠ (v365 : Value).ownBlock) v362 x7_1) ∧ Aside0 (Kd.R (Kd.int .i64) 3 w' w.heap.size (fun _ => True) (.slice Ao12 x8_1.length co12) x8_1) ∧ Aside0 (Kd.R Kd.bool 4 w' w.heap.size (fun k_ => some k_ ≠ (v362 : Value).ownBlock) v365 x9_3) ∧ Aside0 (Below w.heap.size w w'))
            case atStart => exact ⟨(x9_2), (0), (by first | rfl | (simp; done) | (simp [*]; done)), H', ⟨Nat.le_refl _⟩, ⟨by (with_reducible repeat (first | apply rAl | apply rDn | apply rDr)); exact HO_7.out⟩, ⟨by (with_reducible repeat (first | apply rAl | apply rDn | apply rDr)); exact HO_8.out⟩, ⟨by (with_reducible repeat (first | apply rAl | apply rDn | apply rDr)); exact HO_9.out⟩, ⟨by repeat (first | (with_reducible first | exact HB.out | apply bAl | apply bDn | apply bD1) | exact HB.out)⟩⟩
            case round =>
             clear H'; (try clear c1); (try clear p1); (try clear q1); (try clear hx1); (try clear c2); (try clear p2); (try clear p3); (try clear q3); (try clear hx3); (try clear c4); (try clear c5); (try clear c5b0); (try clear c5b1); (try clear c6); (try clear c6b0); (try clear c6b1); (try clear p6); (try clear c9); (try clear c9b0); (try clear c10); (try clear c10b0); (try clear c10b1); (try clear c11); (try clear c11b0); (try clear c11b1); (try clear c15); (try clear c15b0); (try clear c16); (try clear c16b0); (try clear c17); (try clear c17b0); (try clear c18); (try clear c18b0); (try clear p19); (try clear q19); (try clear hx19); (try clear hf19); (try clear c20); (try clear c22); (try clear hx19_0); (try clear hx367_0); (try clear p19); (try clear p2); (try clear p367); (try clear q19); (try clear q367); obtain ⟨x9_3, x11_3, rfl, HA, HK3, HO_7, HO_8, HO_9, HB⟩ := hrel
             cases gk with
             | zero => exact absurd HA.out (by simp [bourneref11_Order.l2])
             | succ k3 =>
              have H := HA.out; clear HA; simp only [bourneref11_Order.l2] at H; by_cases c23 : x11_3 < (l1.length : Int)
              ·rw [if_pos c23] at H; have c23b0 : decide (x11_3 < (l1.length : Int)) = true := decide_eq_true c23; clear c23; by_cases c24 : 0 ≤ x11_3
               ·rw [if_pos c24] at H; have c24b0 : decide (0 ≤ x11_3) = true := decide_eq_true c24; clear c24; by_cases c25 : 0 ≤ ((rd_T31 l1 x11_3).f0)
                ·rw [if_pos c25] at H; have c25b0 : decide (0 ≤ ((rd_T31 l1 x11_3).f0)) = true := decide_eq_true c25; clear c25; by_cases c26 : ((rd_T31 l1 x11_3).f0) < (x7_1.length : Int)
                 ·rw [if_pos c26] at H; have c26b0 : decide (((rd_T31 l1 x11_3).f0) < (x7_1.length : Int)) = true := decide_eq_true c26; clear c26; obtain ⟨bq27, hbq27⟩ : ∃ b_ : Bool, b_ = (rdOf false x7_1 ((rd_T31 l1 x11_3).f0)) := ⟨_, rfl⟩
                  replace H : (if (bq27 = true) then (bourneref11_Order.l2 k3 a0 l1 x7_1 x8_1 x9_3 (wrap64 (x11_3 + 1))) else (if 0 ≤ ((rd_T31 l1 x11_3).f1) then (if ((rd_T31 l1 x11_3).f1) < (x9_3.length : Int) then (bourneref11_Order.l2 k3 a0 l1 x7_1 x8_1 (x9_3.set (((rd_T31 l1 x11_3).f1) : Int).toNat false) (wrap64 (x11_3 + 1))) else (none)) else (none))) = some (r1, r2) := by rw [← hbq27] at H; exact H
                  have Nbq27 := Aside0.mk hbq27; clear hbq27; by_cases c28 : (bq27 = true)
                  ·subst c28; have H1 : (bourneref11_Order.l2 k3 a0 l1 x7_1 x8_1 x9_3 (wrap64 (x11_3 + 1))) = some (r1, r2) := by rw [if_pos rfl] at H; exact H
                   clear H; have H := H1; clear H1; have H' := Aside0.mk H; clear H; have p369 : 0 ≤ (x11_3 : Int) := odt (by first | (with_reducible assumption) | assumption); have q369 : x11_3 < (l1.length : Int) := odt (by first | (with_reducible assumption) | assumption); obtain ⟨ad369, e369, hx369_0, hx369_1⟩ := at_T31 HR1.out x11_3 p369 q369
                   cases e369; (try replace hx369_0 := (HB.out.cell (World.block_lt_of_cell? w _ hx369_0)).trans hx369_0)
                   (try replace hx369_1 := (HB.out.cell (World.block_lt_of_cell? w _ hx369_1)).trans hx369_1)
                   replace p369 := eq_true p369; replace q369 := eq_true q369; obtain ⟨Ao29, co29, eo29⟩ := Kd.R_slice HO_7.out; subst eo29; have p370 : 0 ≤ (((rd_T31 l1 x11_3).f0) : Int) := odt (by first | (with_reducible assumption) | assumption); have q370 : ((rd_T31 l1 x11_3).f0) < (x7_1.length : Int) := odt (by first | (with_reducible assumption) | assumption); obtain ⟨ad370, e370, hx370_0⟩ := Kd.at_bool (Kd.R_reads' HO_7.out).2.2 ((rd_T31 l1 x11_3).f0) p370 q370
                   (try rw [← Nbq27.out] at hx370_0)
                   cases e370; replace p370 := eq_true p370; replace q370 := eq_true q370; go_wp2
                   go_roundg k3
                   case measure => have := HK1.out; have := HK2.out; have := HK3.out; omega
                   case rel => exact ⟨(x9_3), (wrap64 (x11_3 + 1)), (by first | rfl | (simp; done) | (simp [*]; done)), H', ⟨by have := HK1.out; have := HK2.out; have := HK3.out; omega⟩, ⟨by (with_reducible repeat (first | apply rAl | apply rDn | apply rDr)); exact HO_7.out⟩, ⟨by (with_reducible repeat (first | apply rAl | apply rDn | apply rDr)); exact HO_8.out⟩, ⟨by (with_reducible repeat (first | apply rAl | apply rDn | apply rDr)); exact HO_9.out⟩, ⟨by repeat (first | (with_reducible first | exact HB.out | apply bAl | apply bDn | apply bD1) | exact HB.out)⟩⟩
                  ·replace c28 := Bool.eq_false_iff.mpr c28; subst c28; have H1 : (if 0 ≤ ((rd_T31 l1 x11_3).f1) then (if ((rd_T31 l1 x11_3).f1) < (x9_3.length : Int) then (bourneref11_Order.l2 k3 a0 l1 x7_1 x8_1 (x9_3.set (((rd_T31 l1 x11_3).f1) : Int).toNat false) (wrap64 (x11_3 + 1))) else (none)) else (none)) = some (r1, r2) := by rw [if_neg (show ¬ (false = true) by decide)] at H; exact H
                   clear H; have H := H1; clear H1; by_cases c30 : 0 ≤ ((rd_T31 l1 x11_3).f1)
                   ·rw [if_pos c30] at H; have c30b0 : decide (0 ≤ ((rd_T31 l1 x11_3).f1)) = true := decide_eq_true c30; clear c30; by_cases c31 : ((rd_T31 l1 x11_3).f1) < (x9_3.length : Int)
                    ·rw [if_pos c31] at H; have c31b0 : decide (((rd_T31 l1 x11_3).f1) < (x9_3.length : Int)) = true := decide_eq_true c31; clear c31; obtain ⟨y372, hy372⟩ : ∃ y_ : List Bool, y_ = (x9_3.set (((rd_T31 l1 x11_3).f1) : Int).toNat false) := ⟨_, rfl⟩
                     replace H : (bourneref11_Order.l2 k3 a0 l1 x7_1 x8_1 y372 (wrap64 (x11_3 + 1))) = some (r1, r2) := by first | (rw [hy372]; with_reducible exact H) | (have H2_ := (Option.bind_some _ _).symm.trans H; rw [hy372]; with_reducible exact H2_) | (have H2_ := (Option.bind_some _ _).symm.trans H; with_reducible exact H2_) | with_reducible exact H | (rw [hy372]; exact H) | exact H
                     have Ny372 := Aside0.mk hy372; clear hy372; have H' := Aside0.mk H; clear H; have p369 : 0 ≤ (x11_3 : Int) := odt (by first | (with_reducible assumption) | assumption); have q369 : x11_3 < (l1.length : Int) := odt (by first | (with_reducible assumption) | assumption); obtain ⟨ad369, e369, hx369_0, hx369_1⟩ := at_T31 HR1.out x11_3 p369 q369
                     cases e369; (try replace hx369_0 := (HB.out.cell (World.block_lt_of_cell? w _ hx369_0)).trans hx369_0)
                     (try replace hx369_1 := (HB.out.cell (World.block_lt_of_cell? w _ hx369_1)).trans hx369_1)
                     replace p369 := eq_true p369; replace q369 := eq_true q369; obtain ⟨Ao33, co33, eo33⟩ := Kd.R_slice HO_7.out; subst eo33; have p370 : 0 ≤ (((rd_T31 l1 x11_3).f0) : Int) := odt (by first | (with_reducible assumption) | assumption); have q370 : ((rd_T31 l1 x11_3).f0) < (x7_1.length : Int) := odt (by first | (with_reducible assumption) | assumption); obtain ⟨ad370, e370, hx370_0⟩ := Kd.at_bool (Kd.R_reads' HO_7.out).2.2 ((rd_T31 l1 x11_3).f0) p370 q370
                     (try rw [← Nbq27.out] at hx370_0)
                     cases e370; replace p370 := eq_true p370; replace q370 := eq_true q370; have p371 : 0 ≤ (x11_3 : Int) := odt (by first | (with_reducible assumption) | assumption); have q371 : x11_3 < (l1.length : Int) := odt (by first | (with_reducible assumption) | assumption); obtain ⟨ad371, e371, hx371_0, hx371_1⟩ := at_T31 HR1.out x11_3 p371 q371
                     obtain rfl : ad369 = ad371 := (by injection e371)
                     (try replace hx371_0 := (HB.out.cell (World.block_lt_of_cell? w _ hx371_0)).trans hx371_0)
                     (try replace hx371_1 := (HB.out.cell (World.block_lt_of_cell? w _ hx371_1)).trans hx371_1)
                     replace p371 := eq_true p371; replace q371 := eq_true q371; have p32 : 0 ≤ (((rd_T31 l1 x11_3).f1) : Int) := odt (by first | (with_reducible assumption) | assumption); have q32 : (((rd_T31 l1 x11_3).f1) : Int) < ((x9_3.length : Int) : Int) := odt (by first | (with_reducible assumption) | assumption); obtain ⟨go32, co32, eo32, gb32, gl32, cl32, HG32⟩ := Kd.R_form HO_9.out (by omega)
                     (first | cases eo32 | (injection eo32 with ea_ en_ ec_; (first | subst ea_ | (injection ea_ with ea_; subst ea_)); subst ec_; clear en_))
                     have GB32 := Aside0.mk gb32; have GG32 := Aside0.mk HG32; clear gb32 gl32 HG32; obtain ⟨hx32_0, hf32_0⟩ := Kd.R_celln false HO_9.out (((rd_T31 l1 x11_3).f1) : Int) p32 q32
                     replace p32 := eq_true p32; replace q32 := eq_true q32; have HP34 := Kd.R_putg HO_9.out (((rd_T31 l1 x11_3).f1) : Int) false
                     go_wp2_with (first | ((with_reducible refine gate_store (t := 4) (p := 60) rfl ?_); refine store_event (t := 4) (p := 60) (v := ?vo_w35) (w1 := (wr.setCell ⟨go32, (((rd_T31 l1 x11_3).f1) : Int).toNat, none⟩ (.bool false))) ?hg ?ho ?hn ?hr ?_; (case ho => rfl); (case hg => rfl); (case hn => rfl); (case hr => first | (go_simp; done) | (go_simp; rfl)); intro w35 hw; have hg : wr.grownBy w35 (some go32) := (by rw [hw]; exact HP34.2); have hp_ : Kd.R Kd.bool 4 w35 w.heap.size (fun k_ => some k_ ≠ (.slice (some ad370) x7_1.length co33 : Value).ownBlock) (.slice (some ⟨go32, 0, none⟩) x9_3.length co32) y372 := (by rw [hw, Ny372.out]; exact HP34.1); clear HP34; have n0_ := Aside0.mk (Kd.R_after (v := (.slice (some ⟨go32, 0, none⟩) x9_3.length co32)) (v1 := (.slice (some ⟨go32, 0, none⟩) x9_3.length co32)) (ok := (fun _ => True)) (by (with_reducible repeat (first | apply rAl | apply rDn | apply rDr)); exact Kd.R_mono HO_7.out (fun _ hk => by first | exact ⟨trivial, hk⟩ | exact hk | exact ⟨hk.1, hk.2⟩ | exact ⟨hk.2, hk.1⟩ | (simp_all; done))) hg (.inl rfl)); have n1_ := Aside0.mk (Kd.R_over' (v := (.slice (some ⟨go32, 0, none⟩) x9_3.length co32)) (by (with_reducible repeat (first | apply rAl | apply rDn | apply rDr)); exact HO_8.out) (Kd.R_typed HO_9.out) (by decide) hg); have n2_ := Aside0.mk (hp_); have n3_ := Aside0.mk ((by rw [hw]; exact below_set (HB.out) GB32.out : Below w.heap.size w w35)); clear HO_7; clear HO_8; clear HO_9; clear HB; have HO_7 := n0_; have HO_8 := n1_; have HO_9 := n2_; have HB := n3_; clear n0_ n1_ n2_ n3_; clear hg hw hp_))
                     go_roundg k3
                     case measure => have := HK1.out; have := HK2.out; have := HK3.out; omega
                     case rel => exact ⟨(y372), (wrap64 (x11_3 + 1)), (by first | rfl | (simp; done) | (simp [*]; done)), H', ⟨by have := HK1.out; have := HK2.out; have := HK3.out; omega⟩, ⟨by (with_reducible repeat (first | apply rAl | apply rDn | apply rDr)); exact Kd.R_mono HO_7.out (fun _ hk => hk.2)⟩, ⟨by (with_reducible repeat (first | apply rAl | apply rDn | apply rDr)); exact HO_8.out⟩, ⟨by (with_reducible repeat (first | apply rAl | apply rDn | apply rDr)); exact HO_9.out⟩, ⟨by repeat (first | (with_reducible first | exact HB.out | apply bAl | apply bDn | apply bD1) | exact HB.out)⟩⟩
                    ·rw [if_neg c31] at H; exact absurd H (by simp)
                   ·rw [if_neg c30] at H; exact absurd H (by simp)
                 ·rw [if_neg c26] at H; exact absurd H (by simp)
                ·rw [if_neg c25] at H; exact absurd H (by simp)
               ·rw [if_neg c24] at H; exact absurd H (by simp)
              ·rw [if_neg c23] at H; have c23b0 : decide (x11_3 < (l1.length : Int)) = false := decide_eq_false c23; clear c23; have H' := Aside0.mk H; clear H; go_wp2
               go_loopg [12] k3 (fun kq v12 w' => ∃ (x12_4 : Int), v12 = .int .i64 x12_4 ∧ Aside0 (bourneref11_Order.l3 kq a0 l1 x7_1 x8_1 x9_3 x12_4 = some (r1, r2)) ∧ Aside0 (kq ≤ k3) ∧ Aside0 (Kd.R Kd.bool 4 w' w.heap.size (fun k_ => some k_ ≠ (v365 : Value).ownBlock) v362 x7_1) ∧ Aside0 (Kd.R (Kd.int .i64) 3 w' w.heap.size (fun _ => True) (.slice Ao12 x8_1.length co12) x8_1) ∧ Aside0 (Kd.R Kd.bool 4 w' w.heap.size (fun k_ => some k_ ≠ (v362 : Value).ownBlock) v365 x9_3) ∧ Aside0 (Below w.heap.size w w'))
               case atStart => exact ⟨(0), (by first | rfl | (simp; done) | (simp [*]; done)), H', ⟨Nat.le_refl _⟩, ⟨by (with_reducible repeat (first | apply rAl | apply rDn | apply rDr)); exact HO_7.out⟩, ⟨by (with_reducible repeat (first | apply rAl | apply rDn | apply rDr)); exact HO_8.out⟩, ⟨by (with_reducible repeat (first | apply rAl | apply rDn | apply rDr)); exact HO_9.out⟩, ⟨by repeat (first | (with_reducible first | exact HB.out | apply bAl | apply bDn | apply bD1) | exact HB.out)⟩⟩
               case round =>
                clear H'; (try clear c1); (try clear p1); (try clear q1); (try clear hx1); (try clear c2); (try clear p2); (try clear q2); (try clear c3); (try clear p3); (try clear q3); (try clear hx3); (try clear hf3); (try clear c4); (try clear c5); (try clear c5b0); (try clear c5b1); (try clear c6); (try clear c6b0); (try clear c6b1); (try clear p6); (try clear c9); (try clear c9b0); (try clear c10); (try clear c10b0); (try clear c10b1); (try clear c11); (try clear c11b0); (try clear c11b1); (try clear c15); (try clear c15b0); (try clear c16); (try clear c16b0); (try clear c17); (try clear c17b0); (try clear c18); (try clear c18b0); (try clear p19); (try clear q19); (try clear hx19); (try clear hf19); (try clear c20); (try clear c22); (try clear c23); (try clear c23b0); (try clear c24); (try clear c24b0); (try clear c25); (try clear c25b0); (try clear c26); (try clear c26b0); (try clear q27); (try clear c28); (try clear c30); (try clear c30b0); (try clear c31); (try clear c31b0); (try clear p32); (try clear q32); (try clear hx32); (try clear hf32); (try clear hx19_0); (try clear hx32_0); (try clear hx367_0); (try clear hx369_0); (try clear hx369_1); (try clear hx370_0); (try clear hx371_0); (try clear hx371_1); (try clear p1); (try clear p19); (try clear p2); (try clear p3); (try clear p32); (try clear p367); (try clear p369); (try clear p370); (try clear p371); (try clear p6); (try clear q1); (try clear q19); (try clear q3); (try clear q32); (try clear q367); (try clear q369); (try clear q370); (try clear q371); obtain ⟨x12_4, rfl, HA, HK4, HO_7, HO_8, HO_9, HB⟩ := hrel
                cases gk with
                | zero => exact absurd HA.out (by simp [bourneref11_Order.l3])
                | succ k4 =>
                 have H := HA.out; clear HA; simp only [bourneref11_Order.l3] at H; by_cases c36 : x12_4 < a0
                 ·rw [if_pos c36] at H; have c36b0 : decide (x12_4 < a0) = true := decide_eq_true c36; clear c36; by_cases c37 : 0 ≤ x12_4
                  ·rw [if_pos c37] at H; have c37b0 : decide (0 ≤ x12_4) = true := decide_eq_true c37; clear c37; by_cases c38 : x12_4 < (x9_3.length : Int)
                   ·rw [if_pos c38] at H; have c38b0 : decide (x12_4 < (x9_3.length : Int)) = true := decide_eq_true c38; clear c38; obtain ⟨bq39, hbq39⟩ : ∃ b_ : Bool, b_ = (rdOf false x9_3 x12_4) := ⟨_, rfl⟩
                    replace H : (if bq39 = true then (if x12_4 = a0 then (some (([] : List Int), false)) else (if x12_4 < (x7_1.length : Int) then (if x8_1.length < 17592186044416 then (bourneref11_Order.l0 k4 a0 l1 (x7_1.set (x12_4 : Int).toNat true) (x8_1 ++ [x12_4])) else (none)) else (none))) else (bourneref11_Order.l3 k4 a0 l1 x7_1 x8_1 x9_3 (wrap64 (x12_4 + 1)))) = some (r1, r2) := by rw [← hbq39] at H; exact H
                    have Nbq39 := Aside0.mk hbq39; clear hbq39; by_cases c40 : bq39 = true
                    ·subst c40; have H1 : (if x12_4 = a0 then (some (([] : List Int), false)) else (if x12_4 < (x7_1.length : Int) then (if x8_1.length < 17592186044416 then (bourneref11_Order.l0 k4 a0 l1 (x7_1.set (x12_4 : Int).toNat true) (x8_1 ++ [x12_4])) else (none)) else (none))) = some (r1, r2) := by rw [if_pos rfl] at H; exact H
                     clear H; have H := H1; clear H1; by_cases c41 : x12_4 = a0
                     ·rw [if_pos c41] at H; have c41b0 : (x12_4 == a0) = true := beq_iff_eq.mpr c41; have c41b1 : (x12_4 != a0) = false := bne_eq_false_iff_eq.mpr c41; clear c41; simp only [Option.some.injEq, Prod.mk.injEq] at H
                      obtain ⟨rfl, rfl⟩ := H; obtain ⟨Ao42, co42, eo42⟩ := Kd.R_slice HO_9.out; subst eo42; have p373 : 0 ≤ (x12_4 : Int) := odt (by first | (with_reducible assumption) | assumption); have q373 : x12_4 < (x9_3.length : Int) := odt (by first | (with_reducible assumption) | assumption); obtain ⟨ad373, e373, hx373_0⟩ := Kd.at_bool (Kd.R_reads' HO_9.out).2.2 x12_4 p373 q373
                      (try rw [← Nbq39.out] at hx373_0)
                      cases e373; replace p373 := eq_true p373; replace q373 := eq_true q373; go_wp2
                      go_ret2
                      exact ⟨_, by first | rfl | (simp [errW_none, errW_some] <;> rfl) | (simp [*, errW_none, errW_some] <;> rfl), by first | exact Kd.R_nil _ _ _ _ _ | exact Kd.N_nil _ _ _ _ _ | exact Kd.V_nil _ _ _ _ _ | exact Kd.Q_nil _ _ _ _ _ | exact Kd.S_nil _ _ _ _ _, by repeat (first | (with_reducible first | exact HB.out | apply bAl | apply bDn | apply bD1) | exact HB.out)⟩
                     ·rw [if_neg c41] at H; have c41b0 : (x12_4 == a0) = false := beq_eq_false_iff_ne.mpr c41; have c41b1 : (x12_4 != a0) = true := bne_iff_ne.mpr c41; by_cases c43 : x12_4 < (x7_1.length : Int)
                      ·rw [if_pos c43] at H; have c43b0 : decide (x12_4 < (x7_1.length : Int)) = true := decide_eq_true c43; clear c43; obtain ⟨y374, hy374⟩ : ∃ y_ : List Bool, y_ = (x7_1.set (x12_4 : Int).toNat true) := ⟨_, rfl⟩
                       replace H : (if x8_1.length < 17592186044416 then (bourneref11_Order.l0 k4 a0 l1 y374 (x8_1 ++ [x12_4])) else (none)) = some (r1, r2) := by first | (rw [hy374]; with_reducible exact H) | (have H2_ := (Option.bind_some _ _).symm.trans H; rw [hy374]; with_reducible exact H2_) | (have H2_ := (Option.bind_some _ _).symm.trans H; with_reducible exact H2_) | with_reducible exact H | (rw [hy374]; exact H) | exact H
                       have Ny374 := Aside0.mk hy374; clear hy374; by_cases c45 : x8_1.length < 17592186044416
                       ·rw [if_pos c45] at H; have LMc45 := Aside0.mk c45; clear c45; obtain ⟨y375, hy375⟩ : ∃ y_ : List Int, y_ = (x8_1 ++ [x12_4]) := ⟨_, rfl⟩
                        replace H : (bourneref11_Order.l0 k4 a0 l1 y374 y375) = some (r1, r2) := by first | (rw [hy375]; with_reducible exact H) | (have H2_ := (Option.bind_some _ _).symm.trans H; rw [hy375]; with_reducible exact H2_) | (have H2_ := (Option.bind_some _ _).symm.trans H; with_reducible exact H2_) | with_reducible exact H | (rw [hy375]; exact H) | exact H
                        have Ny375 := Aside0.mk hy375; clear hy375; have H' := Aside0.mk H; clear H; obtain ⟨Ao46, co46, eo46⟩ := Kd.R_slice HO_9.out; subst eo46; have p373 : 0 ≤ (x12_4 : Int) := odt (by first | (with_reducible assumption) | assumption); have q373 : x12_4 < (x9_3.length : Int) := odt (by first | (with_reducible assumption) | assumption); obtain ⟨ad373, e373, hx373_0⟩ := Kd.at_bool (Kd.R_reads' HO_9.out).2.2 x12_4 p373 q373
                        (try rw [← Nbq39.out] at hx373_0)
                        cases e373; replace p373 := eq_true p373; replace q373 := eq_true q373; have p44 : 0 ≤ (x12_4 : Int) := odt (by first | (with_reducible assumption) | assumption); have q44 : (x12_4 : Int) < ((x7_1.length : Int) : Int) := odt (by first | (with_reducible assumption) | assumption); obtain ⟨go44, co44, eo44, gb44, gl44, cl44, HG44⟩ := Kd.R_form HO_7.out (by omega)
                        (first | cases eo44 | (injection eo44 with ea_ en_ ec_; (first | subst ea_ | (injection ea_ with ea_; subst ea_)); subst ec_; clear en_))
                        have GB44 := Aside0.mk gb44; have GG44 := Aside0.mk HG44; clear gb44 gl44 HG44; obtain ⟨hx44_0, hf44_0⟩ := Kd.R_celln false HO_7.out (x12_4 : Int) p44 q44
                        replace p44 := eq_true p44; replace q44 := eq_true q44; have HP47 := Kd.R_putg HO_7.out (x12_4 : Int) true
                        go_wp2_with (first | ((with_reducible refine gate_store (t := 4) (p := 78) rfl ?_); refine store_event (t := 4) (p := 78) (v := ?vo_w48) (w1 := (wr.setCell ⟨go44, (x12_4 : Int).toNat, none⟩ (.bool true))) ?hg ?ho ?hn ?hr ?_; (case ho => rfl); (case hg => rfl); (case hn => rfl); (case hr => first | (go_simp; done) | (go_simp; rfl)); intro w48 hw; have hg : wr.grownBy w48 (some go44) := (by rw [hw]; exact HP47.2); have hp_ : Kd.R Kd.bool 4 w48 w.heap.size (fun k_ => some k_ ≠ (.slice (some ad373) x9_3.length co46 : Value).ownBlock) (.slice (some ⟨go44, 0, none⟩) x7_1.length co44) y374 := (by rw [hw, Ny374.out]; exact HP47.1); clear HP47; have n0_ := Aside0.mk (hp_); have n1_ := Aside0.mk (Kd.R_over' (v := (.slice (some ⟨go44, 0, none⟩) x7_1.length co44)) (by (with_reducible repeat (first | apply rAl | apply rDn | apply rDr)); exact HO_8.out) (Kd.R_typed HO_7.out) (by decide) hg); have n2_ := Aside0.mk (Kd.R_after (v := (.slice (some ⟨go44, 0, none⟩) x7_1.length co44)) (v1 := (.slice (some ⟨go44, 0, none⟩) x7_1.length co44)) (ok := (fun _ => True)) (by (with_reducible repeat (first | apply rAl | apply rDn | apply rDr)); exact Kd.R_mono HO_9.out (fun _ hk => by first | exact ⟨trivial, hk⟩ | exact hk | exact ⟨hk.1, hk.2⟩ | exact ⟨hk.2, hk.1⟩ | (simp_all; done))) hg (.inl rfl)); have n3_ := Aside0.mk ((by rw [hw]; exact below_set (HB.out) GB44.out : Below w.heap.size w w48)); clear HO_7; clear HO_8; clear HO_9; clear HB; have HO_7 := n0_; have HO_8 := n1_; have HO_9 := n2_; have HB := n3_; clear n0_ n1_ n2_ n3_; clear hg hw hp_) | ((with_reducible refine gate_builtin (b := .append) (xs := #[.tmp 79, .tmp 81]) rfl ?_); at_builtin; refine Kd.R_append (Kd.int .i64) (w0 := w) w.heap.size rfl (.tmp 79) (.tmp 81) 25 3 (.int .i64 0) 8 rfl Try.underlying25 info3 rfl (by decide) (by omega) (.slice Ao12 x8_1.length co12) x8_1 x12_4 [.int .i64 x12_4] (fun _ => True) (fun _ => False) rfl rfl ?aP (fun _ hk => hk.elim) ?aF ?aO ?aB ?aS ?aL ?_; (case aP => exact rfl); (case aB => exact (by repeat (first | (with_reducible first | exact HB.out | apply bAl | apply bDn | apply bD1) | exact HB.out))); (case aF => exact (fun _ _ => trivial)); (case aO => exact (by (with_reducible repeat (first | apply rAl | apply rDn | apply rDr)); exact HO_8.out)); (case aS => exact (below_size (by repeat (first | (with_reducible first | exact HB.out | apply bAl | apply bDn | apply bD1) | exact HB.out)))); (case aL => have := LMc45.out; omega); intro v376 w49 ho hb hg hat; rw [← Ny375.out] at ho; have n0_ := Aside0.mk (Kd.R_over' (by (with_reducible repeat (first | apply rAl | apply rDn | apply rDr)); exact HO_7.out) (Kd.R_typed (by (with_reducible repeat (first | apply rAl | apply rDn | apply rDr)); exact HO_8.out)) (by decide) hg); have n1_ := Aside0.mk (Kd.R_over' (by (with_reducible repeat (first | apply rAl | apply rDn | apply rDr)); exact HO_9.out) (Kd.R_typed (by (with_reducible repeat (first | apply rAl | apply rDn | apply rDr)); exact HO_8.out)) (by decide) hg); have n2_ := Aside0.mk (hb); have n3_ := Aside0.mk (ho); clear HO_7; clear HO_9; clear HB; clear HO_8; have HO_7 := n0_; have HO_9 := n1_; have HB := n2_; have HO377 := n3_; clear n0_ n1_ n2_ n3_; clear ho hb hg hat))
                        go_roundg k4
                        case measure => have := HK1.out; have := HK2.out; have := HK3.out; have := HK4.out; omega
                        case rel => exact ⟨(y374), (y375), H', ⟨by have := HK1.out; have := HK2.out; have := HK3.out; have := HK4.out; omega⟩, ⟨by (with_reducible repeat (first | apply rAl | apply rDn | apply rDr)); exact Kd.R_mono HO_7.out (fun _ hk => trivial)⟩, ⟨by (with_reducible repeat (first | apply rAl | apply rDn | apply rDr)); exact HO377.out⟩, ⟨by repeat (first | (with_reducible first | exact HB.out | apply bAl | apply bDn | apply bD1) | exact HB.out)⟩⟩
                       ·rw [if_neg c45] at H; exact absurd H (by simp)
                      ·rw [if_neg c43] at H; exact absurd H (by simp)
                    ·replace c40 := Bool.eq_false_iff.mpr c40; subst c40; have H1 : (bourneref11_Order.l3 k4 a0 l1 x7_1 x8_1 x9_3 (wrap64 (x12_4 + 1))) = some (r1, r2) := by rw [if_neg (show ¬ (false = true) by decide)] at H; exact H
                     clear H; have H := H1; clear H1; have H' := Aside0.mk H; clear H; obtain ⟨Ao50, co50, eo50⟩ := Kd.R_slice HO_9.out; subst eo50; have p373 : 0 ≤ (x12_4 : Int) := odt (by first | (with_reducible assumption) | assumption); have q373 : x12_4 < (x9_3.length : Int) := odt (by first | (with_reducible assumption) | assumption); obtain ⟨ad373, e373, hx373_0⟩ := Kd.at_bool (Kd.R_reads' HO_9.out).2.2 x12_4 p373 q373
                     (try rw [← Nbq39.out] at hx373_0)
                     cases e373; replace p373 := eq_true p373; replace q373 := eq_true q373; go_wp2
                     go_roundg k4
                     case measure => have := HK1.out; have := HK2.out; have := HK3.out; have := HK4.out; omega
                     case rel => exact ⟨(wrap64 (x12_4 + 1)), (by first | rfl | (simp; done) | (simp [*]; done)), H', ⟨by have := HK1.out; have := HK2.out; have := HK3.out; have := HK4.out; omega⟩, ⟨by (with_reducible repeat (first | apply rAl | apply rDn | apply rDr)); exact HO_7.out⟩, ⟨by (with_reducible repeat (first | apply rAl | apply rDn | apply rDr)); exact HO_8.out⟩, ⟨by (with_reducible repeat (first | apply rAl | apply rDn | apply rDr)); exact HO_9.out⟩, ⟨by repeat (first | (with_reducible first | exact HB.out | apply bAl | apply bDn | apply bD1) | exact HB.out)⟩⟩
                   ·rw [if_neg c38] at H; exact absurd H (by simp)
                  ·rw [if_neg c37] at H; exact absurd H (by simp)
                 ·rw [if_neg c36] at H; have c36b0 : decide (x12_4 < a0) = false := decide_eq_false c36; clear c36; by_cases c51 : x12_4 = a0
                  ·rw [if_pos c51] at H; have c51b0 : (x12_4 == a0) = true := beq_iff_eq.mpr c51; have c51b1 : (x12_4 != a0) = false := bne_eq_false_iff_eq.mpr c51; clear c51; simp only [Option.some.injEq, Prod.mk.injEq] at H
                   obtain ⟨rfl, rfl⟩ := H; go_wp2
                   go_ret2
                   exact ⟨_, by first | rfl | (simp [errW_none, errW_some] <;> rfl) | (simp [*, errW_none, errW_some] <;> rfl), by first | exact Kd.R_nil _ _ _ _ _ | exact Kd.N_nil _ _ _ _ _ | exact Kd.V_nil _ _ _ _ _ | exact Kd.Q_nil _ _ _ _ _ | exact Kd.S_nil _ _ _ _ _, by repeat (first | (with_reducible first | exact HB.out | apply bAl | apply bDn | apply bD1) | exact HB.out)⟩
                  ·rw [if_neg c51] at H; have c51b0 : (x12_4 == a0) = false := beq_eq_false_iff_ne.mpr c51; have c51b1 : (x12_4 != a0) = true := bne_iff_ne.mpr c51; by_cases c52 : 0 ≤ x12_4
                   ·rw [if_pos c52] at H; have c52b0 : decide (0 ≤ x12_4) = true := decide_eq_true c52; clear c52; by_cases c53 : x12_4 < (x7_1.length : Int)
                    ·rw [if_pos c53] at H; have c53b0 : decide (x12_4 < (x7_1.length : Int)) = true := decide_eq_true c53; clear c53; obtain ⟨y378, hy378⟩ : ∃ y_ : List Bool, y_ = (x7_1.set (x12_4 : Int).toNat true) := ⟨_, rfl⟩
                     replace H : (if x8_1.length < 17592186044416 then (bourneref11_Order.l0 k4 a0 l1 y378 (x8_1 ++ [x12_4])) else (none)) = some (r1, r2) := by first | (rw [hy378]; with_reducible exact H) | (have H2_ := (Option.bind_some _ _).symm.trans H; rw [hy378]; with_reducible exact H2_) | (have H2_ := (Option.bind_some _ _).symm.trans H; with_reducible exact H2_) | with_reducible exact H | (rw [hy378]; exact H) | exact H
                     have Ny378 := Aside0.mk hy378; clear hy378; by_cases c55 : x8_1.length < 17592186044416
                     ·rw [if_pos c55] at H; have LMc55 := Aside0.mk c55; clear c55; obtain ⟨y379, hy379⟩ : ∃ y_ : List Int, y_ = (x8_1 ++ [x12_4]) := ⟨_, rfl⟩
                      replace H : (bourneref11_Order.l0 k4 a0 l1 y378 y379) = some (r1, r2) := by first | (rw [hy379]; with_reducible exact H) | (have H2_ := (Option.bind_some _ _).symm.trans H; rw [hy379]; with_reducible exact H2_) | (have H2_ := (Option.bind_some _ _).symm.trans H; with_reducible exact H2_) | with_reducible exact H | (rw [hy379]; exact H) | exact H
                      have Ny379 := Aside0.mk hy379; clear hy379; have H' := Aside0.mk H; clear H; have p54 : 0 ≤ (x12_4 : Int) := odt (by first | (with_reducible assumption) | assumption); have q54 : (x12_4 : Int) < ((x7_1.length : Int) : Int) := odt (by first | (with_reducible assumption) | assumption); obtain ⟨go54, co54, eo54, gb54, gl54, cl54, HG54⟩ := Kd.R_form HO_7.out (by omega)
                      (first | cases eo54 | (injection eo54 with ea_ en_ ec_; (first | subst ea_ | (injection ea_ with ea_; subst ea_)); subst ec_; clear en_))
                      have GB54 := Aside0.mk gb54; have GG54 := Aside0.mk HG54; clear gb54 gl54 HG54; obtain ⟨hx54_0, hf54_0⟩ := Kd.R_celln false HO_7.out (x12_4 : Int) p54 q54
                      replace p54 := eq_true p54; replace q54 := eq_true q54; have HP56 := Kd.R_putg HO_7.out (x12_4 : Int) true
                      go_wp2_with (first | ((with_reducible refine gate_store (t := 4) (p := 78) rfl ?_); refine store_event (t := 4) (p := 78) (v := ?vo_w57) (w1 := (wr.setCell ⟨go54, (x12_4 : Int).toNat, none⟩ (.bool true))) ?hg ?ho ?hn ?hr ?_; (case ho => rfl); (case hg => rfl); (case hn => rfl); (case hr => first | (go_simp; done) | (go_simp; rfl)); intro w57 hw; have hg : wr.grownBy w57 (some go54) := (by rw [hw]; exact HP56.2); have hp_ : Kd.R Kd.bool 4 w57 w.heap.size (fun k_ => some k_ ≠ (v365 : Value).ownBlock) (.slice (some ⟨go54, 0, none⟩) x7_1.length co54) y378 := (by rw [hw, Ny378.out]; exact HP56.1); clear HP56; have n0_ := Aside0.mk (hp_); have n1_ := Aside0.mk (Kd.R_over' (v := (.slice (some ⟨go54, 0, none⟩) x7_1.length co54)) (by (with_reducible repeat (first | apply rAl | apply rDn | apply rDr)); exact HO_8.out) (Kd.R_typed HO_7.out) (by decide) hg); have n2_ := Aside0.mk (Kd.R_after (v := (.slice (some ⟨go54, 0, none⟩) x7_1.length co54)) (v1 := (.slice (some ⟨go54, 0, none⟩) x7_1.length co54)) (ok := (fun _ => True)) (by (with_reducible repeat (first | apply rAl | apply rDn | apply rDr)); exact Kd.R_mono HO_9.out (fun _ hk => by first | exact ⟨trivial, hk⟩ | exact hk | exact ⟨hk.1, hk.2⟩ | exact ⟨hk.2, hk.1⟩ | (simp_all; done))) hg (.inl rfl)); have n3_ := Aside0.mk ((by rw [hw]; exact below_set (HB.out) GB54.out : Below w.heap.size w w57)); clear HO_7; clear HO_8; clear HO_9; clear HB; have HO_7 := n0_; have HO_8 := n1_; have HO_9 := n2_; have HB := n3_; clear n0_ n1_ n2_ n3_; clear hg hw hp_) | ((with_reducible refine gate_builtin (b := .append) (xs := #[.tmp 79, .tmp 81]) rfl ?_); at_builtin; refine Kd.R_append (Kd.int .i64) (w0 := w) w.heap.size rfl (.tmp 79) (.tmp 81) 25 3 (.int .i64 0) 8 rfl Try.underlying25 info3 rfl (by decide) (by omega) (.slice Ao12 x8_1.length co12) x8_1 x12_4 [.int .i64 x12_4] (fun _ => True) (fun _ => False) rfl rfl ?aP (fun _ hk => hk.elim) ?aF ?aO ?aB ?aS ?aL ?_; (case aP => exact rfl); (case aB => exact (by repeat (first | (with_reducible first | exact HB.out | apply bAl | apply bDn | apply bD1) | exact HB.out))); (case aF => exact (fun _ _ => trivial)); (case aO => exact (by (with_reducible repeat (first | apply rAl | apply rDn | apply rDr)); exact HO_8.out)); (case aS => exact (below_size (by repeat (first | (with_reducible first | exact HB.out | apply bAl | apply bDn | apply bD1) | exact HB.out)))); (case aL => have := LMc55.out; omega); intro v380 w58 ho hb hg hat; rw [← Ny379.out] at ho; have n0_ := Aside0.mk (Kd.R_over' (by (with_reducible repeat (first | apply rAl | apply rDn | apply rDr)); exact HO_7.out) (Kd.R_typed (by (with_reducible repeat (first | apply rAl | apply rDn | apply rDr)); exact HO_8.out)) (by decide) hg); have n1_ := Aside0.mk (Kd.R_over' (by (with_reducible repeat (first | apply rAl | apply rDn | apply rDr)); exact HO_9.out) (Kd.R_typed (by (with_reducible repeat (first | apply rAl | apply rDn | apply rDr)); exact HO_8.out)) (by decide) hg); have n2_ := Aside0.mk (hb); have n3_ := Aside0.mk (ho); clear HO_7; clear HO_9; clear HB; clear HO_8; have HO_7 := n0_; have HO_9 := n1_; have HB := n2_; have HO381 := n3_; clear n0_ n1_ n2_ n3_; clear ho hb hg hat))
                      go_roundg k4
                      case measure => have := HK1.out; have := HK2.out; have := HK3.out; have := HK4.out; omega
                      case rel => exact ⟨(y378), (y379), H', ⟨by have := HK1.out; have := HK2.out; have := HK3.out; have := HK4.out; omega⟩, ⟨by (with_reducible repeat (first | apply rAl | apply rDn | apply rDr)); exact Kd.R_mono HO_7.out (fun _ hk => trivial)⟩, ⟨by (with_reducible repeat (first | apply rAl | apply rDn | apply rDr)); exact HO381.out⟩, ⟨by repeat (first | (with_reducible first | exact HB.out | apply bAl | apply bDn | apply bD1) | exact HB.out)⟩⟩
                     ·rw [if_neg c55] at H; exact absurd H (by simp)
                    ·rw [if_neg c53] at H; exact absurd H (by simp)
                   ·rw [if_neg c52] at H; exact absurd H (by simp)
        ·rw [if_neg c11] at H; exact absurd H (by simp)
       ·rw [if_neg c10] at H; exact absurd H (by simp)
      ·rw [if_neg c9] at H; have c9b0 : decide ((x8_1.length : Int) < a0) = false := decide_eq_false c9; clear c9; simp only [Option.some.injEq, Prod.mk.injEq] at H
       obtain ⟨rfl, rfl⟩ := H; obtain ⟨Ao59, co59, eo59⟩ := Kd.R_slice HO_8.out; subst eo59; go_wp2
       go_ret2
       exact ⟨_, by first | rfl | (simp [errW_none, errW_some] <;> rfl) | (simp [*, errW_none, errW_some] <;> rfl), by (with_reducible repeat (first | apply rAl | apply rDn | apply rDr)); exact HO_8.out, by repeat (first | (with_reducible first | exact HB.out | apply bAl | apply bDn | apply bD1) | exact HB.out)⟩
   ·rw [if_neg c6] at H; exact absurd H (by simp)
  ·rw [if_neg c5] at H; exact absurd H (by simp)
 ·replace c4 := Bool.eq_false_iff.mpr c4; subst c4; have H1 : (some (([] : List Int), false)) = some (r1, r2) := by rw [if_neg (show ¬ (false = true) by decide)] at H; exact H
  clear H; have H := H1; clear H1; simp only [Option.some.injEq, Prod.mk.injEq] at H
  obtain ⟨rfl, rfl⟩ := H; go_enter Try.func20, Try.ntmps20
  go_wp2_with (first | ((with_reducible refine gate_callee (f := 22) rfl ?_); refine goesL_ (some 15) rfl rfl Try.func22 (by kernel_rfl) rfl #[.int .i64 a0, .slice A1 l1.length c1] rfl (by (try simp only [List.map_toArray, List.map_cons, List.map_nil]); first | done | rfl | (simp only [List.length_drop, List.length_take]; rfl)) ?_; (with_reducible refine (bourneref11_Right.calls k a0 _ _ l1 false _ ?side1 ?side2 A3.out).mono ?_); (case side1 => repeat (first | exact HR1.out | (with_reducible refine cAl ?_ _) | (with_reducible refine cDn ?_ _) | (with_reducible refine cDr ?_))); (case side2 => exact HC1.out); rintro e w' ⟨rfl, ⟨nd, rfl⟩⟩; refine ⟨_, rfl, ?_⟩))
  go_ret2
  exact ⟨_, by first | rfl | (simp [errW_none, errW_some] <;> rfl) | (simp [*, errW_none, errW_some] <;> rfl), by first | exact Kd.R_nil _ _ _ _ _ | exact Kd.N_nil _ _ _ _ _ | exact Kd.V_nil _ _ _ _ _ | exact Kd.Q_nil _ _ _ _ _ | exact Kd.S_nil _ _ _ _ _, by repeat (first | (with_reducible first | exact HB.out | apply bAl | apply bDn | apply bD1) | exact HB.out)⟩
end Go.Proofs.Ytibnodjlcaodeaa.G
