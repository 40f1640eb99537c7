-- written by gprint.py, a program of this session that drives the kit's printer with functions hooked, and made short; Lean checks every line
import Derived.Test.YtibnodjlcaodeaaTK0
import Derived.Test.YtibnodjlcaodeaaTK22
import Derived.Test.YtibnodjlcaodeaaTK24
namespace Go.Proofs.Ytibnodjlcaodeaa.G
open Go.RowKit Go.Proofs.YtibnodjlcaodeaaW.PrintWords Go.Proofs.YtibnodjlcaodeaaW.PrintLast Go.Proofs.YtibnodjlcaodeaaW.PrintMore
attribute [local go_sem] max2_int min2_int max_two min_two max_three min_three max_four min_four   -- for this text's walks alone
set_option linter.unusedVariables false
set_option linter.unusedSimpArgs false
/-! ### bourneref11_Down: function 23 -/
mutual
def bourneref11_Down.j0 : Nat → Int → List (S31) → Int → Bool → Option (List Int)
 | 0, _, _, _, _ => none
 | k + 1, x0, x1, x2, x24 => if x24 = true then (some ([] : List Int)) else (bourneref11_Down.l0 k x0 x1 x2 ([] : List Int) 0)
def bourneref11_Down.l0 : Nat → Int → List (S31) → Int → List Int → Int → Option (List Int)
 | 0, _, _, _, _, _ => none
 | k + 1, x0, x1, x2, x8, x9 => if x9 < x0 then ((bourneref11_Steps.f k x0 x1 x9).bind fun t412 => (if 0 ≤ x2 then (if x2 < (t412.length : Int) then (if (rd t412 x2) ≥ 0 then (if x8.length < 17592186044416 then (bourneref11_Down.l0 k x0 x1 x2 (x8 ++ [x9]) (wrap64 (x9 + 1))) else (none)) else (bourneref11_Down.l0 k x0 x1 x2 x8 (wrap64 (x9 + 1)))) else (none)) else (none))) else (some x8)
end
def bourneref11_Down.f (k : Nat) (a0 : Int) (l1 : List (S31)) (a2 : Int) : Option (List Int) := (bourneref11_Right.f k a0 l1).bind fun t411 => (if t411 = true then (if a2 < 0 then (bourneref11_Down.j0 k a0 l1 a2 true) else (bourneref11_Down.j0 k a0 l1 a2 (decide (a2 ≥ a0)))) else (bourneref11_Down.j0 k a0 l1 a2 true))
theorem bourneref11_Down.mono_l : ∀ k, (∀ y0 y1 y2 y3, LeO (bourneref11_Down.j0 k y0 y1 y2 y3) (bourneref11_Down.j0 (k + 1) y0 y1 y2 y3)) ∧ (∀ y0 y1 y2 y3 y4, LeO (bourneref11_Down.l0 k y0 y1 y2 y3 y4) (bourneref11_Down.l0 (k + 1) y0 y1 y2 y3 y4))
 | 0 => ⟨fun _ _ _ _ r h => by simp [bourneref11_Down.j0] at h, fun _ _ _ _ _ r h => by simp [bourneref11_Down.l0] at h⟩
 | k + 1 => by
  obtain ⟨ih0, ih1⟩ := bourneref11_Down.mono_l k
  refine ⟨?_, ?_⟩
  ·intro y0 y1 y2 y3
   unfold bourneref11_Down.j0
   repeat' first
   | (with_reducible exact ih0 _ _ _ _)
   | (with_reducible exact ih1 _ _ _ _ _)
   | (with_reducible exact bourneref11_Right.mono _ _ _)
   | (with_reducible exact bourneref11_Steps.mono _ _ _ _)
   | (with_reducible exact LeO.refl _)
   | (with_reducible exact LeO.none _)
   | (with_reducible refine LeO.ite ?_ ?_)
   | (with_reducible refine LeO.bind ?_ (fun _ => ?_))
   | exact ih0 _ _ _ _
   | exact ih1 _ _ _ _ _
   | exact bourneref11_Right.mono _ _ _
   | exact bourneref11_Steps.mono _ _ _ _
   | exact LeO.none _
   | refine LeO.ite ?_ ?_
   | refine LeO.bind ?_ (fun _ => ?_)
  ·intro y0 y1 y2 y3 y4
   unfold bourneref11_Down.l0
   repeat' first
   | (with_reducible exact ih0 _ _ _ _)
   | (with_reducible exact ih1 _ _ _ _ _)
   | (with_reducible exact bourneref11_Right.mono _ _ _)
   | (with_reducible exact bourneref11_Steps.mono _ _ _ _)
   | (with_reducible exact LeO.refl _)
   | (with_reducible exact LeO.none _)
   | (with_reducible refine LeO.ite ?_ ?_)
   | (with_reducible refine LeO.bind ?_ (fun _ => ?_))
   | exact ih0 _ _ _ _
   | exact ih1 _ _ _ _ _
   | exact bourneref11_Right.mono _ _ _
   | exact bourneref11_Steps.mono _ _ _ _
   | exact LeO.none _
   | refine LeO.ite ?_ ?_
   | refine LeO.bind ?_ (fun _ => ?_)
theorem bourneref11_Down.mono : ∀ a0 a1 a2 k, LeO (bourneref11_Down.f k a0 a1 a2) (bourneref11_Down.f (k + 1) a0 a1 a2) := by
 intro a0 a1 a2 k
 obtain ⟨ih0, ih1⟩ := bourneref11_Down.mono_l k
 unfold bourneref11_Down.f
 repeat' first
   | (with_reducible exact ih0 _ _ _ _)
   | (with_reducible exact ih1 _ _ _ _ _)
   | (with_reducible exact bourneref11_Right.mono _ _ _)
   | (with_reducible exact bourneref11_Steps.mono _ _ _ _)
   | (with_reducible exact LeO.refl _)
   | (with_reducible exact LeO.none _)
   | (with_reducible refine LeO.ite ?_ ?_)
   | (with_reducible refine LeO.bind ?_ (fun _ => ?_))
   | exact ih0 _ _ _ _
   | exact ih1 _ _ _ _ _
   | exact bourneref11_Right.mono _ _ _
   | exact bourneref11_Steps.mono _ _ _ _
   | exact LeO.none _
   | refine LeO.ite ?_ ?_
   | refine LeO.bind ?_ (fun _ => ?_)
set_option maxHeartbeats 8000000 in
set_option maxRecDepth 100000 in
theorem bourneref11_Down.calls (k : Nat) (a0 : Int) (A1 : Option Addr) (c1 : Nat) (l1 : List (S31)) (a2 : Int) (r : List Int) (w : World) (hr1 : Kd.C k31 w A1 l1.length l1) (hc1 : l1.length ≤ c1) (h : bourneref11_Down.f k a0 l1 a2 = some r) :
  Calls Try.prog 23 #[.int .i64 a0, .slice A1 l1.length c1, .int .i64 a2] w fun e w' => ∃ v0_ : Value, e = .returned (v0_) ∧ Kd.R (Kd.int .i64) 3 w' w.heap.size (fun _ => True) v0_ r ∧ Below w.heap.size w w' := by
 have HR1 := Aside0.mk hr1; have HC1 := Aside0.mk hc1; clear hr1 hc1; have HB := Aside0.mk (Below.refl w.heap.size w); have H : ((bourneref11_Right.f k a0 l1).bind fun t411 => (if t411 = true then (if a2 < 0 then (bourneref11_Down.j0 k a0 l1 a2 true) else (bourneref11_Down.j0 k a0 l1 a2 (decide (a2 ≥ a0)))) else (bourneref11_Down.j0 k a0 l1 a2 true))) = some r := h
 clear h; replace H := Option.bind_eq_some_iff.mp H; obtain ⟨t411, A40, H⟩ := H; replace H : (if t411 = true then (if a2 < 0 then (bourneref11_Down.j0 k a0 l1 a2 true) else (bourneref11_Down.j0 k a0 l1 a2 (decide (a2 ≥ a0)))) else (bourneref11_Down.j0 k a0 l1 a2 true)) = some r := H
 have A4 := Aside0.mk A40; clear A40; have HC5 := Aside0.mk H; clear H; go_enter Try.func23, Try.ntmps23
 go_upto_region 2 with (first | ((with_reducible refine gate_callee (f := 22) rfl ?_); refine goesL_ (some 13) rfl rfl Try.func22 (by kernel_rfl) rfl #[.int .i64 a0, .slice A1 l1.length c1] rfl (by (try simp only [List.map_toArray, List.map_cons, List.map_nil]); first | done | rfl | (simp only [List.length_drop, List.length_take]; rfl)) ?_; (with_reducible refine (bourneref11_Right.calls k a0 _ _ l1 t411 _ ?side1 ?side2 A4.out).mono ?_); (case side1 => repeat (first | exact HR1.out | (with_reducible refine cAl ?_ _) | (with_reducible refine cDn ?_ _) | (with_reducible refine cDr ?_))); (case side2 => exact HC1.out); rintro e w' ⟨rfl, ⟨nd, rfl⟩⟩; refine ⟨_, rfl, ?_⟩))
 (try simp only [Act.put, List.setIfInBounds_toArray, List.set_cons_zero, List.set_cons_succ])
 go_cut [24] (fun v24 wc => ∃ (kq : Nat) (x24_4 : Bool), v24 = .bool x24_4 ∧ Aside0 (bourneref11_Down.j0 kq a0 l1 a2 x24_4 = some r) ∧ Aside0 (kq ≤ k) ∧ Aside0 (Below w.heap.size w wc))
 case first =>
  have H := HC5.out; clear HC5; by_cases c6 : t411 = true
  ·subst c6; have H1 : (if a2 < 0 then (bourneref11_Down.j0 k a0 l1 a2 true) else (bourneref11_Down.j0 k a0 l1 a2 (decide (a2 ≥ a0)))) = some r := by rw [if_pos rfl] at H; exact H
   clear H; have H := H1; clear H1; by_cases c7 : a2 < 0
   ·rw [if_pos c7] at H; have c7b0 : decide (a2 < 0) = true := decide_eq_true c7; clear c7; (first | rw [c7b0] | (simp only [i64_w, i32_w]; rw [c7b0]) | skip)
    have H' := Aside0.mk H; clear H; go_wp2
    go_meet
    case rel => exact ⟨_, (true), (by first | rfl | (simp; done) | (simp [*]; done)), H', ⟨by first | omega | exact Nat.le_refl _⟩, ⟨by repeat (first | (with_reducible first | exact HB.out | apply bAl | apply bDn | apply bD1) | exact HB.out)⟩⟩
   ·rw [if_neg c7] at H; have c7b0 : decide (a2 < 0) = false := decide_eq_false c7; clear c7; (first | rw [c7b0] | (simp only [i64_w, i32_w]; rw [c7b0]) | skip)
    have H' := Aside0.mk H; clear H; go_wp2
    go_meet
    case rel => exact ⟨_, (decide (a2 ≥ a0)), (by first | rfl | (simp; done) | (simp [*]; done)), H', ⟨by first | omega | exact Nat.le_refl _⟩, ⟨by repeat (first | (with_reducible first | exact HB.out | apply bAl | apply bDn | apply bD1) | exact HB.out)⟩⟩
  ·replace c6 := Bool.eq_false_iff.mpr c6; subst c6; have H1 : (bourneref11_Down.j0 k a0 l1 a2 true) = some r := by rw [if_neg (show ¬ (false = true) by decide)] at H; exact H
   clear H; have H := H1; clear H1; have H' := Aside0.mk H; clear H; go_wp2
   go_meet
   case rel => exact ⟨_, (true), (by first | rfl | (simp; done) | (simp [*]; done)), H', ⟨by first | omega | exact Nat.le_refl _⟩, ⟨by repeat (first | (with_reducible first | exact HB.out | apply bAl | apply bDn | apply bD1) | exact HB.out)⟩⟩
 case rest =>
  clear HC5; (try clear c1); (try clear c2); (try clear p2); (try clear c6); (try clear c7); (try clear c7b0); obtain ⟨kq, x24_4, rfl, HA, HJ4, HB⟩ := hcut
  cases kq with
  | zero => exact absurd HA.out (by simp [bourneref11_Down.j0])
  | succ kj4 =>
   have H := HA.out; clear HA; simp only [bourneref11_Down.j0] at H; by_cases c8 : x24_4 = true
   ·subst c8; have H1 : (some ([] : List Int)) = some r := by rw [if_pos rfl] at H; exact H
    clear H; have H := H1; clear H1; obtain rfl := Option.some.inj H; go_wp2
    go_ret
    exact ⟨_, by first | rfl | (simp [errW_none, errW_some] <;> rfl) | (simp [*, errW_none, errW_some] <;> rfl), by first | exact Kd.R_nil _ _ _ _ _ | exact Kd.N_nil _ _ _ _ _ | exact Kd.V_nil _ _ _ _ _ | exact Kd.Q_nil _ _ _ _ _ | exact Kd.S_nil _ _ _ _ _, by repeat (first | (with_reducible first | exact HB.out | apply bAl | apply bDn | apply bD1) | exact HB.out)⟩
   ·replace c8 := Bool.eq_false_iff.mpr c8; subst c8; have H1 : (bourneref11_Down.l0 kj4 a0 l1 a2 ([] : List Int) 0) = some r := by rw [if_neg (show ¬ (false = true) by decide)] at H; exact H
    clear H; have H := H1; clear H1; have H' := Aside0.mk H; clear H; go_wp2
    go_loopg [8, 9] kj4 (fun kq v8 v9 w' => ∃ (x8_2 : List Int) (x9_2 : Int), v9 = .int .i64 x9_2 ∧ Aside0 (bourneref11_Down.l0 kq a0 l1 a2 x8_2 x9_2 = some r) ∧ Aside0 (kq ≤ kj4) ∧ Aside0 (Kd.R (Kd.int .i64) 3 w' w.heap.size (fun _ => True) v8 x8_2) ∧ Aside0 (Below w.heap.size w w'))
    case atStart => exact ⟨(([] : List Int)), (0), (by first | rfl | (simp; done) | (simp [*]; done)), H', ⟨Nat.le_refl _⟩, ⟨by first | exact Kd.R_nil _ _ _ _ _ | exact Kd.N_nil _ _ _ _ _ | exact Kd.V_nil _ _ _ _ _ | exact Kd.Q_nil _ _ _ _ _ | exact Kd.S_nil _ _ _ _ _⟩, ⟨by repeat (first | (with_reducible first | exact HB.out | apply bAl | apply bDn | apply bD1) | exact HB.out)⟩⟩
    case round =>
     clear H'; (try clear c1); (try clear c2); (try clear p2); (try clear c6); (try clear c7); (try clear c7b0); (try clear c8); (try clear p2); obtain ⟨x8_2, x9_2, rfl, HA, HK2, HO_8, HB⟩ := hrel
     cases gk with
     | zero => exact absurd HA.out (by simp [bourneref11_Down.l0])
     | succ k2 =>
      have H := HA.out; clear HA; simp only [bourneref11_Down.l0] at H; by_cases c9 : x9_2 < a0
      ·rw [if_pos c9] at H; have c9b0 : decide (x9_2 < a0) = true := decide_eq_true c9; clear c9; replace H := Option.bind_eq_some_iff.mp H; obtain ⟨t412, A100, H⟩ := H; replace H : (if 0 ≤ a2 then (if a2 < (t412.length : Int) then (if (rd t412 a2) ≥ 0 then (if x8_2.length < 17592186044416 then (bourneref11_Down.l0 k2 a0 l1 a2 (x8_2 ++ [x9_2]) (wrap64 (x9_2 + 1))) else (none)) else (bourneref11_Down.l0 k2 a0 l1 a2 x8_2 (wrap64 (x9_2 + 1)))) else (none)) else (none)) = some r := H
       have A10 := Aside0.mk A100; clear A100; by_cases c11 : 0 ≤ a2
       ·rw [if_pos c11] at H; have c11b0 : decide (0 ≤ a2) = true := decide_eq_true c11; clear c11; by_cases c12 : a2 < (t412.length : Int)
        ·rw [if_pos c12] at H; have c12b0 : decide (a2 < (t412.length : Int)) = true := decide_eq_true c12; clear c12; by_cases c13 : (rd t412 a2) ≥ 0
         ·rw [if_pos c13] at H; have c13b0 : decide (0 ≤ (rd t412 a2)) = true := decide_eq_true c13; clear c13; by_cases c14 : x8_2.length < 17592186044416
          ·rw [if_pos c14] at H; have LMc14 := Aside0.mk c14; clear c14; obtain ⟨y416, hy416⟩ : ∃ y_ : List Int, y_ = (x8_2 ++ [x9_2]) := ⟨_, rfl⟩
           replace H : (bourneref11_Down.l0 k2 a0 l1 a2 y416 (wrap64 (x9_2 + 1))) = some r := by first | (rw [hy416]; with_reducible exact H) | (have H2_ := (Option.bind_some _ _).symm.trans H; rw [hy416]; with_reducible exact H2_) | (have H2_ := (Option.bind_some _ _).symm.trans H; with_reducible exact H2_) | with_reducible exact H | (rw [hy416]; exact H) | exact H
           have Ny416 := Aside0.mk hy416; clear hy416; have H' := Aside0.mk H; clear H; go_wp2_with (first | ((with_reducible refine gate_callee (f := 35) rfl ?_); refine goesL_ (some 33) rfl rfl Try.func35 (by kernel_rfl) rfl #[.int .i64 a0, .slice A1 l1.length c1, .int .i64 x9_2] rfl (by (try simp only [List.map_toArray, List.map_cons, List.map_nil]); first | done | rfl | (simp only [List.length_drop, List.length_take]; rfl)) ?_; (with_reducible refine (bourneref11_Steps.calls k2 a0 _ _ l1 x9_2 t412 _ ?side1 ?side2 A10.out).mono ?_); (case side1 => repeat (first | exact (Kd.C_below HR1.out HB.out) | (with_reducible refine cAl ?_ _) | (with_reducible refine cDn ?_ _) | (with_reducible refine cDr ?_))); (case side2 => exact HC1.out); rintro e w15 ⟨v413, rfl, ho0, hb⟩; refine ⟨_, rfl, ?_⟩; have n0_ := Aside0.mk (Kd.R_elder' (by (with_reducible repeat (first | apply rAl | apply rDn | apply rDr)); exact HO_8.out) (Kd.R_base ho0) hb); have n1_ := Aside0.mk (Kd.R_lower (Kd.R_new' ho0 (Kd.R_lt (by (with_reducible repeat (first | apply rAl | apply rDn | apply rDr)); exact HO_8.out))) (below_size (by repeat (first | (with_reducible first | exact HB.out | apply bAl | apply bDn | apply bD1) | exact HB.out)))); have n2_ := Aside0.mk (below_step (by repeat (first | (with_reducible first | exact HB.out | apply bAl | apply bDn | apply bD1) | exact HB.out)) hb); clear HO_8; clear HB; have HO_8 := n0_; have HO414 := n1_; have HB := n2_; clear n0_ n1_ n2_; (try clear hb); (try clear hb2); (try clear hk); (try clear hi); (try clear ho0); obtain ⟨Ao16, co16, eo16⟩ := Kd.R_slice HO414.out; subst eo16; have p415 : 0 ≤ (a2 : Int) := odt (by first | (with_reducible assumption) | assumption); have q415 : a2 < (t412.length : Int) := odt (by first | (with_reducible assumption) | assumption); obtain ⟨ad415, e415, hx415_0⟩ := Kd.at_int (Kd.R_reads' HO414.out).2.2 a2 p415 q415; cases e415; replace p415 := eq_true p415; replace q415 := eq_true q415) | ((with_reducible refine gate_builtin (b := .append) (xs := #[.tmp 39, .tmp 41]) rfl ?_); at_builtin; refine Kd.R_append (Kd.int .i64) (w0 := w) w.heap.size rfl (.tmp 39) (.tmp 41) 25 3 (.int .i64 0) 8 rfl Try.underlying25 info3 rfl (by decide) (by omega) u8 x8_2 x9_2 [.int .i64 x9_2] (fun k_ => some k_ ≠ (.slice (some ad415) t412.length co16 : Value).ownBlock) (fun _ => False) rfl rfl ?aP (fun _ hk => hk.elim) ?aF ?aO ?aB ?aS ?aL ?_; (case aP => exact rfl); (case aB => exact (by repeat (first | (with_reducible first | exact HB.out | apply bAl | apply bDn | apply bD1) | exact HB.out))); (case aF => exact (fun k_ hk => Kd.fresh' (Kd.R_lt (by (with_reducible repeat (first | apply rAl | apply rDn | apply rDr)); exact HO414.out)) k_ hk)); (case aO => exact (by (with_reducible repeat (first | apply rAl | apply rDn | apply rDr)); exact Kd.R_mono HO_8.out (fun _ hk => hk.2))); (case aS => exact (below_size (by repeat (first | (with_reducible first | exact HB.out | apply bAl | apply bDn | apply bD1) | exact HB.out)))); (case aL => have := LMc14.out; omega); intro v417 w17 ho hb hg hat; rw [← Ny416.out] at ho; have n0_ := Aside0.mk (Kd.R_after (ok := (fun _ => True)) (by (with_reducible repeat (first | apply rAl | apply rDn | apply rDr)); exact HO414.out) hg hat); have n1_ := Aside0.mk (hb); have n2_ := Aside0.mk (ho); clear HO414; clear HB; clear HO_8; have HO414 := n0_; have HB := n1_; have HO418 := n2_; clear n0_ n1_ n2_; clear ho hb hg hat))
           go_roundg k2
           case measure => have := HJ4.out; have := HK2.out; omega
           case rel => exact ⟨(y416), (wrap64 (x9_2 + 1)), (by first | rfl | (simp; done) | (simp [*]; done)), H', ⟨by have := HJ4.out; have := HK2.out; omega⟩, ⟨by (with_reducible repeat (first | apply rAl | apply rDn | apply rDr)); exact Kd.R_mono HO418.out (fun _ hk => trivial)⟩, ⟨by repeat (first | (with_reducible first | exact HB.out | apply bAl | apply bDn | apply bD1) | exact HB.out)⟩⟩
          ·rw [if_neg c14] at H; exact absurd H (by simp)
         ·rw [if_neg c13] at H; have c13b0 : decide (0 ≤ (rd t412 a2)) = false := decide_eq_false c13; clear c13; have H' := Aside0.mk H; clear H; go_wp2_with (first | ((with_reducible refine gate_callee (f := 35) rfl ?_); refine goesL_ (some 33) rfl rfl Try.func35 (by kernel_rfl) rfl #[.int .i64 a0, .slice A1 l1.length c1, .int .i64 x9_2] rfl (by (try simp only [List.map_toArray, List.map_cons, List.map_nil]); first | done | rfl | (simp only [List.length_drop, List.length_take]; rfl)) ?_; (with_reducible refine (bourneref11_Steps.calls k2 a0 _ _ l1 x9_2 t412 _ ?side1 ?side2 A10.out).mono ?_); (case side1 => repeat (first | exact (Kd.C_below HR1.out HB.out) | (with_reducible refine cAl ?_ _) | (with_reducible refine cDn ?_ _) | (with_reducible refine cDr ?_))); (case side2 => exact HC1.out); rintro e w18 ⟨v413, rfl, ho0, hb⟩; refine ⟨_, rfl, ?_⟩; have n0_ := Aside0.mk (Kd.R_elder' (by (with_reducible repeat (first | apply rAl | apply rDn | apply rDr)); exact HO_8.out) (Kd.R_base ho0) hb); have n1_ := Aside0.mk (Kd.R_lower (Kd.R_new' ho0 (Kd.R_lt (by (with_reducible repeat (first | apply rAl | apply rDn | apply rDr)); exact HO_8.out))) (below_size (by repeat (first | (with_reducible first | exact HB.out | apply bAl | apply bDn | apply bD1) | exact HB.out)))); have n2_ := Aside0.mk (below_step (by repeat (first | (with_reducible first | exact HB.out | apply bAl | apply bDn | apply bD1) | exact HB.out)) hb); clear HO_8; clear HB; have HO_8 := n0_; have HO414 := n1_; have HB := n2_; clear n0_ n1_ n2_; (try clear hb); (try clear hb2); (try clear hk); (try clear hi); (try clear ho0); obtain ⟨Ao19, co19, eo19⟩ := Kd.R_slice HO414.out; subst eo19; have p415 : 0 ≤ (a2 : Int) := odt (by first | (with_reducible assumption) | assumption); have q415 : a2 < (t412.length : Int) := odt (by first | (with_reducible assumption) | assumption); obtain ⟨ad415, e415, hx415_0⟩ := Kd.at_int (Kd.R_reads' HO414.out).2.2 a2 p415 q415; cases e415; replace p415 := eq_true p415; replace q415 := eq_true q415))
          go_roundg k2
          case measure => have := HJ4.out; have := HK2.out; omega
          case rel => exact ⟨(x8_2), (wrap64 (x9_2 + 1)), (by first | rfl | (simp; done) | (simp [*]; done)), H', ⟨by have := HJ4.out; have := HK2.out; omega⟩, ⟨by (with_reducible repeat (first | apply rAl | apply rDn | apply rDr)); exact Kd.R_mono HO_8.out (fun _ hk => trivial)⟩, ⟨by repeat (first | (with_reducible first | exact HB.out | apply bAl | apply bDn | apply bD1) | exact HB.out)⟩⟩
        ·rw [if_neg c12] at H; exact absurd H (by simp)
       ·rw [if_neg c11] at H; exact absurd H (by simp)
      ·rw [if_neg c9] at H; have c9b0 : decide (x9_2 < a0) = false := decide_eq_false c9; clear c9; obtain rfl := Option.some.inj H; go_wp2
       go_ret
       exact ⟨_, by first | rfl | (simp [errW_none, errW_some] <;> rfl) | (simp [*, errW_none, errW_some] <;> rfl), by (with_reducible repeat (first | apply rAl | apply rDn | apply rDr)); exact HO_8.out, by repeat (first | (with_reducible first | exact HB.out | apply bAl | apply bDn | apply bD1) | exact HB.out)⟩
end Go.Proofs.Ytibnodjlcaodeaa.G
