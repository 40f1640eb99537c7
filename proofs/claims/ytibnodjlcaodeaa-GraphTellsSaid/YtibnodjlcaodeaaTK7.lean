-- written by gprint.py, a program of this session that drives the kit's printer with functions hooked, and made short; Lean checks every line
import Derived.Test.YtibnodjlcaodeaaTK0
import Derived.Test.YtibnodjlcaodeaaTHClone
namespace Go.Proofs.Ytibnodjlcaodeaa.G
open Go.RowKit Go.Proofs.YtibnodjlcaodeaaW.PrintWords Go.Proofs.YtibnodjlcaodeaaW.PrintLast Go.Proofs.YtibnodjlcaodeaaW.PrintMore
attribute [local go_sem] max2_int min2_int max_two min_two max_three min_three max_four min_four   -- for this text's walks alone
set_option linter.unusedVariables false
set_option linter.unusedSimpArgs false
/-! ### graph_far: function 33 -/
mutual
def graph_far.l0 : Nat → List (List Int) → List Int → List Int → Int → Int → Option (List Int)
 | 0, _, _, _, _, _ => none
 | k + 1, x1, x2, x7, x18, x19 => if x19 < x18 then (if 0 ≤ x19 then (if x19 < (x7.length : Int) then (graph_far.l0 k x1 x2 (x7.set (x19 : Int).toNat (-1)) x18 (wrap64 (x19 + 1))) else (none)) else (none)) else ((slices_Clone_int_int.f x2).bind fun t131 => (graph_far.l1 k x1 x7 t131 x2 (x2.length : Int) 0))
def graph_far.l1 : Nat → List (List Int) → List Int → List Int → List Int → Int → Int → Option (List Int)
 | 0, _, _, _, _, _, _ => none
 | k + 1, x1, x7, x9, x28, x29, x30 => if x30 < x29 then (if 0 ≤ x30 then (if x30 < (x28.length : Int) then (if 0 ≤ (rd x28 x30) then (if (rd x28 x30) < (x7.length : Int) then (graph_far.l1 k x1 (x7.set ((rd x28 x30) : Int).toNat 0) x9 x28 x29 (wrap64 (x30 + 1))) else (none)) else (none)) else (none)) else (none)) else (graph_far.l2 k x1 x7 x9)
def graph_far.l2 : Nat → List (List Int) → List Int → List Int → Option (List Int)
 | 0, _, _, _ => none
 | k + 1, x1, x7, x9 => if (x9.length : Int) > 0 then (if 0 < (x9.length : Int) then (if 1 ≤ (x9.length : Int) then (if 0 ≤ (rd x9 0) then (if (rd x9 0) < (x1.length : Int) then (graph_far.l3 k x1 x7 (x9.drop (1 : Int).toNat) (rd x9 0) (rd_L4 x1 (rd x9 0)) ((rd_L4 x1 (rd x9 0)).length : Int) 0) else (none)) else (none)) else (none)) else (none)) else (some x7)
def graph_far.l3 : Nat → List (List Int) → List Int → List Int → Int → List Int → Int → Int → Option (List Int)
 | 0, _, _, _, _, _, _, _ => none
 | k + 1, x1, x7, x9, x12, x49, x50, x51 => if x51 < x50 then (if 0 ≤ x51 then (if x51 < (x49.length : Int) then (if 0 ≤ (rd x49 x51) then (if (rd x49 x51) < (x7.length : Int) then (if (rd x7 (rd x49 x51)) < 0 then (if 0 ≤ x12 then (if x12 < (x7.length : Int) then (if x9.length < 17592186044416 then (graph_far.l3 k x1 (x7.set ((rd x49 x51) : Int).toNat (wrap64 ((rd x7 x12) + 1))) (x9 ++ [rd x49 x51]) x12 x49 x50 (wrap64 (x51 + 1))) else (none)) else (none)) else (none)) else (graph_far.l3 k x1 x7 x9 x12 x49 x50 (wrap64 (x51 + 1)))) else (none)) else (none)) else (none)) else (none)) else (graph_far.l2 k x1 x7 x9)
end
def graph_far.f (k : Nat) (a0 : Int) (l1 : List (List Int)) (l2 : List Int) : Option (List Int) := if 0 ≤ a0 then (if (a0 : Int).toNat ≤ 35184372088832 then ((some (List.replicate (a0 : Int).toNat 0 : List Int)).bind fun y127 => (graph_far.l0 k l1 l2 y127 (y127.length : Int) 0)) else (none)) else (none)
theorem graph_far.mono_l : ∀ k, (∀ y0 y1 y2 y3 y4, LeO (graph_far.l0 k y0 y1 y2 y3 y4) (graph_far.l0 (k + 1) y0 y1 y2 y3 y4)) ∧ (∀ y0 y1 y2 y3 y4 y5, LeO (graph_far.l1 k y0 y1 y2 y3 y4 y5) (graph_far.l1 (k + 1) y0 y1 y2 y3 y4 y5)) ∧ (∀ y0 y1 y2, LeO (graph_far.l2 k y0 y1 y2) (graph_far.l2 (k + 1) y0 y1 y2)) ∧ (∀ y0 y1 y2 y3 y4 y5 y6, LeO (graph_far.l3 k y0 y1 y2 y3 y4 y5 y6) (graph_far.l3 (k + 1) y0 y1 y2 y3 y4 y5 y6))
 | 0 => ⟨fun _ _ _ _ _ r h => by simp [graph_far.l0] at h, fun _ _ _ _ _ _ r h => by simp [graph_far.l1] at h, fun _ _ _ r h => by simp [graph_far.l2] at h, fun _ _ _ _ _ _ _ r h => by simp [graph_far.l3] at h⟩
 | k + 1 => by
  obtain ⟨ih0, ih1, ih2, ih3⟩ := graph_far.mono_l k
  refine ⟨?_, ?_, ?_, ?_⟩
  ·intro y0 y1 y2 y3 y4
   unfold graph_far.l0
   repeat' first
   | (with_reducible exact ih0 _ _ _ _ _)
   | (with_reducible exact ih1 _ _ _ _ _ _)
   | (with_reducible exact ih2 _ _ _)
   | (with_reducible exact ih3 _ _ _ _ _ _ _)
   | (with_reducible exact LeO.refl _)
   | (with_reducible exact LeO.none _)
   | (with_reducible refine LeO.ite ?_ ?_)
   | (with_reducible refine LeO.bind ?_ (fun _ => ?_))
   | exact ih0 _ _ _ _ _
   | exact ih1 _ _ _ _ _ _
   | exact ih2 _ _ _
   | exact ih3 _ _ _ _ _ _ _
   | exact LeO.none _
   | refine LeO.ite ?_ ?_
   | refine LeO.bind ?_ (fun _ => ?_)
  ·intro y0 y1 y2 y3 y4 y5
   unfold graph_far.l1
   repeat' first
   | (with_reducible exact ih0 _ _ _ _ _)
   | (with_reducible exact ih1 _ _ _ _ _ _)
   | (with_reducible exact ih2 _ _ _)
   | (with_reducible exact ih3 _ _ _ _ _ _ _)
   | (with_reducible exact LeO.refl _)
   | (with_reducible exact LeO.none _)
   | (with_reducible refine LeO.ite ?_ ?_)
   | (with_reducible refine LeO.bind ?_ (fun _ => ?_))
   | exact ih0 _ _ _ _ _
   | exact ih1 _ _ _ _ _ _
   | exact ih2 _ _ _
   | exact ih3 _ _ _ _ _ _ _
   | exact LeO.none _
   | refine LeO.ite ?_ ?_
   | refine LeO.bind ?_ (fun _ => ?_)
  ·intro y0 y1 y2
   unfold graph_far.l2
   repeat' first
   | (with_reducible exact ih0 _ _ _ _ _)
   | (with_reducible exact ih1 _ _ _ _ _ _)
   | (with_reducible exact ih2 _ _ _)
   | (with_reducible exact ih3 _ _ _ _ _ _ _)
   | (with_reducible exact LeO.refl _)
   | (with_reducible exact LeO.none _)
   | (with_reducible refine LeO.ite ?_ ?_)
   | (with_reducible refine LeO.bind ?_ (fun _ => ?_))
   | exact ih0 _ _ _ _ _
   | exact ih1 _ _ _ _ _ _
   | exact ih2 _ _ _
   | exact ih3 _ _ _ _ _ _ _
   | exact LeO.none _
   | refine LeO.ite ?_ ?_
   | refine LeO.bind ?_ (fun _ => ?_)
  ·intro y0 y1 y2 y3 y4 y5 y6
   unfold graph_far.l3
   repeat' first
   | (with_reducible exact ih0 _ _ _ _ _)
   | (with_reducible exact ih1 _ _ _ _ _ _)
   | (with_reducible exact ih2 _ _ _)
   | (with_reducible exact ih3 _ _ _ _ _ _ _)
   | (with_reducible exact LeO.refl _)
   | (with_reducible exact LeO.none _)
   | (with_reducible refine LeO.ite ?_ ?_)
   | (with_reducible refine LeO.bind ?_ (fun _ => ?_))
   | exact ih0 _ _ _ _ _
   | exact ih1 _ _ _ _ _ _
   | exact ih2 _ _ _
   | exact ih3 _ _ _ _ _ _ _
   | exact LeO.none _
   | refine LeO.ite ?_ ?_
   | refine LeO.bind ?_ (fun _ => ?_)
theorem graph_far.mono : ∀ a0 a1 a2 k, LeO (graph_far.f k a0 a1 a2) (graph_far.f (k + 1) a0 a1 a2) := by
 intro a0 a1 a2 k
 obtain ⟨ih0, ih1, ih2, ih3⟩ := graph_far.mono_l k
 unfold graph_far.f
 repeat' first
   | (with_reducible exact ih0 _ _ _ _ _)
   | (with_reducible exact ih1 _ _ _ _ _ _)
   | (with_reducible exact ih2 _ _ _)
   | (with_reducible exact ih3 _ _ _ _ _ _ _)
   | (with_reducible exact LeO.refl _)
   | (with_reducible exact LeO.none _)
   | (with_reducible refine LeO.ite ?_ ?_)
   | (with_reducible refine LeO.bind ?_ (fun _ => ?_))
   | exact ih0 _ _ _ _ _
   | exact ih1 _ _ _ _ _ _
   | exact ih2 _ _ _
   | exact ih3 _ _ _ _ _ _ _
   | exact LeO.none _
   | refine LeO.ite ?_ ?_
   | refine LeO.bind ?_ (fun _ => ?_)
set_option maxHeartbeats 8000000 in
set_option maxRecDepth 100000 in
theorem graph_far.calls (k : Nat) (a0 : Int) (A1 : Option Addr) (c1 : Nat) (l1 : List (List Int)) (A2 : Option Addr) (c2 : Nat) (l2 : List Int) (r : List Int) (w : World) (hr1 : Kd.C (Kd.slice 3 (Kd.int .i64)) w A1 l1.length l1) (hc1 : l1.length ≤ c1) (hr2 : Kd.C (Kd.int .i64) w A2 l2.length l2) (hc2 : l2.length ≤ c2) (h : graph_far.f k a0 l1 l2 = some r) :
  Calls Try.prog 33 #[.int .i64 a0, .slice A1 l1.length c1, .slice A2 l2.length c2] w fun e w' => ∃ v0_ : Value, e = .returned (v0_) ∧ Kd.R (Kd.int .i64) 3 w' w.heap.size (fun _ => True) v0_ r ∧ Below w.heap.size w w' := by
 have HR1 := Aside0.mk hr1; have HC1 := Aside0.mk hc1; clear hr1 hc1; have HR2 := Aside0.mk hr2; have HC2 := Aside0.mk hc2; clear hr2 hc2; have HB := Aside0.mk (Below.refl w.heap.size w); have H : (if 0 ≤ a0 then (if (a0 : Int).toNat ≤ 35184372088832 then ((some (List.replicate (a0 : Int).toNat 0 : List Int)).bind fun y127 => (graph_far.l0 k l1 l2 y127 (y127.length : Int) 0)) else (none)) else (none)) = some r := h
 clear h; by_cases c4 : 0 ≤ a0
 ·rw [if_pos c4] at H; have c4b0 := eq_true c4; have c4b1 : decide (0 ≤ a0) = true := decide_eq_true c4; clear c4; by_cases c5 : (a0 : Int).toNat ≤ 35184372088832
  ·rw [if_pos c5] at H; have c5b0 := eq_true c5; have c5b1 : decide ((a0 : Int).toNat ≤ 35184372088832) = true := decide_eq_true c5; clear c5; obtain ⟨y127, hy127⟩ : ∃ y_ : List Int, y_ = (List.replicate (a0 : Int).toNat 0) := ⟨_, rfl⟩
   replace H : (graph_far.l0 k l1 l2 y127 (y127.length : Int) 0) = some r := by first | (rw [hy127]; with_reducible exact H) | (have H2_ := (Option.bind_some _ _).symm.trans H; rw [hy127]; with_reducible exact H2_) | (have H2_ := (Option.bind_some _ _).symm.trans H; with_reducible exact H2_) | with_reducible exact H | (rw [hy127]; exact H) | exact H
   have Ny127 := Aside0.mk hy127; clear hy127; have H' := Aside0.mk H; clear H; go_enter Try.func33, Try.ntmps33
   go_wp2_with (first | ((with_reducible refine gate_dst (N := 16) rfl ?_); refine Kd.R_make (Kd.int .i64) _ 3 rfl (N := 16) rfl 25 _ _ rfl a0 rfl rfl Try.underlying25 (.int .i64 0) 8 info3 rfl (by decide) (by omega) 0 (ok := fun _ => True) (okp := fun _ => True) rfl (fun _ hk => hk) trivial (odt (by first | (with_reducible assumption) | assumption)) (Nat.le_trans (Nat.mul_le_mul_right _ (odt (by first | (with_reducible assumption) | assumption) : a0.toNat ≤ 35184372088832)) (by omega)) (Below.refl _ _) (Nat.le_refl _) ?_; intro v128 w6 ho7 hb hg_ hnew_; clear hg_ hnew_; (first | rw [← Ny127.out] at ho7 | (simp only [Int.reduceToNat] at ho7; rw [← Ny127.out] at ho7)); have n0_ := Aside0.mk (Kd.R_lower ho7 (below_size (by repeat (first | (with_reducible first | exact HB.out | apply bAl | apply bDn | apply bD1) | exact HB.out)))); have n1_ := Aside0.mk (below_step (by repeat (first | (with_reducible first | exact HB.out | apply bAl | apply bDn | apply bD1) | exact HB.out)) hb); clear HB; have HO129 := n0_; have HB := n1_; clear n0_ n1_; clear hb ho7; obtain ⟨Ao8, co8, eo8⟩ := Kd.R_slice HO129.out; subst eo8))
   go_loopg [19] k (fun kq v19 w' => ∃ (x7_1 : List Int) (x19_1 : Int), v19 = .int .i64 x19_1 ∧ Aside0 (graph_far.l0 kq l1 l2 x7_1 (y127.length : Int) x19_1 = some r) ∧ Aside0 (kq ≤ k) ∧ Aside0 (Kd.R (Kd.int .i64) 3 w' w.heap.size (fun _ => True) (.slice Ao8 y127.length co8) x7_1) ∧ Aside0 (Below w.heap.size w w'))
   case atStart => exact ⟨(y127), (0), (by first | rfl | (simp; done) | (simp [*]; done)), H', ⟨Nat.le_refl _⟩, ⟨by (with_reducible repeat (first | apply rAl | apply rDn | apply rDr)); exact HO129.out⟩, ⟨by repeat (first | (with_reducible first | exact HB.out | apply bAl | apply bDn | apply bD1) | exact HB.out)⟩⟩
   case round =>
    clear H'; (try clear c1); (try clear c2); (try clear p2); (try clear c3); (try clear c4); (try clear c4b0); (try clear c4b1); (try clear c5); (try clear c5b0); (try clear c5b1); obtain ⟨x7_1, x19_1, rfl, HA, HK1, HO_7, HB⟩ := hrel; have hl7_1 := (Kd.R_reads' HO_7.out).1
    rw [hl7_1] at HO_7; (try simp only [hl7_1])
    cases gk with
    | zero => exact absurd HA.out (by simp [graph_far.l0])
    | succ k1 =>
     have H := HA.out; clear HA; simp only [graph_far.l0] at H; by_cases c9 : x19_1 < (y127.length : Int)
     ·rw [if_pos c9] at H; have c9b0 : decide (x19_1 < (y127.length : Int)) = true := decide_eq_true c9; (try (have c9b0z := c9b0; simp only [hl7_1] at c9b0z))
      clear c9; by_cases c10 : 0 ≤ x19_1
      ·rw [if_pos c10] at H; have c10b0 : decide (0 ≤ x19_1) = true := decide_eq_true c10; (try (have c10b0z := c10b0; simp only [hl7_1] at c10b0z))
       clear c10; by_cases c11 : x19_1 < (x7_1.length : Int)
       ·rw [if_pos c11] at H; have c11b0 : decide (x19_1 < (x7_1.length : Int)) = true := decide_eq_true c11; (try (have c11b0z := c11b0; simp only [hl7_1] at c11b0z))
        clear c11; obtain ⟨y130, hy130⟩ : ∃ y_ : List Int, y_ = (x7_1.set (x19_1 : Int).toNat (-1)) := ⟨_, rfl⟩
        replace H : (graph_far.l0 k1 l1 l2 y130 (y127.length : Int) (wrap64 (x19_1 + 1))) = some r := by first | (rw [hy130]; with_reducible exact H) | (have H2_ := (Option.bind_some _ _).symm.trans H; rw [hy130]; with_reducible exact H2_) | (have H2_ := (Option.bind_some _ _).symm.trans H; with_reducible exact H2_) | with_reducible exact H | (rw [hy130]; exact H) | exact H
        have Ny130 := Aside0.mk hy130; clear hy130; have H' := Aside0.mk H; clear H; have p12 : 0 ≤ (x19_1 : Int) := odt (by first | (with_reducible assumption) | assumption); have q12 : (x19_1 : Int) < ((x7_1.length : Int) : Int) := odt (by first | (with_reducible assumption) | assumption); obtain ⟨go12, co12, eo12, gb12, gl12, cl12, HG12⟩ := Kd.R_form HO_7.out (by omega)
        (first | cases eo12 | (injection eo12 with ea_ en_ ec_; (first | subst ea_ | (injection ea_ with ea_; subst ea_)); subst ec_; clear en_))
        have GB12 := Aside0.mk gb12; have GG12 := Aside0.mk HG12; clear gb12 gl12 HG12; obtain ⟨hx12_0, hf12_0⟩ := Kd.R_celln 0 HO_7.out (x19_1 : Int) p12 q12
        replace p12 := eq_true p12; replace q12 := eq_true q12; have HP13 := Kd.R_putg HO_7.out (x19_1 : Int) (-1)
        go_wp2_with (first | ((with_reducible refine gate_store (t := 3) (p := 24) rfl ?_); refine store_event (t := 3) (p := 24) (v := ?vo_w14) (w1 := (wr.setCell ⟨go12, (x19_1 : Int).toNat, none⟩ (.int .i64 (-1)))) ?hg ?ho ?hn ?hr ?_; (case ho => rfl); (case hg => rfl); (case hn => rfl); (case hr => first | (go_simp; done) | (go_simp; rfl)); intro w14 hw; have hg : wr.grownBy w14 (some go12) := (by rw [hw]; exact HP13.2); have hp_ : Kd.R (Kd.int .i64) 3 w14 w.heap.size (fun _ => True) (.slice (some ⟨go12, 0, none⟩) x7_1.length co8) y130 := (by rw [hw, Ny130.out]; exact HP13.1); clear HP13; have n0_ := Aside0.mk (hp_); have n1_ := Aside0.mk ((by rw [hw]; exact below_set (HB.out) GB12.out : Below w.heap.size w w14)); clear HO_7; clear HB; have HO_7 := n0_; have HB := n1_; clear n0_ n1_; clear hg hw hp_))
        (try simp only [← hl7_1])
        go_roundg k1
        case measure => have := HK1.out; omega
        case rel => exact ⟨(y130), (wrap64 (x19_1 + 1)), (by first | rfl | (simp; done) | (simp [*]; done)), H', ⟨by have := HK1.out; omega⟩, ⟨by (try simp only [hl7_1]); (with_reducible repeat (first | apply rAl | apply rDn | apply rDr)); exact HO_7.out⟩, ⟨by repeat (first | (with_reducible first | exact HB.out | apply bAl | apply bDn | apply bD1) | exact HB.out)⟩⟩
       ·rw [if_neg c11] at H; exact absurd H (by simp)
      ·rw [if_neg c10] at H; exact absurd H (by simp)
     ·rw [if_neg c9] at H; have c9b0 : decide (x19_1 < (y127.length : Int)) = false := decide_eq_false c9; (try (have c9b0z := c9b0; simp only [hl7_1] at c9b0z))
      clear c9; replace H := Option.bind_eq_some_iff.mp H; obtain ⟨t131, A150, H⟩ := H; replace H : (graph_far.l1 k1 l1 x7_1 t131 l2 (l2.length : Int) 0) = some r := H
      have A15 := Aside0.mk A150; clear A150; have H' := Aside0.mk H; clear H; go_wp2_with (first | ((with_reducible refine gate_callee (f := 39) rfl ?_); refine goesL_ (some 27) rfl rfl Try.func39 (by kernel_rfl) rfl #[.slice A2 l2.length c2] rfl (by (try simp only [List.map_toArray, List.map_cons, List.map_nil]); first | done | rfl | (simp only [List.length_drop, List.length_take]; rfl)) ?_; (with_reducible refine (slices_Clone_int_int.calls _ _ l2 t131 _ ?side1 ?side2 A15.out).mono ?_); (case side1 => repeat (first | exact (Kd.C_below HR2.out HB.out) | (with_reducible refine cAl ?_ _) | (with_reducible refine cDn ?_ _) | (with_reducible refine cDr ?_))); (case side2 => exact HC2.out); rintro e w16 ⟨v132, rfl, ho0, hb⟩; refine ⟨_, rfl, ?_⟩; have n0_ := Aside0.mk (Kd.R_elder' (by (with_reducible repeat (first | apply rAl | apply rDn | apply rDr)); exact HO_7.out) (Kd.R_base ho0) hb); have n1_ := Aside0.mk (Kd.R_lower (Kd.R_new' ho0 (Kd.R_lt (by (with_reducible repeat (first | apply rAl | apply rDn | apply rDr)); exact HO_7.out))) (below_size (by repeat (first | (with_reducible first | exact HB.out | apply bAl | apply bDn | apply bD1) | exact HB.out)))); have n2_ := Aside0.mk (below_step (by repeat (first | (with_reducible first | exact HB.out | apply bAl | apply bDn | apply bD1) | exact HB.out)) hb); clear HO_7; clear HB; have HO_7 := n0_; have HO133 := n1_; have HB := n2_; clear n0_ n1_ n2_; (try clear hb); (try clear hb2); (try clear hk); (try clear hi); (try clear ho0)))
      go_loopg [30] k1 (fun kq v30 w' => ∃ (x7_2 : List Int) (x30_2 : Int), v30 = .int .i64 x30_2 ∧ Aside0 (graph_far.l1 kq l1 x7_2 t131 l2 (l2.length : Int) x30_2 = some r) ∧ Aside0 (kq ≤ k1) ∧ Aside0 (Kd.R (Kd.int .i64) 3 w' w.heap.size (fun k_ => some k_ ≠ (v132 : Value).ownBlock) (.slice Ao8 x7_1.length co8) x7_2) ∧ Aside0 (Kd.Q (Kd.int .i64) 3 w' w.heap.size (fun k_ => some k_ ≠ ((.slice Ao8 x7_1.length co8) : Value).ownBlock) v132 t131) ∧ Aside0 (Below w.heap.size w w'))
      case atStart => exact ⟨(x7_1), (0), (by first | rfl | (simp; done) | (simp [*]; done)), H', ⟨Nat.le_refl _⟩, ⟨by (try simp only [hl7_1]); (with_reducible repeat (first | apply rAl | apply rDn | apply rDr)); exact Kd.R_mono HO_7.out (fun _ hk => hk.2)⟩, ⟨Kd.Q_of_R (by (try simp only [hl7_1]); (with_reducible repeat (first | apply rAl | apply rDn | apply rDr)); exact Kd.R_mono HO133.out (fun _ hk => hk.2))⟩, ⟨by repeat (first | (with_reducible first | exact HB.out | apply bAl | apply bDn | apply bD1) | exact HB.out)⟩⟩
      case round =>
       clear H'; (try clear c1); (try clear p1); (try clear q1); (try clear hx1); (try clear c2); (try clear p2); (try clear c3); (try clear c4); (try clear c4b0); (try clear c4b1); (try clear c5); (try clear c5b0); (try clear c5b1); (try clear p6); (try clear c9); (try clear c9b0); (try clear c10); (try clear c10b0); (try clear c11); (try clear c11b0); (try clear p12); (try clear q12); (try clear hx12); (try clear hf12); (try clear hx12_0); (try clear p12); (try clear p2); (try clear q12); obtain ⟨x7_2, x30_2, rfl, HA, HK2, HO_7, HO_9, HB⟩ := hrel; have hl7_2 := (Kd.R_reads' HO_7.out).1
       rw [hl7_2] at HO_7; (try simp only [hl7_2])
       (try simp only [hl7_2] at HO_9)
       cases gk with
       | zero => exact absurd HA.out (by simp [graph_far.l1])
       | succ k2 =>
        have H := HA.out; clear HA; simp only [graph_far.l1] at H; by_cases c17 : x30_2 < (l2.length : Int)
        ·rw [if_pos c17] at H; have c17b0 : decide (x30_2 < (l2.length : Int)) = true := decide_eq_true c17; (try (have c17b0z := c17b0; simp only [hl7_1, hl7_2] at c17b0z))
         clear c17; by_cases c18 : 0 ≤ x30_2
         ·rw [if_pos c18] at H; have c18b0 : decide (0 ≤ x30_2) = true := decide_eq_true c18; (try (have c18b0z := c18b0; simp only [hl7_1, hl7_2] at c18b0z))
          clear c18; by_cases c19 : x30_2 < (l2.length : Int)
          ·rw [if_pos c19] at H; have c19b0 : decide (x30_2 < (l2.length : Int)) = true := decide_eq_true c19; (try (have c19b0z := c19b0; simp only [hl7_1, hl7_2] at c19b0z))
           clear c19; by_cases c20 : 0 ≤ (rd l2 x30_2)
           ·rw [if_pos c20] at H; have c20b0 : decide (0 ≤ (rd l2 x30_2)) = true := decide_eq_true c20; (try (have c20b0z := c20b0; simp only [hl7_1, hl7_2] at c20b0z))
            clear c20; by_cases c21 : (rd l2 x30_2) < (x7_2.length : Int)
            ·rw [if_pos c21] at H; have c21b0 : decide ((rd l2 x30_2) < (x7_2.length : Int)) = true := decide_eq_true c21; (try (have c21b0z := c21b0; simp only [hl7_1, hl7_2] at c21b0z))
             clear c21; obtain ⟨y135, hy135⟩ : ∃ y_ : List Int, y_ = (x7_2.set ((rd l2 x30_2) : Int).toNat 0) := ⟨_, rfl⟩
             replace H : (graph_far.l1 k2 l1 y135 t131 l2 (l2.length : Int) (wrap64 (x30_2 + 1))) = some r := by first | (rw [hy135]; with_reducible exact H) | (have H2_ := (Option.bind_some _ _).symm.trans H; rw [hy135]; with_reducible exact H2_) | (have H2_ := (Option.bind_some _ _).symm.trans H; with_reducible exact H2_) | with_reducible exact H | (rw [hy135]; exact H) | exact H
             have Ny135 := Aside0.mk hy135; clear hy135; have H' := Aside0.mk H; clear H; have p134 : 0 ≤ (x30_2 : Int) := odt (by first | (with_reducible assumption) | assumption); have q134 : x30_2 < (l2.length : Int) := odt (by first | (with_reducible assumption) | assumption); obtain ⟨ad134, e134, hx134_0⟩ := Kd.at_int HR2.out x30_2 p134 q134
             cases e134; (try replace hx134_0 := (HB.out.cell (World.block_lt_of_cell? w _ hx134_0)).trans hx134_0)
             replace p134 := eq_true p134; replace q134 := eq_true q134; have p22 : 0 ≤ ((rd l2 x30_2) : Int) := odt (by first | (with_reducible assumption) | assumption); have q22 : ((rd l2 x30_2) : Int) < ((x7_2.length : Int) : Int) := odt (by first | (with_reducible assumption) | assumption); obtain ⟨go22, co22, eo22, gb22, gl22, cl22, HG22⟩ := Kd.R_form HO_7.out (by omega)
             (first | cases eo22 | (injection eo22 with ea_ en_ ec_; (first | subst ea_ | (injection ea_ with ea_; subst ea_)); subst ec_; clear en_))
             have GB22 := Aside0.mk gb22; have GG22 := Aside0.mk HG22; clear gb22 gl22 HG22; obtain ⟨hx22_0, hf22_0⟩ := Kd.R_celln 0 HO_7.out ((rd l2 x30_2) : Int) p22 q22
             replace p22 := eq_true p22; replace q22 := eq_true q22; have HP23 := Kd.R_putg HO_7.out ((rd l2 x30_2) : Int) 0
             go_wp2_with (first | ((with_reducible refine gate_store (t := 3) (p := 36) rfl ?_); refine store_event (t := 3) (p := 36) (v := ?vo_w24) (w1 := (wr.setCell ⟨go22, ((rd l2 x30_2) : Int).toNat, none⟩ (.int .i64 0))) ?hg ?ho ?hn ?hr ?_; (case ho => rfl); (case hg => rfl); (case hn => rfl); (case hr => first | (go_simp; done) | (go_simp; rfl)); intro w24 hw; have hg : wr.grownBy w24 (some go22) := (by rw [hw]; exact HP23.2); have hp_ : Kd.R (Kd.int .i64) 3 w24 w.heap.size (fun k_ => some k_ ≠ (v132 : Value).ownBlock) (.slice (some ⟨go22, 0, none⟩) x7_2.length co8) y135 := (by rw [hw, Ny135.out]; exact HP23.1); clear HP23; have n0_ := Aside0.mk (hp_); have n1_ := Aside0.mk (Kd.Q_after (v := (.slice (some ⟨go22, 0, none⟩) x7_2.length co8)) (v1 := (.slice (some ⟨go22, 0, none⟩) x7_2.length co8)) (ok := (fun _ => True)) (by (with_reducible repeat (first | apply Kd.Q_alloc | apply Kd.Q_drewN | apply Kd.Q_drew)); exact Kd.Q_mono HO_9.out (fun _ hk => by first | exact ⟨trivial, hk⟩ | exact hk | exact ⟨hk.1, hk.2⟩ | exact ⟨hk.2, hk.1⟩ | (simp_all; done))) hg (.inl rfl)); have n2_ := Aside0.mk ((by rw [hw]; exact below_set (HB.out) GB22.out : Below w.heap.size w w24)); clear HO_7; clear HO_9; clear HB; have HO_7 := n0_; have HO_9 := n1_; have HB := n2_; clear n0_ n1_ n2_; clear hg hw hp_))
             (try simp only [← hl7_2])
             go_roundg k2
             case measure => have := HK1.out; have := HK2.out; omega
             case rel => exact ⟨(y135), (wrap64 (x30_2 + 1)), (by first | rfl | (simp; done) | (simp [*]; done)), H', ⟨by have := HK1.out; have := HK2.out; omega⟩, ⟨by (try simp only [hl7_1]); (try simp only [hl7_2]); (with_reducible repeat (first | apply rAl | apply rDn | apply rDr)); exact HO_7.out⟩, ⟨by (try simp only [hl7_1]); (try simp only [hl7_2]); (with_reducible repeat (first | apply Kd.Q_alloc | apply Kd.Q_drewN | apply Kd.Q_drew)); exact Kd.Q_mono HO_9.out (fun _ hk => hk.2)⟩, ⟨by repeat (first | (with_reducible first | exact HB.out | apply bAl | apply bDn | apply bD1) | exact HB.out)⟩⟩
            ·rw [if_neg c21] at H; exact absurd H (by simp)
           ·rw [if_neg c20] at H; exact absurd H (by simp)
          ·rw [if_neg c19] at H; exact absurd H (by simp)
         ·rw [if_neg c18] at H; exact absurd H (by simp)
        ·rw [if_neg c17] at H; have c17b0 : decide (x30_2 < (l2.length : Int)) = false := decide_eq_false c17; (try (have c17b0z := c17b0; simp only [hl7_1, hl7_2] at c17b0z))
         clear c17; have H' := Aside0.mk H; clear H; go_wp2
         go_loopg [9] k2 (fun kq v9 w' => ∃ (x7_3 : List Int) (x9_3 : List Int), Aside0 (graph_far.l2 kq l1 x7_3 x9_3 = some r) ∧ Aside0 (kq ≤ k2) ∧ Aside0 (Kd.R (Kd.int .i64) 3 w' w.heap.size (fun k_ => some k_ ≠ (v9 : Value).ownBlock) (.slice Ao8 x7_2.length co8) x7_3) ∧ Aside0 (Kd.Q (Kd.int .i64) 3 w' w.heap.size (fun k_ => some k_ ≠ ((.slice Ao8 x7_2.length co8) : Value).ownBlock) v9 x9_3) ∧ Aside0 (Below w.heap.size w w'))
         case atStart => exact ⟨(x7_2), (t131), H', ⟨Nat.le_refl _⟩, ⟨by (try simp only [hl7_1]); (try simp only [hl7_2]); (with_reducible repeat (first | apply rAl | apply rDn | apply rDr)); exact HO_7.out⟩, ⟨by (try simp only [hl7_1]); (try simp only [hl7_2]); (with_reducible repeat (first | apply Kd.Q_alloc | apply Kd.Q_drewN | apply Kd.Q_drew)); exact HO_9.out⟩, ⟨by repeat (first | (with_reducible first | exact HB.out | apply bAl | apply bDn | apply bD1) | exact HB.out)⟩⟩
         case round =>
          clear H'; (try clear c1); (try clear p1); (try clear q1); (try clear hx1); (try clear c2); (try clear p2); (try clear q2); (try clear hx2); (try clear c3); (try clear c4); (try clear c4b0); (try clear c4b1); (try clear c5); (try clear c5b0); (try clear c5b1); (try clear p6); (try clear c9); (try clear c9b0); (try clear c10); (try clear c10b0); (try clear c11); (try clear c11b0); (try clear p12); (try clear q12); (try clear hx12); (try clear hf12); (try clear p13); (try clear q13); (try clear hx13); (try clear c17); (try clear c17b0); (try clear c18); (try clear c18b0); (try clear c19); (try clear c19b0); (try clear c20); (try clear c20b0); (try clear c21); (try clear c21b0); (try clear p22); (try clear q22); (try clear hx22); (try clear hf22); (try clear hx12_0); (try clear hx134_0); (try clear hx22_0); (try clear p1); (try clear p12); (try clear p134); (try clear p2); (try clear p22); (try clear p6); (try clear q1); (try clear q12); (try clear q134); (try clear q22); obtain ⟨x7_3, x9_3, HA, HK3, HO_7, HO_9, HB⟩ := hrel; have hl7_3 := (Kd.R_reads' HO_7.out).1
          rw [hl7_3] at HO_7; (try simp only [hl7_3])
          (try simp only [hl7_3] at HO_9)
          cases gk with
          | zero => exact absurd HA.out (by simp [graph_far.l2])
          | succ k3 =>
           have H := HA.out; clear HA; simp only [graph_far.l2] at H; by_cases c25 : (x9_3.length : Int) > 0
           ·rw [if_pos c25] at H; have c25b0 : decide (0 < (x9_3.length : Int)) = true := decide_eq_true c25; (try (have c25b0z := c25b0; simp only [hl7_1, hl7_2, hl7_3] at c25b0z))
            have c25b1 : decide (0 < x9_3.length) = true := decide_eq_true (by omega); (try (have c25b1z := c25b1; simp only [hl7_1, hl7_2, hl7_3] at c25b1z))
            clear c25; by_cases c26 : 0 < (x9_3.length : Int)
            ·rw [if_pos c26] at H; have c26b0 : decide (0 < (x9_3.length : Int)) = true := decide_eq_true c26; (try (have c26b0z := c26b0; simp only [hl7_1, hl7_2, hl7_3] at c26b0z))
             have c26b1 : decide (0 < x9_3.length) = true := decide_eq_true (by omega); (try (have c26b1z := c26b1; simp only [hl7_1, hl7_2, hl7_3] at c26b1z))
             clear c26; by_cases c27 : 1 ≤ (x9_3.length : Int)
             ·rw [if_pos c27] at H; have c27b0 := eq_true c27; have c27b1 : decide (1 ≤ (x9_3.length : Int)) = true := decide_eq_true c27; clear c27; obtain ⟨y137, hy137⟩ : ∃ y_ : List Int, y_ = (x9_3.drop (1 : Int).toNat) := ⟨_, rfl⟩
              replace H : (if 0 ≤ (rd x9_3 0) then (if (rd x9_3 0) < (l1.length : Int) then (graph_far.l3 k3 l1 x7_3 y137 (rd x9_3 0) (rd_L4 l1 (rd x9_3 0)) ((rd_L4 l1 (rd x9_3 0)).length : Int) 0) else (none)) else (none)) = some r := by first | (rw [hy137]; with_reducible exact H) | (have H2_ := (Option.bind_some _ _).symm.trans H; rw [hy137]; with_reducible exact H2_) | (have H2_ := (Option.bind_some _ _).symm.trans H; with_reducible exact H2_) | with_reducible exact H | (rw [hy137]; exact H) | exact H
              have Ny137 := Aside0.mk hy137; clear hy137; by_cases c28 : 0 ≤ (rd x9_3 0)
              ·rw [if_pos c28] at H; have c28b0 : decide (0 ≤ (rd x9_3 0)) = true := decide_eq_true c28; (try (have c28b0z := c28b0; simp only [hl7_1, hl7_2, hl7_3] at c28b0z))
               clear c28; by_cases c29 : (rd x9_3 0) < (l1.length : Int)
               ·rw [if_pos c29] at H; have c29b0 : decide ((rd x9_3 0) < (l1.length : Int)) = true := decide_eq_true c29; (try (have c29b0z := c29b0; simp only [hl7_1, hl7_2, hl7_3] at c29b0z))
                clear c29; have H' := Aside0.mk H; clear H; obtain ⟨Ao30, co30, eo30, _⟩ := Kd.Q_slice HO_9.out
                subst eo30; have p136 : 0 ≤ (0 : Int) := (by omega)
                have q136 : 0 < (x9_3.length : Int) := odt (by first | (with_reducible assumption) | assumption); obtain ⟨ad136, e136, hx136_0⟩ := Kd.at_int (Kd.Q_reads' HO_9.out).2.2 0 p136 q136
                cases e136; have qi136 : (0 < x9_3.length) = True := eq_true (by omega); (try rw [show ((0 : Int)).toNat = 0 from rfl] at hx136_0)
                (try rw [Addr.add_zero'] at hx136_0)
                replace p136 := eq_true p136; replace q136 := eq_true q136; have q31 : (1 : Int) ≤ ((x9_3.length : Int) : Int) := odt (by first | (with_reducible assumption) | assumption); obtain ⟨i031, hi031, _, hsz31, _⟩ := info_parts info3
                have hcut31 := cut_from (P := Try.prog) 25 3 .i64 Try.underlying25 hi031 1 hsz31 (some ad136) x9_3.length co30 1 (by omega) q31
                have hr31 := Kd.Q_drop (k := (1 : Int).toNat) HO_9.out (by omega)
                obtain ⟨A31, hA31⟩ : ∃ A1, A1 = (if co30 = (1 : Int).toNat then (some ad136) else ((some ad136) : Option Addr).map (·.add ((1 : Int).toNat * 1))) := ⟨_, rfl⟩
                obtain ⟨c31, hc31⟩ : ∃ c1, c1 = co30 - (1 : Int).toNat := ⟨_, rfl⟩
                have hy31 : y137.length = x9_3.length - (1 : Int).toNat := (by rw [Ny137.out, List.length_drop])
                rw [← Ny137.out] at hr31; rw [← hy31, ← hA31, ← hc31] at hcut31; replace hr31 : Kd.Q (Kd.int .i64) 3 wr w.heap.size (fun k_ => some k_ ≠ (.slice Ao8 x7_3.length co8 : Value).ownBlock) (.slice A31 y137.length c31) y137 := (by rw [hA31, hc31, hy31]; exact hr31)
                have HE31 : Aside0 ((Value.slice A31 y137.length c31).ownBlock = (.slice (some ad136) x9_3.length co30 : Value).ownBlock) := ⟨by rw [hA31]; split <;> (cases ((some ad136) : Option Addr) <;> rfl)⟩
                clear hy31 hi031 hsz31 HO_9 hA31 hc31; have HO139 := Aside0.mk hr31; clear hr31; replace q31 := eq_true q31; have n_ := Aside0.mk (Kd.R_mono (ok' := fun k_ => some k_ ≠ (.slice A31 y137.length c31 : Value).ownBlock) HO_7.out (fun k_ hk => (by rw [HE31.out]; exact hk)))
                clear HO_7; have HO_7 := n_; clear n_; have p140 : 0 ≤ ((rd x9_3 0) : Int) := odt (by first | (with_reducible assumption) | assumption); have q140 : (rd x9_3 0) < (l1.length : Int) := odt (by first | (with_reducible assumption) | assumption); obtain ⟨ad140, A140_0, c140_0, e140, hx140_0, hl140_0, hi140_0⟩ := at_L4 HR1.out (rd x9_3 0) p140 q140
                cases e140; (try replace hx140_0 := (HB.out.cell (World.block_lt_of_cell? w _ hx140_0)).trans hx140_0)
                have HR140_0 := Aside0.mk hi140_0; have HC140_0 := Aside0.mk hl140_0; clear hi140_0 hl140_0; replace p140 := eq_true p140; replace q140 := eq_true q140; go_wp2
                go_loopg [9, 51] k3 (fun kq v9 v51 w' => ∃ (x7_4 : List Int) (x9_4 : List Int) (x51_4 : Int), v51 = .int .i64 x51_4 ∧ Aside0 (graph_far.l3 kq l1 x7_4 x9_4 (rd x9_3 0) (rd_L4 l1 (rd x9_3 0)) ((rd_L4 l1 (rd x9_3 0)).length : Int) x51_4 = some r) ∧ Aside0 (kq ≤ k3) ∧ Aside0 (Kd.R (Kd.int .i64) 3 w' w.heap.size (fun k_ => some k_ ≠ (v9 : Value).ownBlock) (.slice Ao8 x7_3.length co8) x7_4) ∧ Aside0 (Kd.Q (Kd.int .i64) 3 w' w.heap.size (fun k_ => some k_ ≠ ((.slice Ao8 x7_3.length co8) : Value).ownBlock) v9 x9_4) ∧ Aside0 (Below w.heap.size w w'))
                case atStart => exact ⟨(x7_3), (y137), (0), (by first | rfl | (simp; done) | (simp [*]; done)), H', ⟨Nat.le_refl _⟩, ⟨by (try simp only [hl7_1]); (try simp only [hl7_2]); (try simp only [hl7_3]); (with_reducible repeat (first | apply rAl | apply rDn | apply rDr)); exact HO_7.out⟩, ⟨by (try simp only [hl7_1]); (try simp only [hl7_2]); (try simp only [hl7_3]); (with_reducible repeat (first | apply Kd.Q_alloc | apply Kd.Q_drewN | apply Kd.Q_drew)); exact HO139.out⟩, ⟨by repeat (first | (with_reducible first | exact HB.out | apply bAl | apply bDn | apply bD1) | exact HB.out)⟩⟩
                case round =>
                 clear H'; (try clear c1); (try clear p1); (try clear q1); (try clear hx1); (try clear qi1); (try clear c2); (try clear p2); (try clear q2); (try clear hx2); (try clear c3); (try clear q3); (try clear c4); (try clear c4b0); (try clear c4b1); (try clear c5); (try clear c5b0); (try clear c5b1); (try clear p6); (try clear c9); (try clear c9b0); (try clear c10); (try clear c10b0); (try clear c11); (try clear c11b0); (try clear p12); (try clear q12); (try clear hx12); (try clear hf12); (try clear p13); (try clear q13); (try clear hx13); (try clear qi13); (try clear c14); (try clear p14); (try clear q14); (try clear hx14); (try clear c17); (try clear c17b0); (try clear c18); (try clear c18b0); (try clear c19); (try clear c19b0); (try clear c20); (try clear c20b0); (try clear c21); (try clear c21b0); (try clear p22); (try clear q22); (try clear hx22); (try clear hf22); (try clear c25); (try clear c25b0); (try clear c25b1); (try clear c26); (try clear c26b0); (try clear c26b1); (try clear c27); (try clear c27b0); (try clear c27b1); (try clear c28); (try clear c28b0); (try clear c29); (try clear c29b0); (try clear c31); (try clear q31); (try clear hx12_0); (try clear hx134_0); (try clear hx136_0); (try clear hx140_0); (try clear hx22_0); (try clear p1); (try clear p12); (try clear p13); (try clear p134); (try clear p136); (try clear p140); (try clear p2); (try clear p22); (try clear p6); (try clear q1); (try clear q12); (try clear q13); (try clear q134); (try clear q136); (try clear q140); (try clear q2); (try clear q22); (try clear q31); obtain ⟨x7_4, x9_4, x51_4, rfl, HA, HK4, HO_7, HO_9, HB⟩ := hrel; have hl7_4 := (Kd.R_reads' HO_7.out).1
                 rw [hl7_4] at HO_7; (try simp only [hl7_4])
                 (try simp only [hl7_4] at HO_9)
                 cases gk with
                 | zero => exact absurd HA.out (by simp [graph_far.l3])
                 | succ k4 =>
                  have H := HA.out; clear HA; simp only [graph_far.l3] at H; by_cases c32 : x51_4 < ((rd_L4 l1 (rd x9_3 0)).length : Int)
                  ·rw [if_pos c32] at H; have c32b0 : decide (x51_4 < ((rd_L4 l1 (rd x9_3 0)).length : Int)) = true := decide_eq_true c32; (try (have c32b0z := c32b0; simp only [hl7_1, hl7_2, hl7_3, hl7_4] at c32b0z))
                   clear c32; by_cases c33 : 0 ≤ x51_4
                   ·rw [if_pos c33] at H; have c33b0 : decide (0 ≤ x51_4) = true := decide_eq_true c33; (try (have c33b0z := c33b0; simp only [hl7_1, hl7_2, hl7_3, hl7_4] at c33b0z))
                    clear c33; by_cases c34 : x51_4 < ((rd_L4 l1 (rd x9_3 0)).length : Int)
                    ·rw [if_pos c34] at H; have c34b0 : decide (x51_4 < ((rd_L4 l1 (rd x9_3 0)).length : Int)) = true := decide_eq_true c34; (try (have c34b0z := c34b0; simp only [hl7_1, hl7_2, hl7_3, hl7_4] at c34b0z))
                     clear c34; by_cases c35 : 0 ≤ (rd (rd_L4 l1 (rd x9_3 0)) x51_4)
                     ·rw [if_pos c35] at H; have c35b0 : decide (0 ≤ (rd (rd_L4 l1 (rd x9_3 0)) x51_4)) = true := decide_eq_true c35; (try (have c35b0z := c35b0; simp only [hl7_1, hl7_2, hl7_3, hl7_4] at c35b0z))
                      clear c35; by_cases c36 : (rd (rd_L4 l1 (rd x9_3 0)) x51_4) < (x7_4.length : Int)
                      ·rw [if_pos c36] at H; have c36b0 : decide ((rd (rd_L4 l1 (rd x9_3 0)) x51_4) < (x7_4.length : Int)) = true := decide_eq_true c36; (try (have c36b0z := c36b0; simp only [hl7_1, hl7_2, hl7_3, hl7_4] at c36b0z))
                       clear c36; by_cases c37 : (rd x7_4 (rd (rd_L4 l1 (rd x9_3 0)) x51_4)) < 0
                       ·rw [if_pos c37] at H; have c37b0 : decide ((rd x7_4 (rd (rd_L4 l1 (rd x9_3 0)) x51_4)) < 0) = true := decide_eq_true c37; (try (have c37b0z := c37b0; simp only [hl7_1, hl7_2, hl7_3, hl7_4] at c37b0z))
                        clear c37; by_cases c38 : 0 ≤ (rd x9_3 0)
                        ·rw [if_pos c38] at H; have c38b0 : decide (0 ≤ (rd x9_3 0)) = true := decide_eq_true c38; (try (have c38b0z := c38b0; simp only [hl7_1, hl7_2, hl7_3, hl7_4] at c38b0z))
                         clear c38; by_cases c39 : (rd x9_3 0) < (x7_4.length : Int)
                         ·rw [if_pos c39] at H; have c39b0 : decide ((rd x9_3 0) < (x7_4.length : Int)) = true := decide_eq_true c39; (try (have c39b0z := c39b0; simp only [hl7_1, hl7_2, hl7_3, hl7_4] at c39b0z))
                          clear c39; obtain ⟨y144, hy144⟩ : ∃ y_ : List Int, y_ = (x7_4.set ((rd (rd_L4 l1 (rd x9_3 0)) x51_4) : Int).toNat (wrap64 ((rd x7_4 (rd x9_3 0)) + 1))) := ⟨_, rfl⟩
                          replace H : (if x9_4.length < 17592186044416 then (graph_far.l3 k4 l1 y144 (x9_4 ++ [rd (rd_L4 l1 (rd x9_3 0)) x51_4]) (rd x9_3 0) (rd_L4 l1 (rd x9_3 0)) ((rd_L4 l1 (rd x9_3 0)).length : Int) (wrap64 (x51_4 + 1))) else (none)) = some r := by first | (rw [hy144]; with_reducible exact H) | (have H2_ := (Option.bind_some _ _).symm.trans H; rw [hy144]; with_reducible exact H2_) | (have H2_ := (Option.bind_some _ _).symm.trans H; with_reducible exact H2_) | with_reducible exact H | (rw [hy144]; exact H) | exact H
                          have Ny144 := Aside0.mk hy144; clear hy144; by_cases c41 : x9_4.length < 17592186044416
                          ·rw [if_pos c41] at H; have LMc41 := Aside0.mk c41; clear c41; obtain ⟨y145, hy145⟩ : ∃ y_ : List Int, y_ = (x9_4 ++ [rd (rd_L4 l1 (rd x9_3 0)) x51_4]) := ⟨_, rfl⟩
                           replace H : (graph_far.l3 k4 l1 y144 y145 (rd x9_3 0) (rd_L4 l1 (rd x9_3 0)) ((rd_L4 l1 (rd x9_3 0)).length : Int) (wrap64 (x51_4 + 1))) = some r := by first | (rw [hy145]; with_reducible exact H) | (have H2_ := (Option.bind_some _ _).symm.trans H; rw [hy145]; with_reducible exact H2_) | (have H2_ := (Option.bind_some _ _).symm.trans H; with_reducible exact H2_) | with_reducible exact H | (rw [hy145]; exact H) | exact H
                           have Ny145 := Aside0.mk hy145; clear hy145; have H' := Aside0.mk H; clear H; have p141 : 0 ≤ (x51_4 : Int) := odt (by first | (with_reducible assumption) | assumption); have q141 : x51_4 < ((rd_L4 l1 (rd x9_3 0)).length : Int) := odt (by first | (with_reducible assumption) | assumption); obtain ⟨ad141, e141, hx141_0⟩ := Kd.at_int HR140_0.out x51_4 p141 q141
                           cases e141; (try replace hx141_0 := (HB.out.cell (World.block_lt_of_cell? w _ hx141_0)).trans hx141_0)
                           replace p141 := eq_true p141; replace q141 := eq_true q141; have p142 : 0 ≤ ((rd (rd_L4 l1 (rd x9_3 0)) x51_4) : Int) := odt (by first | (with_reducible assumption) | assumption); have q142 : (rd (rd_L4 l1 (rd x9_3 0)) x51_4) < (x7_4.length : Int) := odt (by first | (with_reducible assumption) | assumption); obtain ⟨ad142, e142, hx142_0⟩ := Kd.at_int (Kd.R_reads' HO_7.out).2.2 (rd (rd_L4 l1 (rd x9_3 0)) x51_4) p142 q142
                           cases e142; replace p142 := eq_true p142; replace q142 := eq_true q142; have p143 : 0 ≤ ((rd x9_3 0) : Int) := odt (by first | (with_reducible assumption) | assumption); have q143 : (rd x9_3 0) < (x7_4.length : Int) := odt (by first | (with_reducible assumption) | assumption); obtain ⟨ad143, e143, hx143_0⟩ := Kd.at_int (Kd.R_reads' HO_7.out).2.2 (rd x9_3 0) p143 q143
                           obtain rfl : ad142 = ad143 := (by injection e143)
                           replace p143 := eq_true p143; replace q143 := eq_true q143; have p40 : 0 ≤ ((rd (rd_L4 l1 (rd x9_3 0)) x51_4) : Int) := odt (by first | (with_reducible assumption) | assumption); have q40 : ((rd (rd_L4 l1 (rd x9_3 0)) x51_4) : Int) < ((x7_4.length : Int) : Int) := odt (by first | (with_reducible assumption) | assumption); obtain ⟨go40, co40, eo40, gb40, gl40, cl40, HG40⟩ := Kd.R_form HO_7.out (by omega)
                           (first | cases eo40 | (injection eo40 with ea_ en_ ec_; (first | subst ea_ | (injection ea_ with ea_; subst ea_)); subst ec_; clear en_))
                           have GB40 := Aside0.mk gb40; have GG40 := Aside0.mk HG40; clear gb40 gl40 HG40; (first | simp only [add_plain] at hx142_0 | skip)
                           (first | simp only [add_plain] at hx143_0 | skip)
                           obtain ⟨hx40_0, hf40_0⟩ := Kd.R_celln 0 HO_7.out ((rd (rd_L4 l1 (rd x9_3 0)) x51_4) : Int) p40 q40
                           replace p40 := eq_true p40; replace q40 := eq_true q40; have HP42 := Kd.R_putg HO_7.out ((rd (rd_L4 l1 (rd x9_3 0)) x51_4) : Int) (wrap64 ((rd x7_4 (rd x9_3 0)) + 1))
                           go_wp2_with (first | ((with_reducible refine gate_store (t := 3) (p := 67) rfl ?_); refine store_event (t := 3) (p := 67) (v := ?vo_w43) (w1 := (wr.setCell ⟨go40, ((rd (rd_L4 l1 (rd x9_3 0)) x51_4) : Int).toNat, none⟩ (.int .i64 (wrap64 ((rd x7_4 (rd x9_3 0)) + 1))))) ?hg ?ho ?hn ?hr ?_; (case ho => rfl); (case hg => rfl); (case hn => rfl); (case hr => first | (go_simp; done) | (go_simp; rfl)); intro w43 hw; have hg : wr.grownBy w43 (some go40) := (by rw [hw]; exact HP42.2); have hp_ : Kd.R (Kd.int .i64) 3 w43 w.heap.size (fun k_ => some k_ ≠ (u9 : Value).ownBlock) (.slice (some ⟨go40, 0, none⟩) x7_4.length co8) y144 := (by rw [hw, Ny144.out]; exact HP42.1); clear HP42; have n0_ := Aside0.mk (hp_); have n1_ := Aside0.mk (Kd.Q_after (v := (.slice (some ⟨go40, 0, none⟩) x7_4.length co8)) (v1 := (.slice (some ⟨go40, 0, none⟩) x7_4.length co8)) (ok := (fun _ => True)) (by (with_reducible repeat (first | apply Kd.Q_alloc | apply Kd.Q_drewN | apply Kd.Q_drew)); exact Kd.Q_mono HO_9.out (fun _ hk => by first | exact ⟨trivial, hk⟩ | exact hk | exact ⟨hk.1, hk.2⟩ | exact ⟨hk.2, hk.1⟩ | (simp_all; done))) hg (.inl rfl)); have n2_ := Aside0.mk ((by rw [hw]; exact below_set (HB.out) GB40.out : Below w.heap.size w w43)); clear HO_7; clear HO_9; clear HB; have HO_7 := n0_; have HO_9 := n1_; have HB := n2_; clear n0_ n1_ n2_; clear hg hw hp_) | ((with_reducible refine gate_builtin (b := .append) (xs := #[.tmp 68, .tmp 70]) rfl ?_); at_builtin; refine Kd.Q_append (Kd.int .i64) (w0 := w) w.heap.size rfl (.tmp 68) (.tmp 70) 25 3 (.int .i64 0) 8 rfl Try.underlying25 info3 rfl (by decide) (by omega) u9 x9_4 (rd (rd_L4 l1 (rd x9_3 0)) x51_4) [.int .i64 (rd (rd_L4 l1 (rd x9_3 0)) x51_4)] (fun k_ => some k_ ≠ (.slice (some ⟨go40, 0, none⟩) x7_4.length co8 : Value).ownBlock) (fun _ => False) rfl rfl ?aP (fun _ hk => hk.elim) ?aF ?aO ?aB ?aS ?aL ?_; (case aP => exact rfl); (case aB => exact (by repeat (first | (with_reducible first | exact HB.out | apply bAl | apply bDn | apply bD1) | exact HB.out))); (case aF => exact (fun k_ hk => Kd.fresh' (Kd.R_lt (by (with_reducible repeat (first | apply rAl | apply rDn | apply rDr)); exact HO_7.out)) k_ hk)); (case aO => exact (by (with_reducible repeat (first | apply Kd.Q_alloc | apply Kd.Q_drewN | apply Kd.Q_drew)); exact Kd.Q_mono HO_9.out (fun _ hk => hk.2))); (case aS => exact (below_size (by repeat (first | (with_reducible first | exact HB.out | apply bAl | apply bDn | apply bD1) | exact HB.out)))); (case aL => have := LMc41.out; omega); intro v146 w44 ho hb hg hat; rw [← Ny145.out] at ho; have n0_ := Aside0.mk (Kd.R_after (ok := (fun _ => True)) (by (with_reducible repeat (first | apply rAl | apply rDn | apply rDr)); exact Kd.R_mono HO_7.out (fun _ hk => by first | exact ⟨trivial, hk⟩ | exact hk | exact ⟨hk.1, hk.2⟩ | exact ⟨hk.2, hk.1⟩ | (simp_all; done))) hg hat); have n1_ := Aside0.mk (hb); have n2_ := Aside0.mk (ho); clear HO_7; clear HB; clear HO_9; have HO_7 := n0_; have HB := n1_; have HO147 := n2_; clear n0_ n1_ n2_; clear ho hb hg hat))
                           (try simp only [← hl7_4])
                           go_roundg k4
                           case measure => have := HK1.out; have := HK2.out; have := HK3.out; have := HK4.out; omega
                           case rel => exact ⟨(y144), (y145), (wrap64 (x51_4 + 1)), (by first | rfl | (simp; done) | (simp [*]; done)), H', ⟨by have := HK1.out; have := HK2.out; have := HK3.out; have := HK4.out; omega⟩, ⟨by (try simp only [hl7_1]); (try simp only [hl7_2]); (try simp only [hl7_3]); (try simp only [hl7_4]); (with_reducible repeat (first | apply rAl | apply rDn | apply rDr)); exact Kd.R_mono HO_7.out (fun _ hk => hk.2)⟩, ⟨by (try simp only [hl7_1]); (try simp only [hl7_2]); (try simp only [hl7_3]); (try simp only [hl7_4]); (with_reducible repeat (first | apply Kd.Q_alloc | apply Kd.Q_drewN | apply Kd.Q_drew)); exact HO147.out⟩, ⟨by repeat (first | (with_reducible first | exact HB.out | apply bAl | apply bDn | apply bD1) | exact HB.out)⟩⟩
                          ·rw [if_neg c41] at H; exact absurd H (by simp)
                         ·rw [if_neg c39] at H; exact absurd H (by simp)
                        ·rw [if_neg c38] at H; exact absurd H (by simp)
                       ·rw [if_neg c37] at H; have c37b0 : decide ((rd x7_4 (rd (rd_L4 l1 (rd x9_3 0)) x51_4)) < 0) = false := decide_eq_false c37; (try (have c37b0z := c37b0; simp only [hl7_1, hl7_2, hl7_3, hl7_4] at c37b0z))
                        clear c37; have H' := Aside0.mk H; clear H; have p141 : 0 ≤ (x51_4 : Int) := odt (by first | (with_reducible assumption) | assumption); have q141 : x51_4 < ((rd_L4 l1 (rd x9_3 0)).length : Int) := odt (by first | (with_reducible assumption) | assumption); obtain ⟨ad141, e141, hx141_0⟩ := Kd.at_int HR140_0.out x51_4 p141 q141
                        cases e141; (try replace hx141_0 := (HB.out.cell (World.block_lt_of_cell? w _ hx141_0)).trans hx141_0)
                        replace p141 := eq_true p141; replace q141 := eq_true q141; have p142 : 0 ≤ ((rd (rd_L4 l1 (rd x9_3 0)) x51_4) : Int) := odt (by first | (with_reducible assumption) | assumption); have q142 : (rd (rd_L4 l1 (rd x9_3 0)) x51_4) < (x7_4.length : Int) := odt (by first | (with_reducible assumption) | assumption); obtain ⟨ad142, e142, hx142_0⟩ := Kd.at_int (Kd.R_reads' HO_7.out).2.2 (rd (rd_L4 l1 (rd x9_3 0)) x51_4) p142 q142
                        cases e142; replace p142 := eq_true p142; replace q142 := eq_true q142; go_wp2
                        (try simp only [← hl7_4])
                        go_roundg k4
                        case measure => have := HK1.out; have := HK2.out; have := HK3.out; have := HK4.out; omega
                        case rel => exact ⟨(x7_4), (x9_4), (wrap64 (x51_4 + 1)), (by first | rfl | (simp; done) | (simp [*]; done)), H', ⟨by have := HK1.out; have := HK2.out; have := HK3.out; have := HK4.out; omega⟩, ⟨by (try simp only [hl7_1]); (try simp only [hl7_2]); (try simp only [hl7_3]); (try simp only [hl7_4]); (with_reducible repeat (first | apply rAl | apply rDn | apply rDr)); exact HO_7.out⟩, ⟨by (try simp only [hl7_1]); (try simp only [hl7_2]); (try simp only [hl7_3]); (try simp only [hl7_4]); (with_reducible repeat (first | apply Kd.Q_alloc | apply Kd.Q_drewN | apply Kd.Q_drew)); exact HO_9.out⟩, ⟨by repeat (first | (with_reducible first | exact HB.out | apply bAl | apply bDn | apply bD1) | exact HB.out)⟩⟩
                      ·rw [if_neg c36] at H; exact absurd H (by simp)
                     ·rw [if_neg c35] at H; exact absurd H (by simp)
                    ·rw [if_neg c34] at H; exact absurd H (by simp)
                   ·rw [if_neg c33] at H; exact absurd H (by simp)
                  ·rw [if_neg c32] at H; have c32b0 : decide (x51_4 < ((rd_L4 l1 (rd x9_3 0)).length : Int)) = false := decide_eq_false c32; (try (have c32b0z := c32b0; simp only [hl7_1, hl7_2, hl7_3, hl7_4] at c32b0z))
                   clear c32; have H' := Aside0.mk H; clear H; go_wp2
                   (try simp only [← hl7_3, ← hl7_4])
                   go_roundg k4
                   case measure => have := HK1.out; have := HK2.out; have := HK3.out; have := HK4.out; omega
                   case rel => exact ⟨(x7_4), (x9_4), H', ⟨by have := HK1.out; have := HK2.out; have := HK3.out; have := HK4.out; omega⟩, ⟨by (try simp only [hl7_1]); (try simp only [hl7_2]); (try simp only [hl7_3]); (try simp only [hl7_4]); (with_reducible repeat (first | apply rAl | apply rDn | apply rDr)); exact HO_7.out⟩, ⟨by (try simp only [hl7_1]); (try simp only [hl7_2]); (try simp only [hl7_3]); (try simp only [hl7_4]); (with_reducible repeat (first | apply Kd.Q_alloc | apply Kd.Q_drewN | apply Kd.Q_drew)); exact HO_9.out⟩, ⟨by repeat (first | (with_reducible first | exact HB.out | apply bAl | apply bDn | apply bD1) | exact HB.out)⟩⟩
               ·rw [if_neg c29] at H; exact absurd H (by simp)
              ·rw [if_neg c28] at H; exact absurd H (by simp)
             ·rw [if_neg c27] at H; exact absurd H (by simp)
            ·rw [if_neg c26] at H; exact absurd H (by simp)
           ·rw [if_neg c25] at H; have c25b0 : decide (0 < (x9_3.length : Int)) = false := decide_eq_false c25; (try (have c25b0z := c25b0; simp only [hl7_1, hl7_2, hl7_3] at c25b0z))
            have c25b1 : decide (0 < x9_3.length) = false := decide_eq_false (by omega); (try (have c25b1z := c25b1; simp only [hl7_1, hl7_2, hl7_3] at c25b1z))
            clear c25; obtain rfl := Option.some.inj H; obtain ⟨Ao45, co45, eo45, _⟩ := Kd.Q_slice HO_9.out
            subst eo45; go_wp2
            go_ret
            exact ⟨_, by first | rfl | (simp [errW_none, errW_some] <;> rfl) | (simp [*, errW_none, errW_some] <;> rfl), by (with_reducible repeat (first | apply rAl | apply rDn | apply rDr)); exact Kd.R_mono HO_7.out (fun _ hk => trivial), by repeat (first | (with_reducible first | exact HB.out | apply bAl | apply bDn | apply bD1) | exact HB.out)⟩
  ·rw [if_neg c5] at H; exact absurd H (by simp)
 ·rw [if_neg c4] at H; exact absurd H (by simp)
end Go.Proofs.Ytibnodjlcaodeaa.G
