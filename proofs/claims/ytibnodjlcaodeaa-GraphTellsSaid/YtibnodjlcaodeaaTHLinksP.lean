/-
  graph.links: the first loop as the kit's printer tells it, the second one by hand (slices.Sort and slices.Compact at an element of a row of rows).
-/
import Derived.Test.YtibnodjlcaodeaaTHRow
namespace Go.Proofs.Ytibnodjlcaodeaa.G
open Go.Sort Go.RowKit Go.Proofs.YtibnodjlcaodeaaW.PrintWords Go.Proofs.YtibnodjlcaodeaaW.PrintLast Go.Proofs.YtibnodjlcaodeaaW.PrintMore
attribute [local go_sem] max2_int min2_int max_two min_two max_three min_three max_four min_four
set_option linter.unusedVariables false
set_option linter.unusedSimpArgs false
theorem info25 : (Try.prog.info? 25).map (fun i => (i.zero, i.size, i.bytes)) = some (some (.slice none 0 0), 1, 24) := by kernel_rfl
theorem rd_set {xs : List (List Int)} {i : Int} (h0 : 0 ≤ i) (h1 : i < (xs.length : Int)) {y : List Int} : rd_L4 (xs.set i.toNat y) i = y := by
 unfold rd_L4
 rw [List.getD_eq_getElem?_getD, List.getElem?_set_self (by omega)]
 rfl
def slices_Sort_int_int.f (l0 : List Int) : Option Unit := if l0.length < 4611686018427387904 then some () else none
def slices_Compact_int_int.f (l0 : List Int) : Option (List Int) := some (Lib.compact (sortI l0))
theorem sortc_open {l0 r : List Int} {u : Unit} (h : slices_Sort_int_int.f l0 = some u) (h2 : slices_Compact_int_int.f l0 = some r) : l0.length < 4611686018427387904 ∧ r = Lib.compact (sortI l0) := by
 unfold slices_Sort_int_int.f at h
 split at h
 ·rename_i hl
  exact ⟨hl, (Option.some.inj h2).symm⟩
 ·cases h
/-! ### graph_linksP: function 30 -/
mutual
def graph_linksP.l0 : Nat → List (List Int) → List (S31) → Int → Int → Option ((List (List Int)))
 | 0, _, _, _, _ => none
 | k + 1, x5, x11, x12, x13 => if x13 < x12 then (if 0 ≤ x13 then (if x13 < (x11.length : Int) then (if 0 ≤ ((rd_T31 x11 x13).f0) then (if ((rd_T31 x11 x13).f0) < (x5.length : Int) then (if (rd_L4 x5 ((rd_T31 x11 x13).f0)).length < 17592186044416 then (graph_linksP.l0 k (x5.set (((rd_T31 x11 x13).f0) : Int).toNat ((rd_L4 x5 ((rd_T31 x11 x13).f0)) ++ [(rd_T31 x11 x13).f1])) x11 x12 (wrap64 (x13 + 1))) else (none)) else (none)) else (none)) else (none)) else (none)) else (graph_linksP.l1 k x5 (x5.length : Int) 0)
def graph_linksP.l1 : Nat → List (List Int) → Int → Int → Option ((List (List Int)))
 | 0, _, _, _ => none
 | k + 1, x5, x32, x33 => if x33 < x32 then (if 0 ≤ x33 then (if x33 < (x5.length : Int) then ((slices_Sort_int_int.f (rd_L4 x5 x33)).bind fun _ => ((slices_Compact_int_int.f (rd_L4 x5 x33)).bind fun t113 => (graph_linksP.l1 k (x5.set (x33 : Int).toNat t113) x32 (wrap64 (x33 + 1))))) else (none)) else (none)) else (some x5)
end
def graph_linksP.f (k : Nat) (a0 : Int) (l1 : List (S31)) : Option ((List (List Int))) := if 0 ≤ a0 then (if (a0 : Int).toNat ≤ 11728124029610 then (graph_linksP.l0 k (List.replicate (a0 : Int).toNat []) l1 (l1.length : Int) 0) else (none)) else (none)
theorem graph_linksP.mono_l : ∀ k, (∀ y0 y1 y2 y3, LeO (graph_linksP.l0 k y0 y1 y2 y3) (graph_linksP.l0 (k + 1) y0 y1 y2 y3)) ∧ (∀ y0 y1 y2, LeO (graph_linksP.l1 k y0 y1 y2) (graph_linksP.l1 (k + 1) y0 y1 y2))
 | 0 => ⟨fun _ _ _ _ r h => by simp [graph_linksP.l0] at h, fun _ _ _ r h => by simp [graph_linksP.l1] at h⟩
 | k + 1 => by
  obtain ⟨ih0, ih1⟩ := graph_linksP.mono_l k
  refine ⟨?_, ?_⟩
  ·intro y0 y1 y2 y3
   unfold graph_linksP.l0
   repeat' first
   | (with_reducible exact ih0 _ _ _ _)
   | (with_reducible exact ih1 _ _ _)
   | (with_reducible exact LeO.refl _)
   | (with_reducible exact LeO.none _)
   | (with_reducible refine LeO.ite ?_ ?_)
   | (with_reducible refine LeO.bind ?_ (fun _ => ?_))
   | exact ih0 _ _ _ _
   | exact ih1 _ _ _
   | exact LeO.none _
   | refine LeO.ite ?_ ?_
   | refine LeO.bind ?_ (fun _ => ?_)
  ·intro y0 y1 y2
   unfold graph_linksP.l1
   repeat' first
   | (with_reducible exact ih0 _ _ _ _)
   | (with_reducible exact ih1 _ _ _)
   | (with_reducible exact LeO.refl _)
   | (with_reducible exact LeO.none _)
   | (with_reducible refine LeO.ite ?_ ?_)
   | (with_reducible refine LeO.bind ?_ (fun _ => ?_))
   | exact ih0 _ _ _ _
   | exact ih1 _ _ _
   | exact LeO.none _
   | refine LeO.ite ?_ ?_
   | refine LeO.bind ?_ (fun _ => ?_)
theorem graph_linksP.mono : ∀ a0 a1 k, LeO (graph_linksP.f k a0 a1) (graph_linksP.f (k + 1) a0 a1) := by
 intro a0 a1 k
 obtain ⟨ih0, ih1⟩ := graph_linksP.mono_l k
 unfold graph_linksP.f
 repeat' first
   | (with_reducible exact ih0 _ _ _ _)
   | (with_reducible exact ih1 _ _ _)
   | (with_reducible exact LeO.refl _)
   | (with_reducible exact LeO.none _)
   | (with_reducible refine LeO.ite ?_ ?_)
   | (with_reducible refine LeO.bind ?_ (fun _ => ?_))
   | exact ih0 _ _ _ _
   | exact ih1 _ _ _
   | exact LeO.none _
   | refine LeO.ite ?_ ?_
   | refine LeO.bind ?_ (fun _ => ?_)
def graph_linksP.T5 : Bool × List (List Nat × List Nat) := (true, [([], []), ([], []), ([1], [1]), ([], []), ([], []), ([4], [4]), ([3, 5], [3, 5]), ([6], [6]), ([], []), ([8], [8]), ([9], [9]), ([7, 10], [7, 10]), ([0, 2, 0, 1, 2, 3, 4, 5, 6, 7, 8, 9, 10, 11], [0, 2]), ([12, 11, 11, 0, 1, 2, 3, 4, 5, 6, 7, 8, 9, 10, 11], [11, 12])])
def graph_linksP.B5 : List Nat := [0, 0, 2, 0, 0, 16, 56, 120, 0, 256, 768, 2040, 4095, 8191]
theorem graph_linksP.tab5 : rtab .any (opsOf Try.f30 5) = graph_linksP.T5 := by kernel_rfl
theorem graph_linksP.bits5 : waitsOk graph_linksP.T5.2 graph_linksP.B5 = true := by kernel_rfl
set_option maxHeartbeats 8000000 in
set_option maxRecDepth 100000 in
theorem graph_linksP.calls (k : Nat) (a0 : Int) (A1 : Option Addr) (c1 : Nat) (l1 : List (S31)) (r : List (List Int)) (w : World) (hr1 : Kd.C k31 w A1 l1.length l1) (hc1 : l1.length ≤ c1) (h : graph_linksP.f k a0 l1 = some r) :
  Calls Try.prog 30 #[.int .i64 a0, .slice A1 l1.length c1] w fun e w' => ∃ v0_ : Value, e = .returned (v0_) ∧ Kd.S (Kd.slice 3 (Kd.int .i64)) 25 w' w.heap.size (fun _ => True) v0_ r ∧ Below w.heap.size w w' := by
 have hu31 := Try.underlying31; have HR1 := Aside0.mk hr1; have HC1 := Aside0.mk hc1; clear hr1 hc1; have HB := Aside0.mk (Below.refl w.heap.size w); have H : (if 0 ≤ a0 then (if (a0 : Int).toNat ≤ 11728124029610 then (graph_linksP.l0 k (List.replicate (a0 : Int).toNat []) l1 (l1.length : Int) 0) else (none)) else (none)) = some r := h
 clear h; by_cases c3 : 0 ≤ a0
 ·rw [if_pos c3] at H; have c3b0 := eq_true c3; have c3b1 : decide (0 ≤ a0) = true := decide_eq_true c3; clear c3; by_cases c4 : (a0 : Int).toNat ≤ 11728124029610
  ·rw [if_pos c4] at H; have c4b0 := eq_true c4; have c4b1 : decide ((a0 : Int).toNat ≤ 11728124029610) = true := decide_eq_true c4; clear c4; obtain ⟨y101, hy101⟩ : ∃ y_ : List (List Int), y_ = (List.replicate (a0 : Int).toNat []) := ⟨_, rfl⟩
   replace H : (graph_linksP.l0 k y101 l1 (l1.length : Int) 0) = some r := by first | (rw [hy101]; with_reducible exact H) | (have H2_ := (Option.bind_some _ _).symm.trans H; rw [hy101]; with_reducible exact H2_) | (have H2_ := (Option.bind_some _ _).symm.trans H; with_reducible exact H2_) | with_reducible exact H | (rw [hy101]; exact H) | exact H
   have Ny101 := Aside0.mk hy101; clear hy101; have H' := Aside0.mk H; clear H; go_enter Try.func30, Try.ntmps30
   go_wp2_with (first | ((with_reducible refine gate_dst (N := 10) rfl ?_); refine Kd.S_make (Kd.slice 3 (Kd.int .i64)) _ 25 rfl (N := 10) rfl 41 _ _ rfl a0 rfl rfl Try.underlying41 (.slice none 0 0) 24 info25 rfl (by decide) (by omega) [] (ok := fun _ => True) (okp := fun _ => True) ⟨_, rfl, Kd.R_nil _ _ _ _ _⟩ (fun _ hk => hk) trivial (odt (by first | (with_reducible assumption) | assumption)) (Nat.le_trans (Nat.mul_le_mul_right _ (odt (by first | (with_reducible assumption) | assumption) : a0.toNat ≤ 11728124029610)) (by omega)) (Below.refl _ _) (Nat.le_refl _) ?_; intro v102 w5 ho6 hb hg_ hnew_; clear hg_ hnew_; (first | rw [← Ny101.out] at ho6 | (simp only [Int.reduceToNat] at ho6; rw [← Ny101.out] at ho6)); have n0_ := Aside0.mk (Kd.S_lower ho6 (below_size (by repeat (first | (with_reducible first | exact HB.out | apply bAl | apply bDn | apply bD1) | exact HB.out)))); have n1_ := Aside0.mk (below_step (by repeat (first | (with_reducible first | exact HB.out | apply bAl | apply bDn | apply bD1) | exact HB.out)) hb); clear HB; have HO103 := n0_; have HB := n1_; clear n0_ n1_; clear hb ho6))
   go_loopg [13] k (fun kq v13 w' => ∃ (x5_1 : List (List Int)) (x13_1 : Int), v13 = .int .i64 x13_1 ∧ Aside0 (graph_linksP.l0 kq x5_1 l1 (l1.length : Int) x13_1 = some r) ∧ Aside0 (kq ≤ k) ∧ Aside0 (Kd.S (Kd.slice 3 (Kd.int .i64)) 25 w' w.heap.size (fun _ => True) v102 x5_1) ∧ Aside0 (Below w.heap.size w w'))
   case atStart => exact ⟨(y101), (0), (by first | rfl | (simp; done) | (simp [*]; done)), H', ⟨Nat.le_refl _⟩, ⟨by (with_reducible repeat (first | apply Kd.S_alloc | apply Kd.S_drewN | apply Kd.S_drew)); exact HO103.out⟩, ⟨by repeat (first | (with_reducible first | exact HB.out | apply bAl | apply bDn | apply bD1) | exact HB.out)⟩⟩
   case round =>
    clear H'; (try clear c1); (try clear p2); (try clear c3); (try clear c3b0); (try clear c3b1); (try clear c4); (try clear c4b0); (try clear c4b1); obtain ⟨x5_1, x13_1, rfl, HA, HK1, HO_5, HB⟩ := hrel
    cases gk with
    | zero => exact absurd HA.out (by simp [graph_linksP.l0])
    | succ k1 =>
     have H := HA.out; clear HA; simp only [graph_linksP.l0] at H; by_cases c7 : x13_1 < (l1.length : Int)
     ·rw [if_pos c7] at H; have c7b0 : decide (x13_1 < (l1.length : Int)) = true := decide_eq_true c7; clear c7; by_cases c8 : 0 ≤ x13_1
      ·rw [if_pos c8] at H; have c8b0 : decide (0 ≤ x13_1) = true := decide_eq_true c8; clear c8; by_cases c9 : x13_1 < (l1.length : Int)
       ·rw [if_pos c9] at H; have c9b0 : decide (x13_1 < (l1.length : Int)) = true := decide_eq_true c9; clear c9; by_cases c10 : 0 ≤ ((rd_T31 l1 x13_1).f0)
        ·rw [if_pos c10] at H; have c10b0 : decide (0 ≤ ((rd_T31 l1 x13_1).f0)) = true := decide_eq_true c10; clear c10; by_cases c11 : ((rd_T31 l1 x13_1).f0) < (x5_1.length : Int)
         ·rw [if_pos c11] at H; have c11b0 : decide (((rd_T31 l1 x13_1).f0) < (x5_1.length : Int)) = true := decide_eq_true c11; clear c11; by_cases c12 : (rd_L4 x5_1 ((rd_T31 l1 x13_1).f0)).length < 17592186044416
          ·rw [if_pos c12] at H; have LMc12 := Aside0.mk c12; clear c12; obtain ⟨y107, hy107⟩ : ∃ y_ : List Int, y_ = ((rd_L4 x5_1 ((rd_T31 l1 x13_1).f0)) ++ [(rd_T31 l1 x13_1).f1]) := ⟨_, rfl⟩
           replace H : (graph_linksP.l0 k1 (x5_1.set (((rd_T31 l1 x13_1).f0) : Int).toNat y107) l1 (l1.length : Int) (wrap64 (x13_1 + 1))) = some r := by first | (rw [hy107]; with_reducible exact H) | (have H2_ := (Option.bind_some _ _).symm.trans H; rw [hy107]; with_reducible exact H2_) | (have H2_ := (Option.bind_some _ _).symm.trans H; with_reducible exact H2_) | with_reducible exact H | (rw [hy107]; exact H) | exact H
           have Ny107 := Aside0.mk hy107; clear hy107; obtain ⟨y110, hy110⟩ : ∃ y_ : List (List Int), y_ = (x5_1.set (((rd_T31 l1 x13_1).f0) : Int).toNat y107) := ⟨_, rfl⟩
           replace H : (graph_linksP.l0 k1 y110 l1 (l1.length : Int) (wrap64 (x13_1 + 1))) = some r := by first | (rw [hy110]; with_reducible exact H) | (have H2_ := (Option.bind_some _ _).symm.trans H; rw [hy110]; with_reducible exact H2_) | (have H2_ := (Option.bind_some _ _).symm.trans H; with_reducible exact H2_) | with_reducible exact H | (rw [hy110]; exact H) | exact H
           have Ny110 := Aside0.mk hy110; clear hy110; have H' := Aside0.mk H; clear H; have p104 : 0 ≤ (x13_1 : Int) := odt (by first | (with_reducible assumption) | assumption); have q104 : x13_1 < (l1.length : Int) := odt (by first | (with_reducible assumption) | assumption); obtain ⟨ad104, e104, hx104_0, hx104_1⟩ := at_T31 HR1.out x13_1 p104 q104
           cases e104; (try replace hx104_0 := (HB.out.cell (World.block_lt_of_cell? w _ hx104_0)).trans hx104_0)
           (try replace hx104_1 := (HB.out.cell (World.block_lt_of_cell? w _ hx104_1)).trans hx104_1)
           replace p104 := eq_true p104; replace q104 := eq_true q104; try go_wp2_with (first | ((with_reducible refine gate_dst (N := 7) rfl ?_); refine box_event ?hg (N := 7) ?hd (cs := #[.int .i64 0, .int .i64 0]) (t := 31) ?hr ?_; (case hd => rfl); (case hg => rfl); (case hr => first | (go_simp; done) | (go_simp; rfl)); intro gb105 hg w14 hbox hb; have n0_ := Aside0.mk (Kd.S_below (by (with_reducible repeat (first | apply Kd.S_alloc | apply Kd.S_drewN | apply Kd.S_drew)); exact HO_5.out) hb); have n1_ := Aside0.mk (below_step (by repeat (first | (with_reducible first | exact HB.out | apply bAl | apply bDn | apply bD1) | exact HB.out)) hb); have n2_ := Aside0.mk (hbox); have n3_ := Aside0.mk ((by rw [hg]; exact (below_size (by repeat (first | (with_reducible first | exact HB.out | apply bAl | apply bDn | apply bD1) | exact HB.out))) : w.heap.size ≤ gb105)); have n4_ := Aside0.mk ((by rw [hg]; exact (below_size (by repeat (first | (with_reducible first | exact HB.out | apply bAl | apply bDn | apply bD1) | exact HB.out))) : w.heap.size ≤ gb105)); clear HO_5; clear HB; have HO_5 := n0_; have HB := n1_; have BK105 := n2_; have GW105 := n3_; have GE105 := n4_; clear n0_ n1_ n2_ n3_ n4_; clear hb hbox hg; have hcz15_0 : w14.cell? ⟨gb105, 0, none⟩ = some (.int .i64 0) := (blk_cell BK105.out 0).trans rfl; have hcz15_1 : w14.cell? ⟨gb105, 1, none⟩ = some (.int .i64 0) := (blk_cell BK105.out 1).trans rfl; have hfz15_0 := blk_frozen BK105.out 0; have hfz15_1 := blk_frozen BK105.out 1))
           have n0_ : Aside0 (Kd.S (Kd.slice 3 (Kd.int .i64)) 25 ((w14.setCell ⟨gb105, 0, none⟩ (.int .i64 ((rd_T31 l1 x13_1).f0))).setCell ⟨gb105, 1, none⟩ (.int .i64 ((rd_T31 l1 x13_1).f1))) w.heap.size (fun _ => True) v102 x5_1) := ⟨by (with_reducible repeat (first | apply Kd.S_alloc | apply Kd.S_drewN | apply Kd.S_drew)); exact Kd.S_mono (Kd.S_far (p := ⟨gb105, 1, none⟩) (Kd.S_far (p := ⟨gb105, 0, none⟩) (Kd.S_types HO_5.out BK105.out (by decide)) (fun _ hk => hk.2) (.int .i64 ((rd_T31 l1 x13_1).f0))) (fun _ hk => hk.2) (.int .i64 ((rd_T31 l1 x13_1).f1))) (fun _ hk => trivial)⟩
           have n1_ : Aside0 (((w14.setCell ⟨gb105, 0, none⟩ (.int .i64 ((rd_T31 l1 x13_1).f0))).setCell ⟨gb105, 1, none⟩ (.int .i64 ((rd_T31 l1 x13_1).f1))).heap[gb105]? = some (.cells #[.int .i64 ((rd_T31 l1 x13_1).f0), .int .i64 ((rd_T31 l1 x13_1).f1)] 31 (0, 0))) := ⟨by (with_reducible repeat (first | refine blk_drewN ?_ _ | refine blk_drew ?_ | refine blk_alloc ?_ _)); refine blk_put (cs := #[.int .i64 ((rd_T31 l1 x13_1).f0), .int .i64 0]) ?_ 1 _ rfl; (with_reducible repeat (first | refine blk_drewN ?_ _ | refine blk_drew ?_ | refine blk_alloc ?_ _)); refine blk_put (cs := #[.int .i64 0, .int .i64 0]) ?_ 0 _ rfl; (with_reducible repeat (first | refine blk_drewN ?_ _ | refine blk_drew ?_ | refine blk_alloc ?_ _)); exact BK105.out⟩
           have n2_ : Aside0 (Below w.heap.size w ((w14.setCell ⟨gb105, 0, none⟩ (.int .i64 ((rd_T31 l1 x13_1).f0))).setCell ⟨gb105, 1, none⟩ (.int .i64 ((rd_T31 l1 x13_1).f1)))) := ⟨by repeat (first | (with_reducible first | exact HB.out | apply bAl | apply bDn | apply bD1 | refine below_set ?_ GE105.out) | exact HB.out)⟩
           (try clear HO_5); (try clear BK105); (try clear HB); generalize ((w14.setCell ⟨gb105, 0, none⟩ (.int .i64 ((rd_T31 l1 x13_1).f0))).setCell ⟨gb105, 1, none⟩ (.int .i64 ((rd_T31 l1 x13_1).f1))) = w16 at n0_ n1_ n2_ ⊢
           have HO_5 := n0_; have BK105 := n1_; have HB := n2_; clear n0_ n1_ n2_; have n0_ := Aside0.mk (Kd.S_drew HO_5.out); have n1_ := Aside0.mk (blk_drew BK105.out); have n2_ := Aside0.mk (below_drew1 HB.out); clear HO_5; clear BK105; clear HB; have HO_5 := n0_; have BK105 := n1_; have HB := n2_; clear n0_ n1_ n2_; obtain ⟨Ao18, co18, eo18⟩ := Kd.S_slice HO_5.out
           (first | subst eo18 | (injection eo18 with f1_ f2_ f3_; have f4_ := f1_.symm; have f5_ := f3_.symm; clear f1_ f2_ f3_; subst f4_; subst f5_))
           have p106 : 0 ≤ (((rd_T31 l1 x13_1).f0) : Int) := odt (by first | (with_reducible assumption) | assumption); have q106 : ((rd_T31 l1 x13_1).f0) < (x5_1.length : Int) := odt (by first | (with_reducible assumption) | assumption); obtain ⟨ad106, A106_0, c106_0, e106, hx106_0, hl106_0, hi106_0⟩ := at_L4 (Kd.S_reads' HO_5.out).2.2 ((rd_T31 l1 x13_1).f0) p106 q106
           cases e106; obtain ⟨ce106, hce106, hMe106, hcc106⟩ := Kd.S_get HO_5.out [] ((rd_T31 l1 x13_1).f0) p106 (by first | exact q106 | exact odt (by first | (with_reducible assumption) | assumption) | (have e_ := (Kd.S_reads' HO_5.out).1; omega))
           obtain ⟨ve106_0, rfl, ge106_0⟩ := hMe106
           have hv106_0 := hcc106 0 _ rfl
           rw [Nat.add_zero, show ((Kd.slice 3 (Kd.int .i64))).sz = 1 from rfl, Nat.mul_one] at hv106_0; replace hv106_0 := Option.some.inj (hv106_0.symm.trans hx106_0); rw [hv106_0] at ge106_0; have HL106_0 := Aside0.mk (show Kd.R (Kd.int .i64) 3 _ _ _ _ (rd_L4 x5_1 ((rd_T31 l1 x13_1).f0)) from ge106_0); clear hv106_0 ge106_0; have HX106_0 := Aside0.mk hx106_0; clear hcc106 hce106; have HR106_0 := Aside0.mk hi106_0; have HC106_0 := Aside0.mk hl106_0; clear hi106_0 hl106_0; replace p106 := eq_true p106; replace q106 := eq_true q106; obtain ⟨go19, co19, eo19, gb19, gl19, cl19, HG19⟩ := Kd.S_form HO_5.out (by have h_ : (((rd_T31 l1 x13_1).f0) : Int) < ((x5_1.length : Int) : Int) := odt (by first | (with_reducible assumption) | assumption); have h2_ : 0 ≤ (((rd_T31 l1 x13_1).f0) : Int) := (odt (by first | (with_reducible assumption) | assumption)); omega)
           (first | cases eo19 | (injection eo19 with ea_ en_ ec_; (first | subst ea_ | (injection ea_ with ea_; subst ea_)); subst ec_; clear en_))
           have GB19 := Aside0.mk gb19; have GG19 := Aside0.mk HG19; clear gb19 gl19 HG19; (first | simp only [add_plain] at hx106_0 | skip)
           obtain ⟨oki19, ce19, hcl19, hM19, hcc19, _, _, hH19⟩ := Kd.S_elem HO_5.out [] (((rd_T31 l1 x13_1).f0) : Int) (odt (by first | (with_reducible assumption) | assumption)) (by have h_ : (((rd_T31 l1 x13_1).f0) : Int) < ((x5_1.length : Int) : Int) := odt (by first | (with_reducible assumption) | assumption); first | exact h_ | (have e_ := (Kd.S_reads' HO_5.out).1; omega) | simpa using h_)
           obtain ⟨ve19_0, rfl, ge19_0⟩ := hM19
           have hv19 := hcc19 0 _ rfl
           have hX19 := HX106_0.out; (try simp only [add_plain] at hX19)
           (try simp only [Nat.add_zero] at hv19)
           (try rw [show ((Kd.slice 3 (Kd.int .i64))).sz = 1 from rfl, Nat.mul_one] at hv19)
           replace hv19 := Option.some.inj (hv19.symm.trans hX19); subst hv19; clear hX19 hcc19 hcl19; have UU19 := Aside0.mk (show Kd.R (Kd.int .i64) 3 _ w.heap.size oki19 (.slice A106_0 (rd_L4 x5_1 ((rd_T31 l1 x13_1).f0)).length c106_0) (rd_L4 x5_1 ((rd_T31 l1 x13_1).f0)) from ge19_0); have HH19 := Aside0.mk hH19; have HN19 := Aside0.mk (Kd.S_reads' HO_5.out).1; clear hH19 ge19_0; refine start_ (n := 14) (S := fun w' => w'.cell? ⟨gb105, 0, none⟩ = some (.int .i64 ((rd_T31 l1 x13_1).f0)) ∧ w'.cell? ⟨gb105, 1, none⟩ = some (.int .i64 ((rd_T31 l1 x13_1).f1)) ∧ w'.cell? ⟨go19, (((rd_T31 l1 x13_1).f0)).toNat, none⟩ = some (.slice A106_0 (rd_L4 x5_1 ((rd_T31 l1 x13_1).f0)).length c106_0)) (ds := [13]) #[false, false, false, false, false, false, false, false, false, false, false, false, false, false] (by kernel_rfl) rfl rfl ⟨(blk_cell BK105.out 0).trans rfl, (blk_cell BK105.out 1).trans rfl, hx106_0⟩ (fun hHeld => ?_); refine with_tabW graph_linksP.tab5 graph_linksP.bits5 (fun HT_ HW_ => ?_)
           generalize w16.drew = w17 at HO_5 BK105 HB GG19 HH19 HL106_0 HR106_0 HX106_0 UU19 hx106_0 hHeld ⊢
           refine pure_ (i := 0) (N := some 17) (v := ?_) (a' := ?_) #[true, false, false, false, false, false, false, false, false, false, false, false, false, false] rfl rfl (any_of HT_.out (by kernel_rfl)) (fun _ _ _ h => h) (Or.inl ⟨by rfl, ?_⟩) ?_ ?_
           rotate_left
           ·intro w'
            go_simp
            with_reducible rfl
           rotate_left
           ·simp only [Act.put, List.setIfInBounds_toArray, List.set_cons_zero, List.set_cons_succ, i64_w, i32_w]
            rfl
           refine pure_ (i := 1) (N := some 18) (v := ?_) (a' := ?_) #[true, true, false, false, false, false, false, false, false, false, false, false, false, false] rfl rfl (any_of HT_.out (by kernel_rfl)) (fun _ _ _ h => h) (Or.inl ⟨by rfl, ?_⟩) ?_ ?_
           rotate_left
           ·intro w'
            go_simp
            with_reducible rfl
           rotate_left
           ·simp only [Act.put, List.setIfInBounds_toArray, List.set_cons_zero, List.set_cons_succ, i64_w, i32_w]
            rfl
           refine pure_ (i := 3) (N := some 20) (v := ?_) (a' := ?_) #[true, true, false, true, false, false, false, false, false, false, false, false, false, false] rfl rfl (any_of HT_.out (by kernel_rfl)) (fun _ _ _ h => h) (Or.inl ⟨by rfl, ?_⟩) ?_ ?_
           rotate_left
           ·intro w'
            go_simp
            with_reducible rfl
           rotate_left
           ·simp only [Act.put, List.setIfInBounds_toArray, List.set_cons_zero, List.set_cons_succ, i64_w, i32_w]
            rfl
           refine pure_ (i := 4) (N := some 21) (v := ?_) (a' := ?_) #[true, true, false, true, true, false, false, false, false, false, false, false, false, false] rfl rfl (any_of HT_.out (by kernel_rfl)) (fun _ _ _ h => h) (Or.inl ⟨by rfl, ?_⟩) ?_ ?_
           rotate_left
           ·intro w'
            go_simp
            with_reducible rfl
           rotate_left
           ·simp only [Act.put, List.setIfInBounds_toArray, List.set_cons_zero, List.set_cons_succ, i64_w, i32_w]
            rfl
           refine pure_ (i := 8) (N := some 25) (v := ?_) (a' := ?_) #[true, true, false, true, true, false, false, false, true, false, false, false, false, false] rfl rfl (any_of HT_.out (by kernel_rfl)) (fun _ _ _ h => h) (Or.inl ⟨by rfl, ?_⟩) ?_ ?_
           rotate_left
           ·intro w'
            go_simp
            with_reducible rfl
           rotate_left
           ·simp only [Act.put, List.setIfInBounds_toArray, List.set_cons_zero, List.set_cons_succ, i64_w, i32_w]
            rfl
           refine take_ (i := 2) (N := some 19) (v := ?_) (a' := ?_) #[true, true, true, true, true, false, false, false, true, false, false, false, false, false] rfl rfl (take_ofW HT_.out HW_.out (by kernel_rfl)) (fun _ _ _ h => h) (Or.inl ⟨by rfl, ?_⟩) hHeld ?_ ?_
           rotate_left
           ·rintro w' ⟨s0, s1, s2⟩
            go_simp
            with_reducible rfl
           rotate_left
           ·simp only [Act.put, List.setIfInBounds_toArray, List.set_cons_zero, List.set_cons_succ, i64_w, i32_w]
            rfl
           refine take_ (i := 5) (N := some 22) (v := ?_) (a' := ?_) #[true, true, true, true, true, true, false, false, true, false, false, false, false, false] rfl rfl (take_ofW HT_.out HW_.out (by kernel_rfl)) (fun _ _ _ h => h) (Or.inl ⟨by rfl, ?_⟩) hHeld ?_ ?_
           rotate_left
           ·rintro w' ⟨s0, s1, s2⟩
            go_simp
            with_reducible rfl
           rotate_left
           ·simp only [Act.put, List.setIfInBounds_toArray, List.set_cons_zero, List.set_cons_succ, i64_w, i32_w]
            rfl
           refine pure_ (i := 6) (N := some 23) (v := ?_) (a' := ?_) #[true, true, true, true, true, true, true, false, true, false, false, false, false, false] rfl rfl (any_of HT_.out (by kernel_rfl)) (fun _ _ _ h => h) (Or.inl ⟨by rfl, ?_⟩) ?_ ?_
           rotate_left
           ·intro w'
            go_simp
            with_reducible rfl
           rotate_left
           ·simp only [Act.put, List.setIfInBounds_toArray, List.set_cons_zero, List.set_cons_succ, i64_w, i32_w]
            rfl
           refine take_ (i := 7) (N := some 24) (v := ?_) (a' := ?_) #[true, true, true, true, true, true, true, true, true, false, false, false, false, false] rfl rfl (take_ofW HT_.out HW_.out (by kernel_rfl)) (fun _ _ _ h => h) (Or.inl ⟨by rfl, ?_⟩) hHeld ?_ ?_
           rotate_left
           ·rintro w' ⟨s0, s1, s2⟩
            go_simp
            with_reducible rfl
           rotate_left
           ·simp only [Act.put, List.setIfInBounds_toArray, List.set_cons_zero, List.set_cons_succ, i64_w, i32_w]
            rfl
           refine take_ (i := 9) (N := some 26) (v := ?_) (a' := ?_) #[true, true, true, true, true, true, true, true, true, true, false, false, false, false] rfl rfl (take_ofW HT_.out HW_.out (by kernel_rfl)) (fun _ _ _ h => h) (Or.inl ⟨by rfl, ?_⟩) hHeld ?_ ?_
           rotate_left
           ·rintro w' ⟨s0, s1, s2⟩
            go_simp
            with_reducible rfl
           rotate_left
           ·simp only [Act.put, List.setIfInBounds_toArray, List.set_cons_zero, List.set_cons_succ, i64_w, i32_w]
            rfl
           refine one_ (i := 10) (N := some 27) #[true, true, true, true, true, true, true, true, true, true, true, false, false, false] rfl rfl (one_of HT_.out (by kernel_rfl)) (by decide) (fun K hK => ?_)
           refine value_ (w1 := ?_) (v := ?_) (by rfl) rfl ?_ ?_
           rotate_left 2
           ·go_simp
            constructor
            ·rfl
            ·rfl
           refine hK.out _ _ ⟨(blk_cell (blk_alloc BK105.out _) 0).trans rfl, (blk_cell (blk_alloc BK105.out _) 1).trans rfl, (World.cell?_alloc_lt _ _ _ (World.block_lt_of_cell? _ _ (hHeld.2.2))).trans (hHeld.2.2)⟩ (fun hHeld => ?_)
           clear hK K; refine norm_ (a' := ?_) ?_ ?_
           rotate_left
           ·show Act.put _ (some 27) _ = _
            simp only [Act.put, List.setIfInBounds_toArray, List.set_cons_zero, List.set_cons_succ, i64_w, i32_w]
            rfl
           refine one_ (i := 11) (N := some 28) #[true, true, true, true, true, true, true, true, true, true, true, true, false, false] rfl rfl (one_of HT_.out (by kernel_rfl)) (by decide) (fun K hK => ?_)
           refine Kd.R_append_step (Kd.int .i64) (w0 := w) w.heap.size (by rfl) (.tmp 24) (.tmp 27) 25 3 (.int .i64 0) 8 rfl Try.underlying25 info3 rfl (by decide) (by omega) (.slice A106_0 (rd_L4 x5_1 ((rd_T31 l1 x13_1).f0)).length c106_0) (rd_L4 x5_1 ((rd_T31 l1 x13_1).f0)) ((rd_T31 l1 x13_1).f1) [.int .i64 ((rd_T31 l1 x13_1).f1)] (fun k_ => oki19 k_ ∨ ((fun _ => True)) k_ ∧ w17.heap.size ≤ k_) (fun _ => False) rfl rfl ?aP (fun _ hk => hk.elim) ?aF ?aO ?aB ?aS ?aL ?_
           (case aP => exact rfl)
           (case aB => exact (by repeat (first | (with_reducible first | exact HB.out | apply bAl | apply bDn | apply bD1 | refine below_set ?_ GE105.out) | exact HB.out)))
           (case aF => exact (fun k_ hk => .inr ⟨trivial, hk⟩))
           (case aO => exact (by (with_reducible repeat (first | apply rAl | apply rDn | apply rDr)); exact Kd.R_mono UU19.out (fun _ hk => .inl hk)))
           (case aS => exact (below_size (by repeat (first | (with_reducible first | exact HB.out | apply bAl | apply bDn | apply bD1 | refine below_set ?_ GE105.out) | exact HB.out))))
           (case aL => have := LMc12.out; omega)
           intro v108 w20 ho hb hg hat
           (first | have HS2_ := cell_grown hg (hHeld.2.2) (by first | (rw [add_block]; exact (fun e_ => ((HL106_0.out.1 _ e_.symm).2) rfl)) | (show some (Addr.add _ _).block ≠ _; rw [add_block]; exact (fun e_ => ((HL106_0.out.1 _ e_.symm).2) rfl)) | exact (fun e_ => ((HL106_0.out.1 _ e_.symm).2) rfl)) | have HS2_ := cell_grown hg (cell_unalloc (hHeld.2.2) (by first | (rw [add_block]; exact Kd.S_lt HO_5.out _ rfl) | (show (Addr.add _ _).block < _; rw [add_block]; exact Kd.S_lt HO_5.out _ rfl) | exact Kd.S_lt HO_5.out _ rfl)) (by first | (rw [add_block]; exact (fun e_ => ((HL106_0.out.1 _ e_.symm).2) rfl)) | (show some (Addr.add _ _).block ≠ _; rw [add_block]; exact (fun e_ => ((HL106_0.out.1 _ e_.symm).2) rfl)) | exact (fun e_ => ((HL106_0.out.1 _ e_.symm).2) rfl)))
           rw [← Ny107.out] at ho; have n0_ := Aside0.mk (blk_grown (g := gb105) (o := .cells #[.int .i64 ((rd_T31 l1 x13_1).f0), .int .i64 ((rd_T31 l1 x13_1).f1)] 31 (0, 0)) (by (with_reducible repeat (first | refine blk_drewN ?_ _ | refine blk_drew ?_ | refine blk_alloc ?_ _)); exact BK105.out) hg (Kd.R_ne HL106_0.out BK105.out (by decide)))
           have n1_ := Aside0.mk (hb); have n2_ := Aside0.mk (Kd.H_grown (Kd.H_widen (by repeat (first | exact HH19.out | refine Kd.H_alloc ?_ _ | refine Kd.H_drewN ?_ _ | refine Kd.H_drew ?_))) hg (fun k_ e_ => .inl (UU19.out.1 k_ e_)))
           have n3_ := Aside0.mk (ho); clear BK105; clear HB; clear HH19; clear HO_5; clear UU19; clear HL106_0; have BK105 := n0_; have HB := n1_; have HH19 := n2_; have HO109 := n3_; clear n0_ n1_ n2_ n3_; clear ho hb hg hat; have p13 : 0 ≤ (((rd_T31 l1 x13_1).f0) : Int) := odt (by first | (with_reducible assumption) | assumption); have q13 : (((rd_T31 l1 x13_1).f0) : Int) < ((x5_1.length : Int) : Int) := odt (by first | (with_reducible assumption) | assumption); replace p13 := eq_true p13; replace q13 := eq_true q13; obtain ⟨Ao23, co23, eo23⟩ := Kd.R_slice HO109.out; (first | subst eo23 | (injection eo23 with f1_ f2_ f3_; have f4_ := f1_.symm; have f5_ := f3_.symm; clear f1_ f2_ f3_; subst f4_; subst f5_))
           obtain ⟨_, _, hraw21, _, _, hcc21, _⟩ := Kd.H_raw HH19.out (odt (by first | (with_reducible assumption) | assumption)) (by have h_ : (((rd_T31 l1 x13_1).f0) : Int) < ((x5_1.length : Int) : Int) := odt (by first | (with_reducible assumption) | assumption); first | exact h_ | (have e_ := (HN19.out); omega) | simpa using h_)
           obtain ⟨_, hfr21⟩ := Kd.H_at HH19.out (odt (by first | (with_reducible assumption) | assumption)) (by have h_ : (((rd_T31 l1 x13_1).f0) : Int) < ((x5_1.length : Int) : Int) := odt (by first | (with_reducible assumption) | assumption); first | exact h_ | (have e_ := (HN19.out); omega) | simpa using h_)
           have hx21_0 := hcc21 0 _ rfl
           have hf21_0 := hfr21 0
           (try simp only [Nat.add_zero] at hx21_0 hf21_0)
           (try rw [show ((Kd.slice 3 (Kd.int .i64))).sz = 1 from rfl, Nat.mul_one] at hx21_0)
           (try rw [show ((Kd.slice 3 (Kd.int .i64))).sz = 1 from rfl, Nat.mul_one] at hf21_0)
           have HP21 := Kd.S_seg0 HH19.out (odt (by first | (with_reducible assumption) | assumption)) (by have h_ : (((rd_T31 l1 x13_1).f0) : Int) < ((x5_1.length : Int) : Int) := odt (by first | (with_reducible assumption) | assumption); first | exact h_ | (have e_ := (HN19.out); omega) | simpa using h_) (seg := [.slice Ao23 y107.length co23]) (j := 0) (show 1 ≤ 1 from by decide) (x' := y107) (Kd.M_row HO109.out) (fun _ hk => hk)
           (try simp only [show ((Kd.slice 3 (Kd.int .i64))).sz = 1 from rfl, Nat.mul_one, Nat.add_zero] at HP21)
           clear hcc21 hfr21; have HNB105_go19 := Aside0.mk (show gb105 ≠ go19 from by have h_ := Kd.R_ne hraw21 BK105.out (by decide); intro e_; exact h_ (by rw [e_]; rfl))
           have HS21 := HP21.1; rw [← Ny110.out] at HS21; have HQ21 := Aside0.mk HS21; obtain ⟨_, hgg21⟩ := Kd.R_typed hraw21 go19 rfl
           have GG21_ := Aside0.mk hgg21; clear HP21 HS21 hgg21; refine hK.out _ _ ⟨(blk_cell BK105.out 0).trans rfl, (blk_cell BK105.out 1).trans rfl, HS2_⟩ (fun hHeld => ?_)
           clear hK K; refine norm_ (a' := ?_) ?_ ?_
           rotate_left
           ·show Act.put _ (some 28) _ = _
            simp only [Act.put, List.setIfInBounds_toArray, List.set_cons_zero, List.set_cons_succ, i64_w, i32_w]
            rfl
           refine pure_ (i := 12) (N := some 29) (v := ?_) (a' := ?_) #[true, true, true, true, true, true, true, true, true, true, true, true, true, false] rfl rfl (any_of HT_.out (by kernel_rfl)) (fun _ _ _ h => h) (Or.inl ⟨by rfl, ?_⟩) ?_ ?_
           rotate_left
           ·intro w'
            go_simp
            with_reducible rfl
           rotate_left
           ·simp only [Act.put, List.setIfInBounds_toArray, List.set_cons_zero, List.set_cons_succ, i64_w, i32_w]
            rfl
           refine last_ (i := 13) (N := none) #[true, true, true, true, true, true, true, true, true, true, true, true, true, true] rfl rfl (one_of HT_.out (by kernel_rfl)) (by decide) (fun K hK => ?_)
           refine skip_ (w1 := ?_) (by rfl) rfl ?_ ?_
           rotate_left
           ·go_simp
            rfl
           refine hK.out _ _ ?_
           clear hK K; refine done_ (done_of HT_.out (by kernel_rfl)) ?_
           try go_wp2
           go_roundg k1
           case measure => have := HK1.out; omega
           case rel => exact ⟨(y110), (wrap64 (x13_1 + 1)), (by first | rfl | (simp; done) | (simp [*]; done)), H', ⟨by have := HK1.out; omega⟩, ⟨by (with_reducible repeat (first | apply Kd.S_alloc | apply Kd.S_drewN | apply Kd.S_drew)); exact HQ21.out⟩, ⟨by repeat (first | (with_reducible first | exact HB.out | apply bAl | apply bDn | apply bD1 | refine below_set ?_ GB19.out | refine below_set ?_ GE105.out) | exact HB.out)⟩⟩
          ·rw [if_neg c12] at H; exact absurd H (by simp)
         ·rw [if_neg c11] at H; exact absurd H (by simp)
        ·rw [if_neg c10] at H; exact absurd H (by simp)
       ·rw [if_neg c9] at H; exact absurd H (by simp)
      ·rw [if_neg c8] at H; exact absurd H (by simp)
     ·rw [if_neg c7] at H; have c7b0 : decide (x13_1 < (l1.length : Int)) = false := decide_eq_false c7; clear c7; have H' := Aside0.mk H; clear H; obtain ⟨Ao24, co24, eo24⟩ := Kd.S_slice HO_5.out
      subst eo24; go_wp2
      go_loopg [33] k1 (fun kq v33 w' => ∃ (x5_2 : List (List Int)) (x33_2 : Int), v33 = .int .i64 x33_2 ∧ Aside0 (graph_linksP.l1 kq x5_2 (x5_1.length : Int) x33_2 = some r) ∧ Aside0 (kq ≤ k1) ∧ Aside0 (Kd.S (Kd.slice 3 (Kd.int .i64)) 25 w' w.heap.size (fun _ => True) (.slice Ao24 x5_1.length co24) x5_2) ∧ Aside0 (Below w.heap.size w w'))
      case atStart => exact ⟨(x5_1), (0), (by first | rfl | (simp; done) | (simp [*]; done)), H', ⟨Nat.le_refl _⟩, ⟨by (with_reducible repeat (first | apply Kd.S_alloc | apply Kd.S_drewN | apply Kd.S_drew)); exact HO_5.out⟩, ⟨by repeat (first | (with_reducible first | exact HB.out | apply bAl | apply bDn | apply bD1) | exact HB.out)⟩⟩
      case round =>
       clear H'; (try clear c1); (try clear p1); (try clear q1); (try clear hx1); (try clear c2); (try clear p2); (try clear hx2); (try clear hf2); (try clear c3); (try clear c3b0); (try clear c3b1); (try clear c4); (try clear c4b0); (try clear c4b1); (try clear p6); (try clear c7); (try clear c7b0); (try clear c8); (try clear c8b0); (try clear c9); (try clear c9b0); (try clear c10); (try clear c10b0); (try clear p10); (try clear q10); (try clear hx10); (try clear c11); (try clear c11b0); (try clear c12); (try clear p13); (try clear q13); (try clear c19); (try clear c21); (try clear hx21); (try clear hf21); (try clear hcz15_0); (try clear hcz15_1); (try clear hfz15_0); (try clear hfz15_1); (try clear hx104_0); (try clear hx104_1); (try clear hx106_0); (try clear hx21_0); (try clear p104); (try clear p106); (try clear p13); (try clear p2); (try clear q104); (try clear q106); (try clear q13); obtain ⟨x5_2, x33_2, rfl, HA, HK2, HO_5, HB⟩ := hrel; have hl5_2 := (Kd.S_reads' HO_5.out).1
       rw [hl5_2] at HO_5; (try simp only [hl5_2])
       cases gk with
       | zero => exact absurd HA.out (by simp [graph_linksP.l1])
       | succ k2 =>
        have H := HA.out; clear HA; simp only [graph_linksP.l1] at H; by_cases c25 : x33_2 < (x5_1.length : Int)
        ·rw [if_pos c25] at H; have c25b0 : decide (x33_2 < (x5_1.length : Int)) = true := decide_eq_true c25; (try (have c25b0z := c25b0; simp only [hl5_2] at c25b0z))
         clear c25; by_cases c26 : 0 ≤ x33_2
         ·rw [if_pos c26] at H; have c26b0 : decide (0 ≤ x33_2) = true := decide_eq_true c26; (try (have c26b0z := c26b0; simp only [hl5_2] at c26b0z))
          clear c26; by_cases c27 : x33_2 < (x5_2.length : Int)
          ·rw [if_pos c27] at H; have c27b0 : decide (x33_2 < (x5_2.length : Int)) = true := decide_eq_true c27; (try (have c27b0z := c27b0; simp only [hl5_2] at c27b0z))
           clear c27; replace H := Option.bind_eq_some_iff.mp H; obtain ⟨_, A280, H⟩ := H; replace H : ((slices_Compact_int_int.f (rd_L4 x5_2 x33_2)).bind fun t113 => (graph_linksP.l1 k2 (x5_2.set (x33_2 : Int).toNat t113) (x5_1.length : Int) (wrap64 (x33_2 + 1)))) = some r := H
           have A28 := Aside0.mk A280; clear A280; replace H := Option.bind_eq_some_iff.mp H; obtain ⟨t113, A290, H⟩ := H; replace H : (graph_linksP.l1 k2 (x5_2.set (x33_2 : Int).toNat t113) (x5_1.length : Int) (wrap64 (x33_2 + 1))) = some r := H
           have A29 := Aside0.mk A290; clear A290; obtain ⟨y116, hy116⟩ : ∃ y_ : List (List Int), y_ = (x5_2.set (x33_2 : Int).toNat t113) := ⟨_, rfl⟩
           replace H : (graph_linksP.l1 k2 y116 (x5_1.length : Int) (wrap64 (x33_2 + 1))) = some r := by first | (rw [hy116]; with_reducible exact H) | (have H2_ := (Option.bind_some _ _).symm.trans H; rw [hy116]; with_reducible exact H2_) | (have H2_ := (Option.bind_some _ _).symm.trans H; with_reducible exact H2_) | with_reducible exact H | (rw [hy116]; exact H) | exact H
           have Ny116 := Aside0.mk hy116; clear hy116; have H' := Aside0.mk H; clear H; have p111 : 0 ≤ (x33_2 : Int) := odt (by first | (with_reducible assumption) | assumption); have q111 : x33_2 < (x5_2.length : Int) := odt (by first | (with_reducible assumption) | assumption); obtain ⟨ad111, A111_0, c111_0, e111, hx111_0, hl111_0, hi111_0⟩ := at_L4 (Kd.S_reads' HO_5.out).2.2 x33_2 p111 q111
           cases e111; obtain ⟨g9, cap9, e9, _⟩ := Kd.S_form HO_5.out (by omega)
           injection e9 with e9 _ e9c
           injection e9 with e9
           subst e9; subst e9c; rw [addr_plus, Nat.zero_add] at hx111_0; obtain ⟨hu113, hs113⟩ := sortc_open A28.out A29.out
           have HS1 := Aside0.mk (sort_elem HO_5.out x33_2 p111 (by omega) hx111_0 hu113 HB.out (below_size HB.out)); clear hi111_0 hl111_0; have HX9 := Aside0.mk hx111_0; replace p111 := eq_true p111; replace q111 := eq_true q111; have HL9 := Aside0.mk hu113; have HT9 := Aside0.mk hs113; clear hu113 hs113; go_wp2_with fail
           refine HS1.out.mono ?_
           rintro e w41 ⟨rfl, hs41, hx41, hb41⟩
           clear hx111_0; have HS2 := Aside0.mk (compact_elem (n := x5_2.length) hs41 x33_2 (of_eq_true p111) (of_eq_true q111) hx41 (by rw [rd_set (of_eq_true p111) (of_eq_true q111), sortI_length]; have := HL9.out; omega) hb41 (below_size hb41)); have HS41 := Aside0.mk hs41; clear hs41 HS1; go_wp2_with fail
           refine HS2.out.mono ?_
           rintro e w42 ⟨v42, rfl, hx42, hf42, ⟨A42, n42, c42, rfl⟩, hs42, hb42⟩
           have HO_9 := Aside0.mk hs42; have HB9 := Aside0.mk hb42; clear hs42 hb42 HS2 HS41 hb41 hx41 HO_5 HB; go_wp2
           have HO_5 : Aside0 (Kd.S (Kd.slice 3 (Kd.int .i64)) 25 (w42.setCell ⟨g9, x33_2.toNat, none⟩ (.slice A42 n42 c42)) w.heap.size (fun _ => True) (.slice (some ⟨g9, 0, none⟩) x5_2.length co24) y116) := ⟨by
            have h9 := HO_9.out; rw [rd_set (of_eq_true p111) (of_eq_true q111), List.set_set] at h9; rw [Ny116.out, HT9.out]
            exact h9⟩
           have HB := HB9; clear HO_9 HB9; (try simp only [← hl5_2])
           go_roundg k2
           case measure => have := HK1.out; have := HK2.out; omega
           case rel => exact ⟨(y116), (wrap64 (x33_2 + 1)), (by first | rfl | (simp; done) | (simp [*]; done)), H', ⟨by have := HK1.out; have := HK2.out; omega⟩, ⟨by (try simp only [hl5_2]); (with_reducible repeat (first | apply Kd.S_alloc | apply Kd.S_drewN | apply Kd.S_drew)); exact HO_5.out⟩, ⟨by repeat (first | (with_reducible first | exact HB.out | apply bAl | apply bDn | apply bD1) | exact HB.out)⟩⟩
          ·rw [if_neg c27] at H; exact absurd H (by simp)
         ·rw [if_neg c26] at H; exact absurd H (by simp)
        ·rw [if_neg c25] at H; have c25b0 : decide (x33_2 < (x5_1.length : Int)) = false := decide_eq_false c25; (try (have c25b0z := c25b0; simp only [hl5_2] at c25b0z))
         clear c25; obtain rfl := Option.some.inj H; go_wp2
         go_ret
         exact ⟨_, by first | rfl | (simp [errW_none, errW_some] <;> rfl) | (simp [*, errW_none, errW_some] <;> rfl), by (with_reducible repeat (first | apply Kd.S_alloc | apply Kd.S_drewN | apply Kd.S_drew)); exact HO_5.out, by repeat (first | (with_reducible first | exact HB.out | apply bAl | apply bDn | apply bD1) | exact HB.out)⟩
  ·rw [if_neg c4] at H; exact absurd H (by simp)
 ·rw [if_neg c3] at H; exact absurd H (by simp)
end Go.Proofs.Ytibnodjlcaodeaa.G
