/-
  Several texts in one: K5, K8, HMerges0, HMerges, HOps2, HMerges2.
-/
import Derived.Test.YtioekkdodggakaaDoorK0
import Derived.Test.YtioekkdodggakaaDoorK1
import Derived.Test.YtioekkdodggakaaDoorHSmall
import Derived.Test.YtioekkdodggakaaDoorK7
-- K5
set_option linter.unusedSimpArgs false
set_option linter.unusedVariables false
namespace Go.Proofs.YtioekkdodggakaaDoor.G
open Go.RowKit Go.Proofs.YtioekkdodggakaaDoorW.PrintWords Go.Proofs.YtioekkdodggakaaDoorW.PrintLast Go.Proofs.YtioekkdodggakaaDoorW.PrintMore
attribute [local go_sem] max2_int min2_int max_two min_two max_three min_three max_four min_four   -- for this text's walks alone
set_option linter.unusedVariables false
set_option linter.unusedSimpArgs false

/-! ### bournelaw25_few: function 8 -/
def bournelaw25_few.l0 : Nat → List (S29) → Int → Option (Bool)
  | 0, _, _ => none
  | k + 1, x0, x3 => if x3 < (x0.length : Int) then (if 0 ≤ x3 then (if (((rd_T29 x0 x3).f4).size : Int) > 100 then (some false) else (bournelaw25_few.l0 k x0 (wrap64 (x3 + 1)))) else (none)) else (some (decide ((x0.length : Int) ≤ 60)))
def bournelaw25_few.f (k : Nat) (l0 : List (S29)) : Option (Bool) := bournelaw25_few.l0 k l0 0
theorem bournelaw25_few.mono_l : ∀ k, (∀ y0 y1, LeO (bournelaw25_few.l0 k y0 y1) (bournelaw25_few.l0 (k + 1) y0 y1))
  | 0 => fun _ _ r h => by simp [bournelaw25_few.l0] at h
  | k + 1 => by
    have ih0 := bournelaw25_few.mono_l k
    · intro y0 y1
      unfold bournelaw25_few.l0
      repeat' first
      | (with_reducible exact ih0 _ _)
      | (with_reducible exact LeO.refl _)
      | (with_reducible exact LeO.none _)
      | (with_reducible refine LeO.ite ?_ ?_)
      | (with_reducible refine LeO.bind ?_ (fun _ => ?_))
      | exact ih0 _ _
      | exact LeO.none _
      | refine LeO.ite ?_ ?_
      | refine LeO.bind ?_ (fun _ => ?_)
theorem bournelaw25_few.mono : ∀ a0 k, LeO (bournelaw25_few.f k a0) (bournelaw25_few.f (k + 1) a0) := by
  intro a0 k
  have ih0 := bournelaw25_few.mono_l k
  unfold bournelaw25_few.f
  repeat' first
      | (with_reducible exact ih0 _ _)
      | (with_reducible exact LeO.refl _)
      | (with_reducible exact LeO.none _)
      | (with_reducible refine LeO.ite ?_ ?_)
      | (with_reducible refine LeO.bind ?_ (fun _ => ?_))
      | exact ih0 _ _
      | exact LeO.none _
      | refine LeO.ite ?_ ?_
      | refine LeO.bind ?_ (fun _ => ?_)
set_option maxHeartbeats 8000000 in
set_option maxRecDepth 100000 in
theorem bournelaw25_few.calls (k : Nat) (A0 : Option Addr) (c0 : Nat) (l0 : List (S29)) (r : Bool) (w : World) (hr0 : Kd.C k29 w A0 l0.length l0) (hc0 : l0.length ≤ c0) (h : bournelaw25_few.f k l0 = some r) :
    Calls Tryd.prog 8 #[.slice A0 l0.length c0] w fun e w' => e = .returned (.bool r) ∧ Drawn0 w w' := by
  have HR0 := Aside0.mk hr0
  have HC0 := Aside0.mk hc0
  clear hr0 hc0
  have H : (bournelaw25_few.l0 k l0 0) = some r := h
  clear h
  have H' := Aside0.mk H
  clear H
  go_enter Tryd.func8, Tryd.ntmps8
  go_wp2
  go_loopg [3] k (fun kq v3 w' => ∃ (x3_1 : Int), v3 = .int .i64 x3_1 ∧ Aside0 (bournelaw25_few.l0 kq l0 x3_1 = some r) ∧ Aside0 (kq ≤ k) ∧ Drawn0 w w')
  case atStart => exact ⟨(0), (by first | rfl | (simp; done) | (simp [*]; done)), H', ⟨Nat.le_refl _⟩, by repeat (first | exact Drawn0.refl _ | apply Drawn0.step)⟩
  case round =>
    clear H'
    obtain ⟨x3_1, rfl, HA, HK1, ⟨m1, rfl⟩⟩ := hrel
    cases gk with
    | zero => exact absurd HA.out (by simp [bournelaw25_few.l0])
    | succ k1 =>
      have H := HA.out
      clear HA
      simp only [bournelaw25_few.l0] at H
      by_cases c2 : x3_1 < (l0.length : Int)
      · rw [if_pos c2] at H
        have c2b0 : decide (x3_1 < (l0.length : Int)) = true := decide_eq_true c2
        clear c2
        by_cases c3 : 0 ≤ x3_1
        · rw [if_pos c3] at H
          have c3b0 : decide (0 ≤ x3_1) = true := decide_eq_true c3
          clear c3
          by_cases c4 : (((rd_T29 l0 x3_1).f4).size : Int) > 100
          · rw [if_pos c4] at H
            have c4b0 : decide (100 < (((rd_T29 l0 x3_1).f4).size : Int)) = true := decide_eq_true c4
            have c4b1 : decide (100 < ((rd_T29 l0 x3_1).f4).size) = true := decide_eq_true (by omega)
            clear c4
            obtain rfl := Option.some.inj H
            have p101 : 0 ≤ (x3_1 : Int) := of_decide_eq_true (by first | (with_reducible assumption) | assumption)
            have q101 : x3_1 < (l0.length : Int) := of_decide_eq_true (by first | (with_reducible assumption) | assumption)
            obtain ⟨ad101, e101, hx101_0, hx101_1, hx101_2, hx101_3, hx101_4⟩ := at_T29 HR0.out x3_1 p101 q101
            cases e101
            replace p101 := eq_true p101
            replace q101 := eq_true q101
            go_wp2
            go_ret
            exact ⟨by first | rfl | (simp; done) | (simp [*]; done), by repeat (first | exact Drawn0.refl _ | apply Drawn0.step)⟩
          · rw [if_neg c4] at H
            have c4b0 : decide (100 < (((rd_T29 l0 x3_1).f4).size : Int)) = false := decide_eq_false c4
            have c4b1 : decide (100 < ((rd_T29 l0 x3_1).f4).size) = false := decide_eq_false (by omega)
            clear c4
            have H' := Aside0.mk H
            clear H
            have p101 : 0 ≤ (x3_1 : Int) := of_decide_eq_true (by first | (with_reducible assumption) | assumption)
            have q101 : x3_1 < (l0.length : Int) := of_decide_eq_true (by first | (with_reducible assumption) | assumption)
            obtain ⟨ad101, e101, hx101_0, hx101_1, hx101_2, hx101_3, hx101_4⟩ := at_T29 HR0.out x3_1 p101 q101
            cases e101
            replace p101 := eq_true p101
            replace q101 := eq_true q101
            go_wp2
            go_roundg k1
            case measure => have := HK1.out; omega
            case rel => exact ⟨(wrap64 (x3_1 + 1)), (by first | rfl | (simp; done) | (simp [*]; done)), H', ⟨by have := HK1.out; omega⟩, by repeat (first | exact Drawn0.refl _ | apply Drawn0.step)⟩
        · rw [if_neg c3] at H
          exact absurd H (by simp)
      · rw [if_neg c2] at H
        have c2b0 : decide (x3_1 < (l0.length : Int)) = false := decide_eq_false c2
        clear c2
        obtain rfl := Option.some.inj H
        go_wp2
        go_ret
        exact ⟨by first | rfl | (simp; done) | (simp [*]; done), by repeat (first | exact Drawn0.refl _ | apply Drawn0.step)⟩

end Go.Proofs.YtioekkdodggakaaDoor.G
-- K8
namespace Go.Proofs.YtioekkdodggakaaDoor.G
open Go.RowKit Go.Proofs.YtioekkdodggakaaDoorW.PrintWords Go.Proofs.YtioekkdodggakaaDoorW.PrintLast Go.Proofs.YtioekkdodggakaaDoorW.PrintMore
attribute [local go_sem] max2_int min2_int max_two min_two max_three min_three max_four min_four   -- for this text's walks alone
set_option linter.unusedVariables false
set_option linter.unusedSimpArgs false

attribute [local go_sem high] eqA29
/-! ### bournelaw25_has: function 11 -/
def bournelaw25_has.l0 : Nat → List (S29) → Int → Int → Int → Int → Int → ByteArray → Option (Bool)
  | 0, _, _, _, _, _, _, _ => none
  | k + 1, x0, x5, x105000, x105001, x105002, x105003, x105004 => if x5 < (x0.length : Int) then (if 0 ≤ x5 then (if (((rd_T29 x0 x5).f0) == x105000 && (((rd_T29 x0 x5).f1) == x105001 && (((rd_T29 x0 x5).f2) == x105002 && (((rd_T29 x0 x5).f3) == x105003 && ((((rd_T29 x0 x5).f4).toList) == x105004.toList))))) = true then (some true) else (bournelaw25_has.l0 k x0 (wrap64 (x5 + 1)) x105000 x105001 x105002 x105003 x105004)) else (none)) else (some false)
def bournelaw25_has.f (k : Nat) (l0 : List (S29)) (a1_0 : Int) (a1_1 : Int) (a1_2 : Int) (a1_3 : Int) (a1_4 : ByteArray) : Option (Bool) := bournelaw25_has.l0 k l0 0 a1_0 a1_1 a1_2 a1_3 a1_4
theorem bournelaw25_has.mono_l : ∀ k, (∀ y0 y1 y2 y3 y4 y5 y6, LeO (bournelaw25_has.l0 k y0 y1 y2 y3 y4 y5 y6) (bournelaw25_has.l0 (k + 1) y0 y1 y2 y3 y4 y5 y6))
  | 0 => fun _ _ _ _ _ _ _ r h => by simp [bournelaw25_has.l0] at h
  | k + 1 => by
    have ih0 := bournelaw25_has.mono_l k
    · intro y0 y1 y2 y3 y4 y5 y6
      unfold bournelaw25_has.l0
      repeat' first
      | (with_reducible exact ih0 _ _ _ _ _ _ _)
      | (with_reducible exact LeO.refl _)
      | (with_reducible exact LeO.none _)
      | (with_reducible refine LeO.ite ?_ ?_)
      | (with_reducible refine LeO.bind ?_ (fun _ => ?_))
      | exact ih0 _ _ _ _ _ _ _
      | exact LeO.none _
      | refine LeO.ite ?_ ?_
      | refine LeO.bind ?_ (fun _ => ?_)
theorem bournelaw25_has.mono : ∀ a0 a1 a2 a3 a4 a5 k, LeO (bournelaw25_has.f k a0 a1 a2 a3 a4 a5) (bournelaw25_has.f (k + 1) a0 a1 a2 a3 a4 a5) := by
  intro a0 a1 a2 a3 a4 a5 k
  have ih0 := bournelaw25_has.mono_l k
  unfold bournelaw25_has.f
  repeat' first
      | (with_reducible exact ih0 _ _ _ _ _ _ _)
      | (with_reducible exact LeO.refl _)
      | (with_reducible exact LeO.none _)
      | (with_reducible refine LeO.ite ?_ ?_)
      | (with_reducible refine LeO.bind ?_ (fun _ => ?_))
      | exact ih0 _ _ _ _ _ _ _
      | exact LeO.none _
      | refine LeO.ite ?_ ?_
      | refine LeO.bind ?_ (fun _ => ?_)
set_option maxHeartbeats 8000000 in
set_option maxRecDepth 100000 in
theorem bournelaw25_has.calls (k : Nat) (A0 : Option Addr) (c0 : Nat) (l0 : List (S29)) (a1_0 : Int) (a1_1 : Int) (a1_2 : Int) (a1_3 : Int) (a1_4 : ByteArray) (r : Bool) (w : World) (hr0 : Kd.C k29 w A0 l0.length l0) (hc0 : l0.length ≤ c0) (h : bournelaw25_has.f k l0 a1_0 a1_1 a1_2 a1_3 a1_4 = some r) :
    Calls Tryd.prog 11 #[.slice A0 l0.length c0, .agg #[.int .i64 a1_0, .int .i64 a1_1, .int .i64 a1_2, .int .i64 a1_3, .string a1_4]] w fun e w' => e = .returned (.bool r) ∧ Below w.heap.size w w' := by
  have hu29 := Tryd.underlying29
  have HR0 := Aside0.mk hr0
  have HC0 := Aside0.mk hc0
  clear hr0 hc0
  have HB := Aside0.mk (Below.refl w.heap.size w)
  have H : (bournelaw25_has.l0 k l0 0 a1_0 a1_1 a1_2 a1_3 a1_4) = some r := h
  clear h
  have H' := Aside0.mk H
  clear H
  go_enter Tryd.func11, Tryd.ntmps11
  go_wp2_with (first | ((with_reducible refine gate_dst (N := 3) rfl ?_); refine box_event ?hg (N := 3) ?hd (cs := #[.int .i64 a1_0, .int .i64 a1_1, .int .i64 a1_2, .int .i64 a1_3, .string a1_4]) (t := 29) ?hr ?_; (case hd => rfl); (case hg => rfl); (case hr => first | (go_simp; done) | (go_simp; rfl)); intro gb104 hg w3 hbox hb; have n0_ := Aside0.mk (below_step (by repeat (first | (with_reducible first | exact HB.out | apply below_alloc | apply pw_below_drewN | apply below_drew1) | exact HB.out)) hb); have n1_ := Aside0.mk (hbox); have n2_ := Aside0.mk ((by rw [hg]; exact (below_size (by repeat (first | (with_reducible first | exact HB.out | apply below_alloc | apply pw_below_drewN | apply below_drew1) | exact HB.out))) : w.heap.size ≤ gb104)); have n3_ := Aside0.mk ((by rw [hg]; exact (below_size (by repeat (first | (with_reducible first | exact HB.out | apply below_alloc | apply pw_below_drewN | apply below_drew1) | exact HB.out))) : w.heap.size ≤ gb104)); clear HB; have HB := n0_; have BK104 := n1_; have GW104 := n2_; have GE104 := n3_; clear n0_ n1_ n2_ n3_; clear hb hbox hg))
  repeat (go_quiet (first | ((with_reducible refine gate_dst (N := 3) rfl ?_); refine box_event ?hg (N := 3) ?hd (cs := #[.int .i64 a1_0, .int .i64 a1_1, .int .i64 a1_2, .int .i64 a1_3, .string a1_4]) (t := 29) ?hr ?_; (case hd => rfl); (case hg => rfl); (case hr => first | (go_simp; done) | (go_simp; rfl)); intro gb104 hg w3 hbox hb; have n0_ := Aside0.mk (below_step (by repeat (first | (with_reducible first | exact HB.out | apply below_alloc | apply pw_below_drewN | apply below_drew1) | exact HB.out)) hb); have n1_ := Aside0.mk (hbox); have n2_ := Aside0.mk ((by rw [hg]; exact (below_size (by repeat (first | (with_reducible first | exact HB.out | apply below_alloc | apply pw_below_drewN | apply below_drew1) | exact HB.out))) : w.heap.size ≤ gb104)); have n3_ := Aside0.mk ((by rw [hg]; exact (below_size (by repeat (first | (with_reducible first | exact HB.out | apply below_alloc | apply pw_below_drewN | apply below_drew1) | exact HB.out))) : w.heap.size ≤ gb104)); clear HB; have HB := n0_; have BK104 := n1_; have GW104 := n2_; have GE104 := n3_; clear n0_ n1_ n2_ n3_; clear hb hbox hg)); try go_wp2_with (first | ((with_reducible refine gate_dst (N := 3) rfl ?_); refine box_event ?hg (N := 3) ?hd (cs := #[.int .i64 a1_0, .int .i64 a1_1, .int .i64 a1_2, .int .i64 a1_3, .string a1_4]) (t := 29) ?hr ?_; (case hd => rfl); (case hg => rfl); (case hr => first | (go_simp; done) | (go_simp; rfl)); intro gb104 hg w3 hbox hb; have n0_ := Aside0.mk (below_step (by repeat (first | (with_reducible first | exact HB.out | apply below_alloc | apply pw_below_drewN | apply below_drew1) | exact HB.out)) hb); have n1_ := Aside0.mk (hbox); have n2_ := Aside0.mk ((by rw [hg]; exact (below_size (by repeat (first | (with_reducible first | exact HB.out | apply below_alloc | apply pw_below_drewN | apply below_drew1) | exact HB.out))) : w.heap.size ≤ gb104)); have n3_ := Aside0.mk ((by rw [hg]; exact (below_size (by repeat (first | (with_reducible first | exact HB.out | apply below_alloc | apply pw_below_drewN | apply below_drew1) | exact HB.out))) : w.heap.size ≤ gb104)); clear HB; have HB := n0_; have BK104 := n1_; have GW104 := n2_; have GE104 := n3_; clear n0_ n1_ n2_ n3_; clear hb hbox hg)))
  go_loopg [5] k (fun kq v5 w' => ∃ (x5_1 : Int), v5 = .int .i64 x5_1 ∧ Aside0 (bournelaw25_has.l0 kq l0 x5_1 a1_0 a1_1 a1_2 a1_3 a1_4 = some r) ∧ Aside0 (kq ≤ k) ∧ Aside0 (w'.heap[gb104]? = some (.cells #[.int .i64 a1_0, .int .i64 a1_1, .int .i64 a1_2, .int .i64 a1_3, .string a1_4] 29 (0, 0))) ∧ Aside0 (Below w.heap.size w w'))
  case atStart => exact ⟨(0), (by first | rfl | (simp; done) | (simp [*]; done)), H', ⟨Nat.le_refl _⟩, ⟨by (with_reducible repeat (first | refine blk_drewN ?_ _ | refine blk_drew ?_ | refine blk_alloc ?_ _)); exact BK104.out⟩, ⟨by repeat (first | (with_reducible first | exact HB.out | apply below_alloc | apply pw_below_drewN | apply below_drew1 | refine below_set ?_ GE104.out) | exact HB.out)⟩⟩
  case round =>
    clear H'
    try clear c1
    try clear p2
    obtain ⟨x5_1, rfl, HA, HK1, BK104, HB⟩ := hrel
    cases gk with
    | zero => exact absurd HA.out (by simp [bournelaw25_has.l0])
    | succ k1 =>
      have H := HA.out
      clear HA
      simp only [bournelaw25_has.l0] at H
      by_cases c4 : x5_1 < (l0.length : Int)
      · rw [if_pos c4] at H
        have c4b0 : decide (x5_1 < (l0.length : Int)) = true := decide_eq_true c4
        clear c4
        by_cases c5 : 0 ≤ x5_1
        · rw [if_pos c5] at H
          have c5b0 : decide (0 ≤ x5_1) = true := decide_eq_true c5
          clear c5
          by_cases c6 : (((rd_T29 l0 x5_1).f0) == a1_0 && (((rd_T29 l0 x5_1).f1) == a1_1 && (((rd_T29 l0 x5_1).f2) == a1_2 && (((rd_T29 l0 x5_1).f3) == a1_3 && ((((rd_T29 l0 x5_1).f4).toList) == a1_4.toList))))) = true
          · rw [if_pos c6] at H
            have c6b0 : (((rd_T29 l0 x5_1).f0) == a1_0 && (((rd_T29 l0 x5_1).f1) == a1_1 && (((rd_T29 l0 x5_1).f2) == a1_2 && (((rd_T29 l0 x5_1).f3) == a1_3 && ((((rd_T29 l0 x5_1).f4).toList) == a1_4.toList))))) = true := c6
            (try (have c6b1 : decide (((rd_T29 l0 x5_1).f0) = a1_0 && (((rd_T29 l0 x5_1).f1) == a1_1 && (((rd_T29 l0 x5_1).f2) == a1_2 && (((rd_T29 l0 x5_1).f3) == a1_3 && ((((rd_T29 l0 x5_1).f4).toList) == a1_4.toList))))) = true := by simpa using c6))
            (try (have c6b2 : (((rd_T29 l0 x5_1).f0) == a1_0 && (((rd_T29 l0 x5_1).f1) == a1_1 && (((rd_T29 l0 x5_1).f2) == a1_2 && (((rd_T29 l0 x5_1).f3) == a1_3 && ((((rd_T29 l0 x5_1).f4).toList) == a1_4.toList))))) = true := by simpa using c6))
            clear c6
            obtain rfl := Option.some.inj H
            have p105 : 0 ≤ (x5_1 : Int) := of_decide_eq_true (by first | (with_reducible assumption) | assumption)
            have q105 : x5_1 < (l0.length : Int) := of_decide_eq_true (by first | (with_reducible assumption) | assumption)
            obtain ⟨ad105, e105, hx105_0, hx105_1, hx105_2, hx105_3, hx105_4⟩ := at_T29 HR0.out x5_1 p105 q105
            cases e105
            (try replace hx105_0 := (HB.out.cell (World.block_lt_of_cell? w _ hx105_0)).trans hx105_0)
            (try replace hx105_1 := (HB.out.cell (World.block_lt_of_cell? w _ hx105_1)).trans hx105_1)
            (try replace hx105_2 := (HB.out.cell (World.block_lt_of_cell? w _ hx105_2)).trans hx105_2)
            (try replace hx105_3 := (HB.out.cell (World.block_lt_of_cell? w _ hx105_3)).trans hx105_3)
            (try replace hx105_4 := (HB.out.cell (World.block_lt_of_cell? w _ hx105_4)).trans hx105_4)
            replace p105 := eq_true p105
            replace q105 := eq_true q105
            have hcz7_0 : wr.cell? ⟨gb104, 0, none⟩ = some (.int .i64 a1_0) := (blk_cell BK104.out 0).trans rfl
            have hcz7_1 : wr.cell? ⟨gb104, 1, none⟩ = some (.int .i64 a1_1) := (blk_cell BK104.out 1).trans rfl
            have hcz7_2 : wr.cell? ⟨gb104, 2, none⟩ = some (.int .i64 a1_2) := (blk_cell BK104.out 2).trans rfl
            have hcz7_3 : wr.cell? ⟨gb104, 3, none⟩ = some (.int .i64 a1_3) := (blk_cell BK104.out 3).trans rfl
            have hcz7_4 : wr.cell? ⟨gb104, 4, none⟩ = some (.string a1_4) := (blk_cell BK104.out 4).trans rfl
            have hfz7_0 := blk_frozen BK104.out 0
            have hfz7_1 := blk_frozen BK104.out 1
            have hfz7_2 := blk_frozen BK104.out 2
            have hfz7_3 := blk_frozen BK104.out 3
            have hfz7_4 := blk_frozen BK104.out 4
            go_wp2
            repeat (go_quiet (fail); try go_wp2)
            go_ret
            exact ⟨by first | rfl | (simp [errW_none, errW_some] <;> rfl) | (simp [*, errW_none, errW_some] <;> rfl), by repeat (first | (with_reducible first | exact HB.out | apply below_alloc | apply pw_below_drewN | apply below_drew1 | refine below_set ?_ GE104.out) | exact HB.out)⟩
          · rw [if_neg c6] at H
            have c6b0 : (((rd_T29 l0 x5_1).f0) == a1_0 && (((rd_T29 l0 x5_1).f1) == a1_1 && (((rd_T29 l0 x5_1).f2) == a1_2 && (((rd_T29 l0 x5_1).f3) == a1_3 && ((((rd_T29 l0 x5_1).f4).toList) == a1_4.toList))))) = false := by simpa using c6
            (try (have c6b1 : decide (((rd_T29 l0 x5_1).f0) = a1_0 && (((rd_T29 l0 x5_1).f1) == a1_1 && (((rd_T29 l0 x5_1).f2) == a1_2 && (((rd_T29 l0 x5_1).f3) == a1_3 && ((((rd_T29 l0 x5_1).f4).toList) == a1_4.toList))))) = false := by simpa using c6))
            (try (have c6b2 : (((rd_T29 l0 x5_1).f0) == a1_0 && (((rd_T29 l0 x5_1).f1) == a1_1 && (((rd_T29 l0 x5_1).f2) == a1_2 && (((rd_T29 l0 x5_1).f3) == a1_3 && ((((rd_T29 l0 x5_1).f4).toList) == a1_4.toList))))) = false := by simpa using c6))
            (try (have c6b3 : ¬ (((rd_T29 l0 x5_1).f0) = a1_0 && (((rd_T29 l0 x5_1).f1) == a1_1 && (((rd_T29 l0 x5_1).f2) == a1_2 && (((rd_T29 l0 x5_1).f3) == a1_3 && ((((rd_T29 l0 x5_1).f4).toList) == a1_4.toList))))) := by simpa using c6))
            clear c6
            have H' := Aside0.mk H
            clear H
            have p105 : 0 ≤ (x5_1 : Int) := of_decide_eq_true (by first | (with_reducible assumption) | assumption)
            have q105 : x5_1 < (l0.length : Int) := of_decide_eq_true (by first | (with_reducible assumption) | assumption)
            obtain ⟨ad105, e105, hx105_0, hx105_1, hx105_2, hx105_3, hx105_4⟩ := at_T29 HR0.out x5_1 p105 q105
            cases e105
            (try replace hx105_0 := (HB.out.cell (World.block_lt_of_cell? w _ hx105_0)).trans hx105_0)
            (try replace hx105_1 := (HB.out.cell (World.block_lt_of_cell? w _ hx105_1)).trans hx105_1)
            (try replace hx105_2 := (HB.out.cell (World.block_lt_of_cell? w _ hx105_2)).trans hx105_2)
            (try replace hx105_3 := (HB.out.cell (World.block_lt_of_cell? w _ hx105_3)).trans hx105_3)
            (try replace hx105_4 := (HB.out.cell (World.block_lt_of_cell? w _ hx105_4)).trans hx105_4)
            replace p105 := eq_true p105
            replace q105 := eq_true q105
            have hcz8_0 : wr.cell? ⟨gb104, 0, none⟩ = some (.int .i64 a1_0) := (blk_cell BK104.out 0).trans rfl
            have hcz8_1 : wr.cell? ⟨gb104, 1, none⟩ = some (.int .i64 a1_1) := (blk_cell BK104.out 1).trans rfl
            have hcz8_2 : wr.cell? ⟨gb104, 2, none⟩ = some (.int .i64 a1_2) := (blk_cell BK104.out 2).trans rfl
            have hcz8_3 : wr.cell? ⟨gb104, 3, none⟩ = some (.int .i64 a1_3) := (blk_cell BK104.out 3).trans rfl
            have hcz8_4 : wr.cell? ⟨gb104, 4, none⟩ = some (.string a1_4) := (blk_cell BK104.out 4).trans rfl
            have hfz8_0 := blk_frozen BK104.out 0
            have hfz8_1 := blk_frozen BK104.out 1
            have hfz8_2 := blk_frozen BK104.out 2
            have hfz8_3 := blk_frozen BK104.out 3
            have hfz8_4 := blk_frozen BK104.out 4
            go_wp2
            repeat (go_quiet (fail); try go_wp2)
            go_roundg k1
            case measure => have := HK1.out; omega
            case rel => exact ⟨(wrap64 (x5_1 + 1)), (by first | rfl | (simp; done) | (simp [*]; done)), H', ⟨by have := HK1.out; omega⟩, ⟨by (with_reducible repeat (first | refine blk_drewN ?_ _ | refine blk_drew ?_ | refine blk_alloc ?_ _)); exact BK104.out⟩, ⟨by repeat (first | (with_reducible first | exact HB.out | apply below_alloc | apply pw_below_drewN | apply below_drew1 | refine below_set ?_ GE104.out) | exact HB.out)⟩⟩
        · rw [if_neg c5] at H
          exact absurd H (by simp)
      · rw [if_neg c4] at H
        have c4b0 : decide (x5_1 < (l0.length : Int)) = false := decide_eq_false c4
        clear c4
        obtain rfl := Option.some.inj H
        go_wp2
        repeat (go_quiet (fail); try go_wp2)
        go_ret
        exact ⟨by first | rfl | (simp [errW_none, errW_some] <;> rfl) | (simp [*, errW_none, errW_some] <;> rfl), by repeat (first | (with_reducible first | exact HB.out | apply below_alloc | apply pw_below_drewN | apply below_drew1 | refine below_set ?_ GE104.out) | exact HB.out)⟩

end Go.Proofs.YtioekkdodggakaaDoor.G
-- HMerges0
/-
  The laws' small loops, plainly.
-/
namespace Go.Proofs.YtioekkdodggakaaDoor.G
open Go.RowKit Go.Proofs.YtioekkdodggakaaDoorW.PrintWords Go.Proofs.YtioekkdodggakaaDoorW.PrintLast Go.Proofs.YtioekkdodggakaaDoorW.PrintMore
set_option linter.unusedVariables false
set_option linter.unusedSimpArgs false
def fewB (l : List S29) : Bool := (l.all fun x => decide (x.f4.size ≤ 100)) && decide (l.length ≤ 60)
theorem w64 (i : Nat) (h : i < 9223372036854775807) : wrap64 ((i : Int) + 1) = ((i + 1 : Nat) : Int) := by rw [wrap64]; omega
theorem rd_get (l : List S29) (i : Nat) (h : i < l.length) : rd_T29 l (i : Int) = l[i] := by
  unfold rd_T29
  rw [Int.toNat_natCast, List.getD_eq_getElem?_getD, List.getElem?_eq_getElem h]; rfl
theorem few_l0 (l : List S29) (hl : l.length < 9223372036854775808) : ∀ (j i k : Nat), i + j = l.length → j < k → bournelaw25_few.l0 k l (i : Int) = some (((l.drop i).all fun x => decide (x.f4.size ≤ 100)) && decide (l.length ≤ 60)) := by
  intro j
  induction j with
  | zero =>
    intro i k hi hk
    obtain ⟨k, rfl⟩ : ∃ n, k = n + 1 := ⟨k - 1, by omega⟩
    simp only [bournelaw25_few.l0]
    rw [if_neg (by omega), List.drop_of_length_le (by omega), List.all_nil, Bool.true_and]
    congr 1
    exact decide_eq_decide.2 (by omega)
  | succ j ih =>
    intro i k hi hk
    obtain ⟨k, rfl⟩ : ∃ n, k = n + 1 := ⟨k - 1, by omega⟩
    simp only [bournelaw25_few.l0]
    have hlt : i < l.length := by omega
    rw [if_pos (by omega), if_pos (by omega), List.drop_eq_getElem_cons hlt, List.all_cons, ← rd_get l i hlt, w64 i (by omega)]
    by_cases h30 : (rd_T29 l (i : Int)).f4.size ≤ 100
    · rw [if_neg (by omega), decide_eq_true h30, Bool.true_and]
      exact ih (i + 1) k (by omega) (by omega)
    · rw [if_pos (by omega), decide_eq_false h30]; rfl
theorem few_eq (l : List S29) (hl : l.length < 9223372036854775808) (k : Nat) (hk : l.length < k) : bournelaw25_few.f k l = some (fewB l) := by
  unfold bournelaw25_few.f fewB
  have := few_l0 l hl l.length 0 k (by omega) (by omega)
  rw [List.drop_zero] at this
  exact this
theorem fewB_len {l : List S29} (h : fewB l = true) : l.length ≤ 60 := by
  unfold fewB at h
  rw [Bool.and_eq_true, decide_eq_true_eq] at h
  exact h.2
theorem fewB_tag {l : List S29} (h : fewB l = true) : ∀ x ∈ l, x.f4.size ≤ 100 := by
  unfold fewB at h
  rw [Bool.and_eq_true, List.all_eq_true] at h
  exact fun x hx => of_decide_eq_true (h.1 x hx)
theorem same_l0 (l : List S29) (hl : l.length < 9223372036854775808) : ∀ (j i k : Nat), i + j = l.length → j < k → bourneref25_Same.l0 k l l (i : Int) = some true := by
  intro j
  induction j with
  | zero =>
    intro i k hi hk
    obtain ⟨k, rfl⟩ : ∃ n, k = n + 1 := ⟨k - 1, by omega⟩
    simp only [bourneref25_Same.l0]
    rw [if_neg (by omega)]
  | succ j ih =>
    intro i k hi hk
    obtain ⟨k, rfl⟩ : ∃ n, k = n + 1 := ⟨k - 1, by omega⟩
    simp only [bourneref25_Same.l0]
    rw [if_pos (by omega), if_pos (by omega), if_pos (by omega), if_neg (by simp), w64 i (by omega)]
    exact ih (i + 1) k (by omega) (by omega)
theorem same_eq (l : List S29) (hl : l.length < 9223372036854775808) (k : Nat) (hk : l.length < k) : bourneref25_Same.f k l l = some true := by
  unfold bourneref25_Same.f
  rw [if_pos rfl]
  exact same_l0 l hl l.length 0 k (by omega) (by omega)
theorem has_l0 (l : List S29) (hl : l.length < 9223372036854775808) (x : S29) : ∀ (j i k : Nat), i + j = l.length → j < k → bournelaw25_has.l0 k l (i : Int) x.f0 x.f1 x.f2 x.f3 x.f4 = some (decide (x ∈ l.drop i)) := by
  intro j
  induction j with
  | zero =>
    intro i k hi hk
    obtain ⟨k, rfl⟩ : ∃ n, k = n + 1 := ⟨k - 1, by omega⟩
    simp only [bournelaw25_has.l0]
    rw [if_neg (by omega), List.drop_of_length_le (by omega)]
    simp
  | succ j ih =>
    intro i k hi hk
    obtain ⟨k, rfl⟩ : ∃ n, k = n + 1 := ⟨k - 1, by omega⟩
    simp only [bournelaw25_has.l0]
    have hlt : i < l.length := by omega
    rw [if_pos (by omega), if_pos (by omega), List.drop_eq_getElem_cons hlt, ← rd_get l i hlt, w64 i (by omega)]
    have he : ((rd_T29 l (i : Int)).f0 == x.f0 && ((rd_T29 l (i : Int)).f1 == x.f1 && ((rd_T29 l (i : Int)).f2 == x.f2 && ((rd_T29 l (i : Int)).f3 == x.f3 && ((rd_T29 l (i : Int)).f4.toList == x.f4.toList))))) = decide (rd_T29 l (i : Int) = x) := eqG_dec (rd_T29 l (i : Int)) x
    rw [he, ih (i + 1) k (by omega) (by omega)]
    by_cases hx : rd_T29 l (i : Int) = x
    · rw [decide_eq_true hx, if_pos rfl]
      simp [hx]
    · rw [decide_eq_false hx, if_neg (by simp)]
      congr 1
      exact decide_eq_decide.2 ⟨fun h => List.mem_cons_of_mem _ h, fun h => (List.mem_cons.1 h).resolve_left (fun e => hx e.symm)⟩
theorem has_eq (l : List S29) (hl : l.length < 9223372036854775808) (x : S29) (k : Nat) (hk : l.length < k) : bournelaw25_has.f k l x.f0 x.f1 x.f2 x.f3 x.f4 = some (decide (x ∈ l)) := by
  unfold bournelaw25_has.f
  have := has_l0 l hl x l.length 0 k (by omega) (by omega)
  rw [List.drop_zero] at this
  exact this
open Go.Lib
theorem merge_ex (l : List S29) : ∃ r, MergeOf (· ∈ l) r := by
  have hs : ∃ r : List S29, r.Perm l ∧ r.Pairwise (fun a b => ¬ ltG b a) := by
    refine ⟨l.mergeSort (fun a b => !decide (cmpG b a < 0)), List.mergeSort_perm _ _, ?_⟩
    have h := List.pairwise_mergeSort (le := fun a b : S29 => !decide (cmpG b a < 0)) ?_ ?_ l
    · refine h.imp ?_
      intro a b hab
      simpa [cmpG_neg] using hab
    · intro a b c hab hbc
      simp only [Bool.not_eq_true', decide_eq_false_iff_not, cmpG_neg] at hab hbc ⊢
      intro hca
      rcases ltG_tri a b with h | h | h
      · rcases ltG_tri b c with h' | h' | h'
        · exact ltG_irr _ (ltG_trans (ltG_trans h h') hca)
        · subst h'; exact ltG_irr _ (ltG_trans h hca)
        · exact hbc h'
      · subst h; exact hbc hca
      · exact hab h
    · intro a b
      simp only [Bool.or_eq_true, Bool.not_eq_true', decide_eq_false_iff_not, cmpG_neg]
      rcases ltG_tri a b with h | h | h
      · exact .inl fun h' => ltG_irr _ (ltG_trans h h')
      · subst h; exact .inl (ltG_irr _)
      · exact .inr fun h' => ltG_irr _ (ltG_trans h h')
  obtain ⟨r, hp, hr⟩ := hs
  obtain ⟨h1, h2⟩ := compact_spec ltG_irr (fun _ _ _ => ltG_trans) ltG_tri r hr
  exact ⟨compact r, h1, fun x => (h2 x).trans hp.mem_iff⟩
end Go.Proofs.YtioekkdodggakaaDoor.G
-- HMerges
/-
  bournelaw25.SeriesMerges, walked.
-/
namespace Go.Proofs.YtioekkdodggakaaDoor.G
open Go.RowKit Go.Proofs.YtioekkdodggakaaDoorW.PrintWords Go.Proofs.YtioekkdodggakaaDoorW.PrintLast Go.Proofs.YtioekkdodggakaaDoorW.PrintMore
set_option linter.unusedVariables false
set_option linter.unusedSimpArgs false
theorem Merge_is (A B : Option Addr) (ca cb : Nat) (x y r : List S29) (w : World) (hx : Kd.C k29 w A x.length x) (hy : Kd.C k29 w B y.length y) (hcx : x.length ≤ ca) (hcy : y.length ≤ cb) (hnx : A = none → ca = 0) (hny : B = none → cb = 0) (hlx : x.length ≤ 100000) (hly : y.length ≤ 100000) (hm : ∀ g, g ∈ r ↔ (g ∈ x ∨ g ∈ y)) (hs : r.Pairwise ltG) :
    Calls Tryd.prog 9 #[.slice A x.length ca, .slice B y.length cb] w fun e w' => ∃ D cd, e = .returned (.slice D r.length cd) ∧ r.length ≤ cd ∧ (D = none → cd = 0) ∧ r.length ≤ x.length + y.length ∧ Kd.C k29 w' D r.length r ∧ Below w.heap.size w w' := by
  refine (Merge_any A B ca cb x y w (k29_reads hx) (k29_reads hy) hcx hcy hnx hny hlx hly).mono ?_
  rintro e w' ⟨v, s, rfl, hms, hl, hrow, hb⟩
  obtain rfl : r = s := MergeOf.unique (P := fun g => g ∈ x ∨ g ∈ y) (Q := fun g => g ∈ x ∨ g ∈ y) ⟨hs, hm⟩ hms (fun _ => Iff.rfl)
  obtain ⟨D, cd, rfl, hle, hn, hr⟩ := hrow.reads encG_len
  exact ⟨D, cd, rfl, hle, hn, hl, reads_k29 hr, hb⟩

set_option maxHeartbeats 16000000 in
set_option maxRecDepth 100000 in
theorem Merges_few (A B C : Option Addr) (ca cb cc : Nat) (x y z : List S29) (g : Int) (w : World) (hgl : Gl w) (hx : Kd.C k29 w A x.length x) (hy : Kd.C k29 w B y.length y) (hz : Kd.C k29 w C z.length z) (hcx : x.length ≤ ca) (hcy : y.length ≤ cb) (hcz : z.length ≤ cc) (hlx : x.length < 9223372036854775808) (hly : y.length < 9223372036854775808) (hlz : z.length < 9223372036854775808) (hf : (fewB x && (fewB y && fewB z)) = false) :
    Calls Tryd.prog 3 #[.slice A x.length ca, .slice B y.length cb, .slice C z.length cc, .int .i64 g] w fun e w' => e = .returned (.bool true) ∧ Below w.heap.size w w' := by
  have HX := Aside0.mk hx
  have HY := Aside0.mk hy
  have HZ := Aside0.mk hz
  have HFX := Aside0.mk (few_eq x hlx (x.length + 1) (by omega))
  have HFY := Aside0.mk (few_eq y hly (y.length + 1) (by omega))
  have HFZ := Aside0.mk (few_eq z hlz (z.length + 1) (by omega))
  have HS := Aside0.mk (small_calls w hgl)
  clear hx hy hz hgl
  go_enter Tryd.func3, Tryd.ntmps3
  go_wp2_with fail
  refine HS.out.mono ?_
  rintro e w1 ⟨rfl, hb1⟩
  have HB1 := Aside0.mk hb1
  clear hb1
  cases hfx : fewB x with
  | false =>
    rw [hfx] at HFX
    go_wp2_with fail
    refine (bournelaw25_few.calls (x.length + 1) A ca x false _ (Kd.C_below HX.out HB1.out) hcx HFX.out).mono ?_
    rintro e w2 ⟨rfl, hd2⟩
    go_wp2
    go_ret
    exact ⟨rfl, HB1.out.trans (hd2.below.mono HB1.out.size)⟩
  | true =>
    rw [hfx] at HFX hf
    cases hfy : fewB y with
    | false =>
      rw [hfy] at HFY
      go_wp2_with fail
      refine (bournelaw25_few.calls (x.length + 1) A ca x true _ (Kd.C_below HX.out HB1.out) hcx HFX.out).mono ?_
      rintro e w2 ⟨rfl, hd2⟩
      have HB2 := Aside0.mk (HB1.out.trans (hd2.below.mono HB1.out.size))
      clear hd2
      go_wp2_with fail
      refine (bournelaw25_few.calls (y.length + 1) B cb y false _ (Kd.C_below HY.out HB2.out) hcy HFY.out).mono ?_
      rintro e w3 ⟨rfl, hd3⟩
      go_wp2
      go_ret
      exact ⟨rfl, HB2.out.trans (hd3.below.mono HB2.out.size)⟩
    | true =>
      rw [hfy] at HFY hf
      have hfz : fewB z = false := by simpa using hf
      rw [hfz] at HFZ
      go_wp2_with fail
      refine (bournelaw25_few.calls (x.length + 1) A ca x true _ (Kd.C_below HX.out HB1.out) hcx HFX.out).mono ?_
      rintro e w2 ⟨rfl, hd2⟩
      have HB2 := Aside0.mk (HB1.out.trans (hd2.below.mono HB1.out.size))
      clear hd2
      go_wp2_with fail
      refine (bournelaw25_few.calls (y.length + 1) B cb y true _ (Kd.C_below HY.out HB2.out) hcy HFY.out).mono ?_
      rintro e w3 ⟨rfl, hd3⟩
      have HB3 := Aside0.mk (HB2.out.trans (hd3.below.mono HB2.out.size))
      clear hd3
      go_wp2_with fail
      refine (bournelaw25_few.calls (z.length + 1) C cc z false _ (Kd.C_below HZ.out HB3.out) hcz HFZ.out).mono ?_
      rintro e w4 ⟨rfl, hd4⟩
      go_wp2
      go_ret
      exact ⟨rfl, HB3.out.trans (hd4.below.mono HB3.out.size)⟩
end Go.Proofs.YtioekkdodggakaaDoor.G
-- HOps2
/-
  Single operations over an abstract frame: the laws' big conditions.
-/
namespace Go.Proofs.YtioekkdodggakaaDoor.G
open Go.RowKit Go.Proofs.YtioekkdodggakaaDoorW.PrintWords Go.Proofs.YtioekkdodggakaaDoorW.PrintLast Go.Proofs.YtioekkdodggakaaDoorW.PrintMore
set_option linter.unusedVariables false
set_option linter.unusedSimpArgs false
section
variable {o : Oper} {a : Act} {K : Act → World → Prop} {Q : Exit → Act → World → Prop} {w : World}
theorem op_move (x : Operand) (ho : o.op = .move x) (v : Value) (hx : a.eval x = v) (h : K (a.put o.dst v) w) : o.wp Tryd.prog a w K Q := by
  unfold Oper.wp execOp
  simp [ho, hx, Result.andThen, Oper.upon]
  exact h
theorem op_not (t : TypeId) (x : Operand) (ho : o.op = .unOp .not t x) (b : Bool) (hx : a.eval x = .bool b) (h : K (a.put o.dst (.bool (!b))) w) : o.wp Tryd.prog a w K Q := by
  unfold Oper.wp execOp
  simp [ho, hx, Result.andThen, Oper.upon, Op.unary, asBool]
  exact h
theorem op_pick (c x y : Operand) (ho : o.op = .pick c x y) (b : Bool) (v : Value) (hc : a.eval c = .bool b) (hx : (if b then a.eval x else a.eval y) = v) (h : K (a.put o.dst v) w) : o.wp Tryd.prog a w K Q := by
  unfold Oper.wp execOp
  subst hx
  cases b <;> simp [ho, hc, Result.andThen, Oper.upon, asBool] <;> exact h
theorem op_index (s i : Operand) (ho : o.op = .indexAddr 22 s i) (ad : Addr) (n c : Nat) (k : Nat) (hs : a.eval s = .slice (some ad) n c) (hi : a.eval i = .int .i64 k) (h1 : k < n) (h : K (a.put o.dst (.pointer (some (ad.add (k * 5))))) w) : o.wp Tryd.prog a w K Q := by
  have hu22 := Tryd.underlying22
  have hb : (0 : Int) ≤ (k : Int) := by omega
  have hb1 : (k : Int) < (n : Int) := by omega
  have hr : (Instr.indexAt 22 (.slice (some ad) n c) (.int .i64 k)).run Tryd.prog w = .ok (.pointer (some (ad.add (k * 5)))) w := by go_simp
  unfold Oper.wp execOp
  simp [ho, hs, hi, hr, Result.andThen, Oper.upon]
  exact h
theorem op_load3 (x : Operand) (ho : o.op = .load 3 x) (p : Addr) (k : Int) (hx : a.eval x = .pointer (some p)) (hc : w.cell? p = some (.int .i64 k)) (h : K (a.put o.dst (.int .i64 k)) w) : o.wp Tryd.prog a w K Q := by
  have hu3 := Tryd.underlying3
  have hr : (Instr.loadAt 3 (.pointer (some p))).run Tryd.prog w = .ok (.int .i64 k) w := by go_simp
  unfold Oper.wp execOp
  simp [ho, hx, hr, Result.andThen, Oper.upon]
  exact h
theorem op_load29 (x : Operand) (ho : o.op = .load 29 x) (p : Addr) (t : S29) (hx : a.eval x = .pointer (some p)) (h0 : w.cell? p = some (.int .i64 t.f0)) (h1 : w.cell? ⟨p.block, p.off + 1, none⟩ = some (.int .i64 t.f1)) (h2 : w.cell? ⟨p.block, p.off + 2, none⟩ = some (.int .i64 t.f2)) (h3 : w.cell? ⟨p.block, p.off + 3, none⟩ = some (.int .i64 t.f3)) (h4 : w.cell? ⟨p.block, p.off + 4, none⟩ = some (.string t.f4)) (h : K (a.put o.dst (encA t)) w) : o.wp Tryd.prog a w K Q := by
  have hu29 := Tryd.underlying29
  have hr : (Instr.loadAt 29 (.pointer (some p))).run Tryd.prog w = .ok (encA t) w := by unfold encA; go_simp
  unfold Oper.wp execOp
  simp [ho, hx, hr, Result.andThen, Oper.upon]
  exact h
theorem op_field0 (x : Operand) (ho : o.op = .fieldAddr 29 x 0) (ad : Addr) (k : Nat) (hx : a.eval x = .pointer (some (ad.add k))) (h : K (a.put o.dst (.pointer (some (ad.add k)))) w) : o.wp Tryd.prog a w K Q := by
  have hu29 := Tryd.underlying29
  have hr : (Instr.fieldAt 29 (.pointer (some (ad.add k))) 0).run Tryd.prog w = .ok (.pointer (some (ad.add k))) w := by go_simp
  unfold Oper.wp execOp
  simp [ho, hx, hr, Result.andThen, Oper.upon]
  exact h
theorem op_field1 (x : Operand) (ho : o.op = .fieldAddr 29 x 1) (ad : Addr) (k : Nat) (hx : a.eval x = .pointer (some (ad.add k))) (h : K (a.put o.dst (.pointer (some ⟨(ad.add k).block, (ad.add k).off + 1, none⟩))) w) : o.wp Tryd.prog a w K Q := by
  have hu29 := Tryd.underlying29
  have hr : (Instr.fieldAt 29 (.pointer (some (ad.add k))) 1).run Tryd.prog w = .ok (.pointer (some ⟨(ad.add k).block, (ad.add k).off + 1, none⟩)) w := by go_simp
  unfold Oper.wp execOp
  simp [ho, hx, hr, Result.andThen, Oper.upon]
  exact h
theorem op_gtr (x y : Operand) (ho : o.op = .binOp .gtr 3 x y 3) (m n : Int) (hx : a.eval x = .int .i64 m) (hy : a.eval y = .int .i64 n) (h : K (a.put o.dst (.bool (decide (n < m)))) w) : o.wp Tryd.prog a w K Q := by
  have hr : (binOp .gtr 3 (.int .i64 m) (.int .i64 n)).run Tryd.prog w = .ok (.bool (decide (n < m))) w := by go_simp; try rfl
  unfold Oper.wp execOp
  simp [ho, hx, hy, hr, Result.andThen, Oper.upon, eqGuard]
  exact h
theorem op_eql (x y : Operand) (ho : o.op = .binOp .eql 3 x y 3) (m n : Int) (hx : a.eval x = .int .i64 m) (hy : a.eval y = .int .i64 n) (h : K (a.put o.dst (.bool (m == n))) w) : o.wp Tryd.prog a w K Q := by
  have hu3 := Tryd.underlying3
  unfold Oper.wp execOp
  simp only [ho, hx, hy]
  go_simp
  exact h
theorem op_sub1 (x y : Operand) (ho : o.op = .binOp .sub 3 x y 3) (k : Nat) (hk : k < 9223372036854775807) (hx : a.eval x = .int .i64 ((k : Int) + 1)) (hy : a.eval y = .int .i64 1) (h : K (a.put o.dst (.int .i64 k)) w) : o.wp Tryd.prog a w K Q := by
  have hw : IntKind.i64.wrap (k : Int) = (k : Int) := by rw [IntKind.wrap_i64]; omega
  have e1 : (k : Int) + 1 - 1 = k := by omega
  have hr : (binOp .sub 3 (.int .i64 ((k : Int) + 1)) (.int .i64 1)).run Tryd.prog w = .ok (.int .i64 k) w := by go_simp
  unfold Oper.wp execOp
  simp [ho, hx, hy, hr, Result.andThen, Oper.upon, eqGuard]
  first | exact h | (go_simp; exact h)
theorem op_slice (s i : Operand) (ho : o.op = .slice 22 s none (some i) none) (A : Option Addr) (n c k : Nat) (hs : a.eval s = .slice A n c) (hi : a.eval i = .int .i64 k) (h1 : k ≤ c) (h : K (a.put o.dst (.slice A k c)) w) : o.wp Tryd.prog a w K Q := by
  have hu22 := Tryd.underlying22
  have hb : (0 : Int) ≤ (k : Int) := by omega
  have hb1 : (k : Int) ≤ (c : Int) := by omega
  have hr : (Instr.sliceAt 22 (.slice A n c) none (some (.int .i64 k)) none).run Tryd.prog w = .ok (.slice A k c) w := by cases A <;> go_simp
  unfold Oper.wp execOp
  simp [ho, hs, hi, hr, Result.andThen, Oper.upon]
  exact h
end
theorem getD_bool {t : Array Value} {d : Tmp} {b : Bool} (h : t.getD d undef = .bool b) : t[d]? = some (.bool b) := by
  rw [Array.getD_eq_getD_getElem?] at h
  cases hq : t[d]? with
  | none => rw [hq] at h; cases h
  | some v => rw [hq] at h; exact congrArg some h
theorem wpOp_yes {ops : Array Oper} {i g : Nat} {o og : Oper} {b : Bool} {d : Tmp} {a : Act} {K : Act → World → Prop} {Q : Exit → Act → World → Prop} {w : World} (hi : ops[i]? = some o) (hg : o.guard = some (g, b)) (hog : ops[g]? = some og) (hd : og.dst = some d) (hv : a.tmps.getD d undef = .bool b) (h : o.wp Tryd.prog a w K Q) : wpOp Tryd.prog ops Q i K a w := by
  unfold wpOp
  rw [hi]
  have hw : Region.wanted o (yielded ops a.tmps) = true := by
    unfold Region.wanted yielded
    rw [hg]
    simp [hog, hd, getD_bool hv]
  simp only [hw, if_true]
  exact .inl h
theorem wpOp_no {ops : Array Oper} {i g : Nat} {o og : Oper} {b c : Bool} {d : Tmp} {a : Act} {K : Act → World → Prop} {Q : Exit → Act → World → Prop} {w : World} (hi : ops[i]? = some o) (hg : o.guard = some (g, b)) (hog : ops[g]? = some og) (hd : og.dst = some d) (hv : a.tmps.getD d undef = .bool c) (hc : b ≠ c) (h : K (a.put o.dst undef) w) : wpOp Tryd.prog ops Q i K a w := by
  unfold wpOp
  rw [hi]
  have hw : Region.wanted o (yielded ops a.tmps) = false := by
    unfold Region.wanted yielded
    rw [hg]
    simp [hog, hd, getD_bool hv]
    exact fun e => hc e.symm
  simp only [hw]
  exact h
end Go.Proofs.YtioekkdodggakaaDoor.G
-- HMerges2
/-
  bournelaw25.SeriesMerges, walked: lists within the bounds.
-/
namespace Go.Proofs.YtioekkdodggakaaDoor.G
open Go.RowKit Go.Proofs.YtioekkdodggakaaDoorW.PrintWords Go.Proofs.YtioekkdodggakaaDoorW.PrintLast Go.Proofs.YtioekkdodggakaaDoorW.PrintMore
set_option linter.unusedVariables false
set_option linter.unusedSimpArgs false
theorem asc_at {r : List S29} (h : r.Pairwise ltG) (i j : Nat) (hij : i < j) (hj : j < r.length) : ltG (rd_T29 r (i : Int)) (rd_T29 r (j : Int)) := by
  rw [rd_get r i (by omega), rd_get r j hj]
  exact List.pairwise_iff_getElem.1 h i j (by omega) hj hij
theorem asc_take {r : List S29} (h : r.Pairwise ltG) (j : Nat) (hj : j < r.length) : ¬ rd_T29 r (j : Int) ∈ r.take j := by
  rw [rd_get r j hj]
  intro hm
  obtain ⟨i, hi, e⟩ := List.mem_iff_getElem.1 hm
  have h1 : i < j := by rw [List.length_take] at hi; omega
  rw [List.getElem_take] at e
  have h2 := List.pairwise_iff_getElem.1 h i j (by omega) hj h1
  rw [e] at h2
  exact ltG_irr _ h2

theorem two_args {a b c d : Value} (h1 : a = c) (h2 : b = d) : #[a, b] = #[c, d] := by rw [h1, h2]
/-- What the operations of region 15 yield. -/
def V15 (vx vy vr : Value) (ad : Addr) (cd j : Nat) (t : S29) (x0 x1 : Int) (inX : Bool) : Nat → Value → Prop
  | 0, v => v = vx
  | 1, v => v = vr
  | 2, v => v = .int .i64 (j : Nat)
  | 3, v => v = .pointer (some (ad.add (j * 5)))
  | 4, v => v = encA t
  | 5, v => v = .bool inX
  | 6, v => v = .bool (!inX)
  | 7, v => v = .bool (!inX)
  | 8, v => inX = false → v = vy
  | 9, v => inX = false → v = vr
  | 10, v => inX = false → v = .int .i64 (j : Nat)
  | 11, v => inX = false → v = .pointer (some (ad.add (j * 5)))
  | 12, v => inX = false → v = encA t
  | 13, v => inX = false → v = .bool true
  | 14, v => inX = false → v = .bool false
  | 15, v => v = .bool false
  | 16, v => v = .bool false
  | 17, v => v = vr
  | 18, v => v = .int .i64 (j : Nat)
  | 19, v => v = .slice (some ad) j cd
  | 20, v => v = vr
  | 21, v => v = .int .i64 (j : Nat)
  | 22, v => v = .pointer (some (ad.add (j * 5)))
  | 23, v => v = encA t
  | 24, v => v = .bool false
  | 25, v => v = .bool false
  | 26, v => v = .bool false
  | 27, v => v = .int .i64 (j : Nat)
  | 28, v => v = .bool (decide (0 < (j : Int)))
  | 29, v => v = .bool (decide (0 < (j : Int)))
  | 30, v => 0 < j → v = vr
  | 31, v => 0 < j → v = .int .i64 (j : Nat)
  | 32, v => 0 < j → v = .int .i64 ((j - 1 : Nat) : Nat)
  | 33, v => 0 < j → v = .pointer (some (ad.add ((j - 1) * 5)))
  | 34, v => 0 < j → v = .pointer (some (ad.add ((j - 1) * 5)))
  | 35, v => 0 < j → v = .int .i64 x0
  | 36, v => 0 < j → v = vr
  | 37, v => 0 < j → v = .int .i64 (j : Nat)
  | 38, v => 0 < j → v = .pointer (some (ad.add (j * 5)))
  | 39, v => 0 < j → v = .pointer (some (ad.add (j * 5)))
  | 40, v => 0 < j → v = .int .i64 t.f0
  | 41, v => 0 < j → v = .bool false
  | 42, v => v = .bool false
  | 43, v => v = .bool false
  | 44, v => v = .bool false
  | 45, v => v = .int .i64 (j : Nat)
  | 46, v => v = .bool (decide (0 < (j : Int)))
  | 47, v => v = .bool (decide (0 < (j : Int)))
  | 48, v => 0 < j → v = vr
  | 49, v => 0 < j → v = .int .i64 (j : Nat)
  | 50, v => 0 < j → v = .int .i64 ((j - 1 : Nat) : Nat)
  | 51, v => 0 < j → v = .pointer (some (ad.add ((j - 1) * 5)))
  | 52, v => 0 < j → v = .pointer (some (ad.add ((j - 1) * 5)))
  | 53, v => 0 < j → v = .int .i64 x0
  | 54, v => 0 < j → v = vr
  | 55, v => 0 < j → v = .int .i64 (j : Nat)
  | 56, v => 0 < j → v = .pointer (some (ad.add (j * 5)))
  | 57, v => 0 < j → v = .pointer (some (ad.add (j * 5)))
  | 58, v => 0 < j → v = .int .i64 t.f0
  | 59, v => 0 < j → v = .bool (x0 == t.f0)
  | 60, v => v = .bool (decide (0 < (j : Int)) && (x0 == t.f0))
  | 61, v => v = .bool (decide (0 < (j : Int)) && (x0 == t.f0))
  | 62, v => (0 < j ∧ x0 = t.f0) → v = vr
  | 63, v => (0 < j ∧ x0 = t.f0) → v = .int .i64 (j : Nat)
  | 64, v => (0 < j ∧ x0 = t.f0) → v = .int .i64 ((j - 1 : Nat) : Nat)
  | 65, v => (0 < j ∧ x0 = t.f0) → v = .pointer (some (ad.add ((j - 1) * 5)))
  | 66, v => (0 < j ∧ x0 = t.f0) → v = .pointer (some ⟨(ad.add ((j - 1) * 5)).block, (ad.add ((j - 1) * 5)).off + 1, none⟩)
  | 67, v => (0 < j ∧ x0 = t.f0) → v = .int .i64 x1
  | 68, v => (0 < j ∧ x0 = t.f0) → v = vr
  | 69, v => (0 < j ∧ x0 = t.f0) → v = .int .i64 (j : Nat)
  | 70, v => (0 < j ∧ x0 = t.f0) → v = .pointer (some (ad.add (j * 5)))
  | 71, v => (0 < j ∧ x0 = t.f0) → v = .pointer (some ⟨(ad.add (j * 5)).block, (ad.add (j * 5)).off + 1, none⟩)
  | 72, v => (0 < j ∧ x0 = t.f0) → v = .int .i64 t.f1
  | 73, v => (0 < j ∧ x0 = t.f0) → v = .bool false
  | 74, v => v = .bool false
  | 75, v => v = .bool false
  | _, _ => True
def V15w (vx vy vr : Value) (ad : Addr) (cd j : Nat) (t : S29) (x0 x1 : Int) (inX : Bool) (i : Nat) (v : Value) (_ : World) : Prop := V15 vx vy vr ad cd j t x0 x1 inX i v

set_option maxHeartbeats 16000000 in
set_option maxRecDepth 100000 in
theorem Merges_in (A B C : Option Addr) (ca cb cc : Nat) (x y z : List S29) (g : Int) (w : World) (hgl : Gl w) (hx : Kd.C k29 w A x.length x) (hy : Kd.C k29 w B y.length y) (hz : Kd.C k29 w C z.length z) (hcx : x.length ≤ ca) (hcy : y.length ≤ cb) (hcz : z.length ≤ cc) (hnx : A = none → ca = 0) (hny : B = none → cb = 0) (hnz : C = none → cc = 0) (hwx : ∀ t ∈ x, IsI t.f0 ∧ IsI t.f1) (hwy : ∀ t ∈ y, IsI t.f0 ∧ IsI t.f1) (hg : IsI g) (hfx : fewB x = true) (hfy : fewB y = true) (hfz : fewB z = true) :
    Calls Tryd.prog 3 #[.slice A x.length ca, .slice B y.length cb, .slice C z.length cc, .int .i64 g] w fun e w' => e = .returned (.bool true) ∧ Below w.heap.size w w' := by
  have hu29 := Tryd.underlying29
  have hu22 := Tryd.underlying22
  have hlx := fewB_len hfx
  have hly := fewB_len hfy
  have hlz := fewB_len hfz
  have HX := Aside0.mk hx
  have HY := Aside0.mk hy
  have HZ := Aside0.mk hz
  have HFX := Aside0.mk (few_eq x (by omega) (x.length + 1) (by omega))
  have HFY := Aside0.mk (few_eq y (by omega) (y.length + 1) (by omega))
  have HFZ := Aside0.mk (few_eq z (by omega) (z.length + 1) (by omega))
  rw [hfx] at HFX
  rw [hfy] at HFY
  rw [hfz] at HFZ
  have HS := Aside0.mk (small_calls w hgl)
  have HWX := Aside0.mk hwx
  have HWY := Aside0.mk hwy
  have HIG := Aside0.mk hg
  have HNX := Aside0.mk hnx
  have HNY := Aside0.mk hny
  have HNZ := Aside0.mk hnz
  have HLX := Aside0.mk hlx
  have HLY := Aside0.mk hly
  have HLZ := Aside0.mk hlz
  obtain ⟨r, hr⟩ := merge_ex (x ++ y)
  obtain ⟨s, hs⟩ := merge_ex (y ++ z)
  obtain ⟨u, hu⟩ := merge_ex (r ++ z)
  have HR := Aside0.mk hr
  have HSS := Aside0.mk hs
  have HU := Aside0.mk hu
  clear hx hy hz hgl hwx hwy hg hnx hny hnz hr hs hu hlx hly hlz hfx hfy hfz
  go_enter Tryd.func3, Tryd.ntmps3
  go_wp2_with fail
  refine HS.out.mono ?_
  rintro e w1 ⟨rfl, hb1⟩
  have HB1 := Aside0.mk hb1
  clear hb1
  go_wp2_with fail
  refine (bournelaw25_few.calls (x.length + 1) A ca x true _ (Kd.C_below HX.out HB1.out) hcx HFX.out).mono ?_
  rintro e w2 ⟨rfl, hd2⟩
  have HB2 := Aside0.mk (HB1.out.trans (hd2.below.mono HB1.out.size))
  clear hd2 HB1
  go_wp2_with fail
  refine (bournelaw25_few.calls (y.length + 1) B cb y true _ (Kd.C_below HY.out HB2.out) hcy HFY.out).mono ?_
  rintro e w3 ⟨rfl, hd3⟩
  have HB3 := Aside0.mk (HB2.out.trans (hd3.below.mono HB2.out.size))
  clear hd3 HB2
  go_wp2_with fail
  refine (bournelaw25_few.calls (z.length + 1) C cc z true _ (Kd.C_below HZ.out HB3.out) hcz HFZ.out).mono ?_
  rintro e w4 ⟨rfl, hd4⟩
  have HB4 := Aside0.mk (HB3.out.trans (hd4.below.mono HB3.out.size))
  clear hd4 HB3
  go_wp2_with fail
  refine (Merge_is A B ca cb x y r _ (Kd.C_below HX.out HB4.out) (Kd.C_below HY.out HB4.out) hcx hcy HNX.out HNY.out (by have := HLX.out; omega) (by have := HLY.out; omega) (fun t => (HR.out.2 t).trans List.mem_append) HR.out.1).mono ?_
  rintro e w5 ⟨D, cd, rfl, hcd, hnd, hlr, hkr, hb5⟩
  have HLR := Aside0.mk (show r.length ≤ 120 by have := HLX.out; have := HLY.out; omega)
  have HB5 := Aside0.mk (HB4.out.trans (hb5.mono HB4.out.size))
  have HKR := Aside0.mk hkr
  have HND := Aside0.mk hnd
  have HX5 := Aside0.mk (Kd.C_below HX.out HB5.out)
  have HY5 := Aside0.mk (Kd.C_below HY.out HB5.out)
  have HZ5 := Aside0.mk (Kd.C_below HZ.out HB5.out)
  have H5 := Aside0.mk (Below.refl w5.heap.size w5)
  clear hb5 hkr hnd hlr HB4 HX HY HZ HFX HFY HFZ HS
  -- the merge the other way round
  go_wp2_with fail
  refine (Merge_is B A cb ca y x r _ HY5.out HX5.out hcy hcx HNY.out HNX.out (by have := HLY.out; omega) (by have := HLX.out; omega) (fun t => ((HR.out.2 t).trans List.mem_append).trans Or.comm) HR.out.1).mono ?_
  rintro e w6 ⟨D6, c6, rfl, hc6, _, _, hk6, hb6⟩
  have HK6 := Aside0.mk hk6
  have H6 := Aside0.mk hb6
  clear hk6 hb6 H5
  go_wp2_with fail
  refine (bourneref25_Same.calls (r.length + 1) D cd r D6 c6 r true _ (Kd.C_below HKR.out H6.out) hcd HK6.out hc6 (same_eq r (by have := HLR.out; omega) _ (by omega))).mono ?_
  rintro e w7 ⟨rfl, hb7⟩
  have H7 := Aside0.mk (H6.out.trans (hb7.below.mono H6.out.size))
  clear hb7 H6 HK6
  -- the merge with a third one
  go_wp2_with fail
  refine (Merge_is D C cd cc r z u _ (Kd.C_below HKR.out H7.out) (Kd.C_below HZ5.out H7.out) hcd hcz HND.out HNZ.out (by have := HLR.out; omega) (by have := HLZ.out; omega) (fun t => (HU.out.2 t).trans List.mem_append) HU.out.1).mono ?_
  rintro e w8 ⟨D8, c8, rfl, hc8, _, hlu, hk8, hb8⟩
  have HLU := Aside0.mk (show u.length ≤ 180 by have := HLR.out; have := HLZ.out; omega)
  have HK8 := Aside0.mk hk8
  have H78 := Aside0.mk (H7.out.trans (hb8.mono H7.out.size))
  clear hk8 hb8 H7 hlu
  go_wp2_with fail
  refine (Merge_is B C cb cc y z s _ (Kd.C_below HY5.out H78.out) (Kd.C_below HZ5.out H78.out) hcy hcz HNY.out HNZ.out (by have := HLY.out; omega) (by have := HLZ.out; omega) (fun t => (HSS.out.2 t).trans List.mem_append) HSS.out.1).mono ?_
  rintro e w9 ⟨D9, c9, rfl, hc9, hn9, hls, hk9, hb9⟩
  have HLS := Aside0.mk (show s.length ≤ 120 by have := HLY.out; have := HLZ.out; omega)
  have HN9 := Aside0.mk hn9
  have HK9 := Aside0.mk hk9
  have HK89 := Aside0.mk (Kd.C_below HK8.out hb9)
  have H9 := Aside0.mk (H78.out.trans (hb9.mono H78.out.size))
  clear hk9 hb9 H78 hls hn9 HK8
  go_wp2_with fail
  refine (Merge_is A D9 ca c9 x s u _ (Kd.C_below HX5.out H9.out) HK9.out hcx hc9 HNX.out HN9.out (by have := HLX.out; omega) (by have := HLS.out; omega) (fun t => by rw [(HU.out.2 t).trans List.mem_append, (HR.out.2 t).trans List.mem_append, (HSS.out.2 t).trans List.mem_append, or_assoc]) HU.out.1).mono ?_
  rintro e w10 ⟨D10, c10, rfl, hc10, _, _, hk10, hb10⟩
  have HK10 := Aside0.mk hk10
  have HK8' := Aside0.mk (Kd.C_below HK89.out hb10)
  have H10 := Aside0.mk (H9.out.trans (hb10.mono H9.out.size))
  clear hk10 hb10 H9 HK9 HK89 HN9
  go_wp2_with fail
  refine (bourneref25_Same.calls (u.length + 1) D8 c8 u D10 c10 u true _ HK8'.out hc8 HK10.out hc10 (same_eq u (by have := HLU.out; omega) _ (by omega))).mono ?_
  rintro e w11 ⟨rfl, hb11⟩
  have H11 := Aside0.mk (H10.out.trans (hb11.below.mono H10.out.size))
  clear hb11 H10 HK8' HK10
  -- the merge with itself, with nothing and with a part
  go_wp2_with fail
  refine (Merge_is D D cd cd r r r _ (Kd.C_below HKR.out H11.out) (Kd.C_below HKR.out H11.out) hcd hcd HND.out HND.out (by have := HLR.out; omega) (by have := HLR.out; omega) (fun t => (or_self _).to_iff.symm) HR.out.1).mono ?_
  rintro e w12 ⟨D12, c12, rfl, hc12, _, _, hk12, hb12⟩
  have HK12 := Aside0.mk hk12
  have H12 := Aside0.mk (H11.out.trans (hb12.mono H11.out.size))
  clear hk12 hb12 H11
  go_wp2_with fail
  refine (bourneref25_Same.calls (r.length + 1) D12 c12 r D cd r true _ HK12.out hc12 (Kd.C_below HKR.out H12.out) hcd (same_eq r (by have := HLR.out; omega) _ (by omega))).mono ?_
  rintro e w13 ⟨rfl, hb13⟩
  have H13 := Aside0.mk (H12.out.trans (hb13.below.mono H12.out.size))
  clear hb13 H12 HK12
  go_wp2_with fail
  refine (Merge_is D none cd 0 r [] r _ (Kd.C_below HKR.out H13.out) (reads_k29 ((Row.nil encG 29 5 _ 0).reads encG_len |>.elim fun A h => by obtain ⟨c, e, _, _, h⟩ := h; injection e with e1 e2 e3; subst e1; exact h)) hcd (by simp) HND.out (fun _ => rfl) (by have := HLR.out; omega) (by simp) (fun t => by simp) HR.out.1).mono ?_
  rintro e w14 ⟨D14, c14, rfl, hc14, _, _, hk14, hb14⟩
  have HK14 := Aside0.mk hk14
  have H14 := Aside0.mk (H13.out.trans (hb14.mono H13.out.size))
  clear hk14 hb14 H13
  go_wp2_with fail
  refine (bourneref25_Same.calls (r.length + 1) D14 c14 r D cd r true _ HK14.out hc14 (Kd.C_below HKR.out H14.out) hcd (same_eq r (by have := HLR.out; omega) _ (by omega))).mono ?_
  rintro e w15 ⟨rfl, hb15⟩
  have H15 := Aside0.mk (H14.out.trans (hb15.below.mono H14.out.size))
  clear hb15 H14 HK14
  go_wp2_with fail
  refine (Merge_is D A cd ca r x r _ (Kd.C_below HKR.out H15.out) (Kd.C_below HX5.out H15.out) hcd hcx HND.out HNX.out (by have := HLR.out; omega) (by have := HLX.out; omega) (fun t => ⟨.inl, fun h => h.elim id (fun h => (HR.out.2 t).2 (List.mem_append_left _ h))⟩) HR.out.1).mono ?_
  rintro e w16 ⟨D16, c16, rfl, hc16, _, _, hk16, hb16⟩
  have HK16 := Aside0.mk hk16
  have H16 := Aside0.mk (H15.out.trans (hb16.mono H15.out.size))
  clear hk16 hb16 H15
  go_wp2_with fail
  refine (bourneref25_Same.calls (r.length + 1) D16 c16 r D cd r true _ HK16.out hc16 (Kd.C_below HKR.out H16.out) hcd (same_eq r (by have := HLR.out; omega) _ (by omega))).mono ?_
  rintro e w17 ⟨rfl, hb17⟩
  have H17 := Aside0.mk (H16.out.trans (hb17.below.mono H16.out.size))
  clear hb17 H16 HK16
  have hrx : ∀ t ∈ x, t ∈ r := fun t ht => (HR.out.2 t).2 (List.mem_append_left _ ht)
  have hry : ∀ t ∈ r, t ∈ x ∨ t ∈ y := fun t ht => List.mem_append.1 ((HR.out.2 t).1 ht)
  have HRX := Aside0.mk hrx
  have HRY := Aside0.mk hry
  clear hrx hry HSS HU HLS HLU
  go_wp2
  have hX60 := HLX.out
  have hR120 := HLR.out
  go_loopg [13] x.length (fun kx s13 wr => ∃ j : Nat, j + kx = x.length ∧ s13 = .int .i64 j ∧ Aside0 (Below w5.heap.size w5 wr))
  case atStart => exact ⟨0, by omega, rfl, H17⟩
  case round =>
    clear H17
    obtain ⟨j, hj, rfl, H⟩ := hrel
    by_cases hlt : j < x.length
    · have hltz : (j : Int) < (x.length : Int) := by omega
      obtain ⟨ad, rfl, g0, g1, g2, g3, g4⟩ := at_T29 HX5.out j (by omega) (by omega)
      rw [Int.toNat_natCast] at g0 g1 g2 g3 g4
      replace g0 := (H.out.cell (World.block_lt_of_cell? w5 _ g0)).trans g0
      replace g1 := (H.out.cell (World.block_lt_of_cell? w5 _ g1)).trans g1
      replace g2 := (H.out.cell (World.block_lt_of_cell? w5 _ g2)).trans g2
      replace g3 := (H.out.cell (World.block_lt_of_cell? w5 _ g3)).trans g3
      replace g4 := (H.out.cell (World.block_lt_of_cell? w5 _ g4)).trans g4
      have HH := Aside0.mk (has_eq r (by omega) (rd_T29 x j) (r.length + 1) (by omega))
      rw [decide_eq_true (HRX.out _ (take_rd_T29 x j hlt).2)] at HH
      generalize rd_T29 x (j : Int) = t at g0 g1 g2 g3 g4 HH
      go_wp2_with fail
      refine (bournelaw25_has.calls (r.length + 1) D cd r t.f0 t.f1 t.f2 t.f3 t.f4 true _ (Kd.C_below HKR.out H.out) hcd HH.out).mono ?_
      rintro e w18 ⟨rfl, hb18⟩
      have H18 := Aside0.mk (H.out.trans (hb18.mono H.out.size))
      clear hb18 g0 g1 g2 g3 g4 HH
      go_wp2
      go_roundg (x.length - (j + 1))
      case measure => omega
      case rel => exact ⟨j + 1, by omega, by simp, H18⟩
    · have hltz : ¬ (j : Int) < (x.length : Int) := by omega
      clear hlt hj
      go_wp2
      clear hltz
      go_loopg [14] r.length (fun kx s14 wr => ∃ j : Nat, j + kx = r.length ∧ s14 = .int .i64 j ∧ Aside0 (Below w5.heap.size w5 wr))
      case atStart => exact ⟨0, by omega, rfl, H⟩
      case round =>
        clear H
        obtain ⟨j, hj, rfl, H⟩ := hrel
        by_cases hlt : j < r.length
        · have hltz : (j : Int) < (r.length : Int) := by omega
          obtain ⟨ad, rfl, g0, g1, g2, g3, g4⟩ := at_T29 HKR.out j (by omega) (by omega)
          rw [Int.toNat_natCast] at g0 g1 g2 g3 g4
          have HHX := Aside0.mk (has_eq x (by omega) (rd_T29 r j) (x.length + 1) (by omega))
          have HHY := Aside0.mk (has_eq y (by have := HLY.out; omega) (rd_T29 r j) (y.length + 1) (by omega))
          have HHT := Aside0.mk (has_eq (r.take j) (by rw [List.length_take]; omega) (rd_T29 r j) (r.length + 1) (by rw [List.length_take]; omega))
          rw [decide_eq_false (asc_take HR.out.1 j hlt)] at HHT
          have HXY := Aside0.mk (HRY.out _ (take_rd_T29 r j hlt).2)
          have HAS : Aside0 (∀ i : Nat, i < j → ltG (rd_T29 r (i : Int)) (rd_T29 r j)) := ⟨fun i hi => asc_at HR.out.1 i j hi hlt⟩
          generalize rd_T29 r (j : Int) = t at g0 g1 g2 g3 g4 HHX HHY HHT HXY HAS
          have G0 := Aside0.mk g0
          have G1 := Aside0.mk g1
          have G2 := Aside0.mk g2
          have G3 := Aside0.mk g3
          have G4 := Aside0.mk g4
          clear g0 g1 g2 g3 g4
          have HKT := Aside0.mk (Kd.C_take HKR.out (Nat.le_of_lt hlt))
          have elt : (r.take j).length = j := by rw [List.length_take]; omega
          rw [elt] at HKT
          have hjc : j ≤ cd := by omega
          have hHT := fun W (hW : Kd.C k29 W (some ad) j (r.take j)) => bournelaw25_has.calls (r.length + 1) (some ad) cd (r.take j) t.f0 t.f1 t.f2 t.f3 t.f4 false W (by rw [elt]; exact hW) (by rw [elt]; exact hjc) HHT.out
          rw [elt] at hHT
          have HHH := Aside0.mk hHT
          clear hHT HHT elt
          go_upto_region 15 with fail
          go_cut [161] (fun v wc => v = .bool false ∧ Aside0 (Below w5.heap.size w5 wc))
          case first =>
            obtain ⟨inX, hinX⟩ : ∃ b, b = decide (t ∈ x) := ⟨_, rfl⟩
            rw [← hinX] at HHX
            have HYT : Aside0 (inX = false → bournelaw25_has.f (y.length + 1) y t.f0 t.f1 t.f2 t.f3 t.f4 = some true) := ⟨fun e => by
              have hn : ¬ t ∈ x := of_decide_eq_false (hinX.symm.trans e)
              have hy' : t ∈ y := HXY.out.resolve_left hn
              exact HHY.out.trans (by rw [decide_eq_true hy'])⟩
            obtain ⟨x0, hx0⟩ : ∃ x0, x0 = (rd_T29 r ((j - 1 : Nat) : Int)).f0 := ⟨_, rfl⟩
            obtain ⟨x1, hx1⟩ : ∃ x1, x1 = (rd_T29 r ((j - 1 : Nat) : Int)).f1 := ⟨_, rfl⟩
            have HPV : Aside0 (0 < j → w5.cell? (ad.add ((j - 1) * 5)) = some (.int .i64 x0) ∧ w5.cell? ⟨(ad.add ((j - 1) * 5)).block, (ad.add ((j - 1) * 5)).off + 1, none⟩ = some (.int .i64 x1)) := ⟨fun hj0 => by
              obtain ⟨ad2, had, q0, q1, _, _, _⟩ := at_T29 HKR.out ((j - 1 : Nat) : Int) (by omega) (by omega)
              cases had
              rw [Int.toNat_natCast] at q0 q1
              rw [hx0, hx1]
              exact ⟨q0, q1⟩⟩
            have hasc : 0 < j → x0 < t.f0 ∨ x0 = t.f0 ∧ x1 ≤ t.f1 := fun hj0 => by
              have h := HAS.out (j - 1) (by omega)
              unfold ltG at h
              rw [← hx0, ← hx1] at h
              rcases h with h | ⟨h, h' | h'⟩
              · exact .inl h
              · exact .inr ⟨h, by omega⟩
              · exact .inr ⟨h, by omega⟩
            have hgt0 : 0 < j → decide (t.f0 < x0) = false := fun hj0 => decide_eq_false (by rcases hasc hj0 with h | h <;> omega)
            have hgt1 : 0 < j → x0 = t.f0 → decide (t.f1 < x1) = false := fun hj0 e => decide_eq_false (by rcases hasc hj0 with h | h <;> omega)
            have hand : ¬ (0 < j ∧ x0 = t.f0) → (decide (0 < (j : Int)) && (x0 == t.f0)) = false := fun h => by
              by_cases hj0 : 0 < j
              · have : x0 ≠ t.f0 := fun e => h ⟨hj0, e⟩
                rw [beq_false_of_ne this, Bool.and_false]
              · rw [decide_eq_false (show ¬ 0 < (j : Int) by omega), Bool.false_and]
            clear hinX hx0 hx1 hasc HHY HXY HAS
            refine region_inv (C := fun W => Below wr.heap.size wr W) (E := EB) (V := V15w (.slice A x.length ca) (.slice B y.length cb) (.slice (some ad) r.length cd) ad cd j t x0 x1 inX) (by kernel_rfl) (fun _ _ _ _ _ h => h) (dst_of (by kernel_rfl)) (in_of (by kernel_rfl)) (ord_of (by kernel_rfl)) (below_drew1 (Below.refl _ _)) (steps_of ?_) ?_
            · intro i hi aa wq K hC hst hdep hK
              have hi' : i < 76 := hi
              have hC5 : Below w5.heap.size w5 wq := H.out.trans (hC.mono H.out.size)
              have hcell : ∀ {a : Addr} {v : Value}, w5.cell? a = some v → wq.cell? a = some v := fun {a v} h => (hC5.cell (World.block_lt_of_cell? w5 _ h)).trans h
              rcases (show i = 0 ∨ i = 1 ∨ i = 2 ∨ i = 3 ∨ i = 4 ∨ i = 5 ∨ i = 6 ∨ i = 7 ∨ i = 8 ∨ i = 9 ∨ i = 10 ∨ i = 11 ∨ i = 12 ∨ i = 13 ∨ i = 14 ∨ i = 15 ∨ i = 16 ∨ i = 17 ∨ i = 18 ∨ i = 19 ∨ i = 20 ∨ i = 21 ∨ i = 22 ∨ i = 23 ∨ i = 24 ∨ i = 25 ∨ i = 26 ∨ i = 27 ∨ i = 28 ∨ i = 29 ∨ i = 30 ∨ i = 31 ∨ i = 32 ∨ i = 33 ∨ i = 34 ∨ i = 35 ∨ i = 36 ∨ i = 37 ∨ i = 38 ∨ i = 39 ∨ i = 40 ∨ i = 41 ∨ i = 42 ∨ i = 43 ∨ i = 44 ∨ i = 45 ∨ i = 46 ∨ i = 47 ∨ i = 48 ∨ i = 49 ∨ i = 50 ∨ i = 51 ∨ i = 52 ∨ i = 53 ∨ i = 54 ∨ i = 55 ∨ i = 56 ∨ i = 57 ∨ i = 58 ∨ i = 59 ∨ i = 60 ∨ i = 61 ∨ i = 62 ∨ i = 63 ∨ i = 64 ∨ i = 65 ∨ i = 66 ∨ i = 67 ∨ i = 68 ∨ i = 69 ∨ i = 70 ∨ i = 71 ∨ i = 72 ∨ i = 73 ∨ i = 74 ∨ i = 75 by omega) with rfl | rfl | rfl | rfl | rfl | rfl | rfl | rfl | rfl | rfl | rfl | rfl | rfl | rfl | rfl | rfl | rfl | rfl | rfl | rfl | rfl | rfl | rfl | rfl | rfl | rfl | rfl | rfl | rfl | rfl | rfl | rfl | rfl | rfl | rfl | rfl | rfl | rfl | rfl | rfl | rfl | rfl | rfl | rfl | rfl | rfl | rfl | rfl | rfl | rfl | rfl | rfl | rfl | rfl | rfl | rfl | rfl | rfl | rfl | rfl | rfl | rfl | rfl | rfl | rfl | rfl | rfl | rfl | rfl | rfl | rfl | rfl | rfl | rfl | rfl | rfl
              · -- 0
                refine wpOp_of (Array.getElem?_eq_getElem hi) rfl (op_move (.tmp 0) rfl _ ((hst 0 (off_of (by kernel_rfl))).trans rfl) ?_)
                exact hK _ _ (Below.refl _ _) hC (rfl)
              · -- 1
                refine wpOp_of (Array.getElem?_eq_getElem hi) rfl (op_move (.tmp 10) rfl _ ((hst 10 (off_of (by kernel_rfl))).trans rfl) ?_)
                exact hK _ _ (Below.refl _ _) hC (rfl)
              · -- 2
                refine wpOp_of (Array.getElem?_eq_getElem hi) rfl (op_move (.tmp 14) rfl _ ((hst 14 (off_of (by kernel_rfl))).trans rfl) ?_)
                exact hK _ _ (Below.refl _ _) hC (rfl)
              · -- 3
                have d0 : aa.tmps.getD 87 undef = Value.slice (some ad) r.length cd := hdep ⟨1, .data⟩ (by simp) rfl _ 87 rfl rfl
                have d1 : aa.tmps.getD 88 undef = .int .i64 (j : Nat) := hdep ⟨2, .data⟩ (by simp) rfl _ 88 rfl rfl
                refine wpOp_of (Array.getElem?_eq_getElem hi) rfl (op_index (.tmp 87) (.tmp 88) rfl ad r.length cd (j) d0 d1 (by omega) ?_)
                exact hK _ _ (Below.refl _ _) hC (rfl)
              · -- 4
                have d0 : aa.tmps.getD 89 undef = .pointer (some (ad.add (j * 5))) := hdep ⟨3, .data⟩ (by simp) rfl _ 89 rfl rfl
                refine wpOp_of (Array.getElem?_eq_getElem hi) rfl (op_load29 (.tmp 89) rfl (ad.add (j * 5)) t d0 (hcell G0.out) (hcell G1.out) (hcell G2.out) (hcell G3.out) (hcell G4.out) ?_)
                exact hK _ _ (Below.refl _ _) hC (rfl)
              · -- 5
                have d0 : aa.tmps.getD 86 undef = Value.slice A x.length ca := hdep ⟨0, .data⟩ (by simp) rfl _ 86 rfl rfl
                have d1 : aa.tmps.getD 90 undef = encA t := hdep ⟨4, .data⟩ (by simp) rfl _ 90 rfl rfl
                refine wpOp_of (Array.getElem?_eq_getElem hi) rfl (op_call 11 _ Tryd.func11 (by kernel_rfl) rfl _ _ rfl #[.slice A x.length ca, encA t] (by simp only [List.map_toArray, List.map_cons, List.map_nil]; exact two_args d0 d1) ?_)
                refine (bournelaw25_has.calls (x.length + 1) A ca x t.f0 t.f1 t.f2 t.f3 t.f4 inX _ (Kd.C_below HX5.out hC5) hcx HHX.out).mono ?_
                rintro e w' ⟨rfl, hb⟩
                exact ⟨_, rfl, hK _ _ hb (below_step hC hb) (rfl)⟩
              · -- 6
                have d0 : aa.tmps.getD 91 undef = .bool inX := hdep ⟨5, .data⟩ (by simp) rfl _ 91 rfl rfl
                refine wpOp_of (Array.getElem?_eq_getElem hi) rfl (op_not 4 (.tmp 91) rfl _ d0 ?_)
                exact hK _ _ (Below.refl _ _) hC (rfl)
              · -- 7
                have d0 : aa.tmps.getD 92 undef = .bool (!inX) := hdep ⟨6, .data⟩ (by simp) rfl _ 92 rfl rfl
                refine wpOp_of (Array.getElem?_eq_getElem hi) rfl (op_move (.tmp 92) rfl _ d0 ?_)
                exact hK _ _ (Below.refl _ _) hC (rfl)
              · -- 8
                have dg : aa.tmps.getD 93 undef = .bool (!inX) := hdep ⟨7, .guard⟩ (by simp) rfl _ 93 rfl rfl
                by_cases hc : inX = false
                · have hgv : aa.tmps.getD 93 undef = .bool true := dg.trans (by rw [hc]; rfl)
                  refine wpOp_yes (Array.getElem?_eq_getElem hi) rfl rfl rfl hgv (op_move (.tmp 1) rfl _ ((hst 1 (off_of (by kernel_rfl))).trans rfl) ?_)
                  exact hK _ _ (Below.refl _ _) hC (fun _ => rfl)
                · refine wpOp_no (c := false) (Array.getElem?_eq_getElem hi) rfl rfl rfl (dg.trans (by cases inX with | true => rfl | false => exact absurd rfl hc)) (by decide) ?_
                  exact hK _ _ (Below.refl _ _) hC (fun h => absurd h hc)
              · -- 9
                have dg : aa.tmps.getD 93 undef = .bool (!inX) := hdep ⟨7, .guard⟩ (by simp) rfl _ 93 rfl rfl
                by_cases hc : inX = false
                · have hgv : aa.tmps.getD 93 undef = .bool true := dg.trans (by rw [hc]; rfl)
                  refine wpOp_yes (Array.getElem?_eq_getElem hi) rfl rfl rfl hgv (op_move (.tmp 10) rfl _ ((hst 10 (off_of (by kernel_rfl))).trans rfl) ?_)
                  exact hK _ _ (Below.refl _ _) hC (fun _ => rfl)
                · refine wpOp_no (c := false) (Array.getElem?_eq_getElem hi) rfl rfl rfl (dg.trans (by cases inX with | true => rfl | false => exact absurd rfl hc)) (by decide) ?_
                  exact hK _ _ (Below.refl _ _) hC (fun h => absurd h hc)
              · -- 10
                have dg : aa.tmps.getD 93 undef = .bool (!inX) := hdep ⟨7, .guard⟩ (by simp) rfl _ 93 rfl rfl
                by_cases hc : inX = false
                · have hgv : aa.tmps.getD 93 undef = .bool true := dg.trans (by rw [hc]; rfl)
                  refine wpOp_yes (Array.getElem?_eq_getElem hi) rfl rfl rfl hgv (op_move (.tmp 14) rfl _ ((hst 14 (off_of (by kernel_rfl))).trans rfl) ?_)
                  exact hK _ _ (Below.refl _ _) hC (fun _ => rfl)
                · refine wpOp_no (c := false) (Array.getElem?_eq_getElem hi) rfl rfl rfl (dg.trans (by cases inX with | true => rfl | false => exact absurd rfl hc)) (by decide) ?_
                  exact hK _ _ (Below.refl _ _) hC (fun h => absurd h hc)
              · -- 11
                have dg : aa.tmps.getD 93 undef = .bool (!inX) := hdep ⟨7, .guard⟩ (by simp) rfl _ 93 rfl rfl
                have d0 : inX = false → aa.tmps.getD 95 undef = Value.slice (some ad) r.length cd := hdep ⟨9, .data⟩ (by simp) rfl _ 95 rfl rfl
                have d1 : inX = false → aa.tmps.getD 96 undef = .int .i64 (j : Nat) := hdep ⟨10, .data⟩ (by simp) rfl _ 96 rfl rfl
                by_cases hc : inX = false
                · have hgv : aa.tmps.getD 93 undef = .bool true := dg.trans (by rw [hc]; rfl)
                  refine wpOp_yes (Array.getElem?_eq_getElem hi) rfl rfl rfl hgv (op_index (.tmp 95) (.tmp 96) rfl ad r.length cd (j) (d0 hc) (d1 hc) (by omega) ?_)
                  exact hK _ _ (Below.refl _ _) hC (fun _ => rfl)
                · refine wpOp_no (c := false) (Array.getElem?_eq_getElem hi) rfl rfl rfl (dg.trans (by cases inX with | true => rfl | false => exact absurd rfl hc)) (by decide) ?_
                  exact hK _ _ (Below.refl _ _) hC (fun h => absurd h hc)
              · -- 12
                have dg : aa.tmps.getD 93 undef = .bool (!inX) := hdep ⟨7, .guard⟩ (by simp) rfl _ 93 rfl rfl
                have d0 : inX = false → aa.tmps.getD 97 undef = .pointer (some (ad.add (j * 5))) := hdep ⟨11, .data⟩ (by simp) rfl _ 97 rfl rfl
                by_cases hc : inX = false
                · have hgv : aa.tmps.getD 93 undef = .bool true := dg.trans (by rw [hc]; rfl)
                  refine wpOp_yes (Array.getElem?_eq_getElem hi) rfl rfl rfl hgv (op_load29 (.tmp 97) rfl (ad.add (j * 5)) t (d0 hc) (hcell G0.out) (hcell G1.out) (hcell G2.out) (hcell G3.out) (hcell G4.out) ?_)
                  exact hK _ _ (Below.refl _ _) hC (fun _ => rfl)
                · refine wpOp_no (c := false) (Array.getElem?_eq_getElem hi) rfl rfl rfl (dg.trans (by cases inX with | true => rfl | false => exact absurd rfl hc)) (by decide) ?_
                  exact hK _ _ (Below.refl _ _) hC (fun h => absurd h hc)
              · -- 13
                have dg : aa.tmps.getD 93 undef = .bool (!inX) := hdep ⟨7, .guard⟩ (by simp) rfl _ 93 rfl rfl
                have d0 : inX = false → aa.tmps.getD 94 undef = Value.slice B y.length cb := hdep ⟨8, .data⟩ (by simp) rfl _ 94 rfl rfl
                have d1 : inX = false → aa.tmps.getD 98 undef = encA t := hdep ⟨12, .data⟩ (by simp) rfl _ 98 rfl rfl
                by_cases hc : inX = false
                · have hgv : aa.tmps.getD 93 undef = .bool true := dg.trans (by rw [hc]; rfl)
                  refine wpOp_yes (Array.getElem?_eq_getElem hi) rfl rfl rfl hgv (op_call 11 _ Tryd.func11 (by kernel_rfl) rfl _ _ rfl #[.slice B y.length cb, encA t] (by simp only [List.map_toArray, List.map_cons, List.map_nil]; exact two_args (d0 hc) (d1 hc)) ?_)
                  refine (bournelaw25_has.calls (y.length + 1) B cb y t.f0 t.f1 t.f2 t.f3 t.f4 true _ (Kd.C_below HY5.out hC5) hcy (HYT.out hc)).mono ?_
                  rintro e w' ⟨rfl, hb⟩
                  exact ⟨_, rfl, hK _ _ hb (below_step hC hb) (fun _ => rfl)⟩
                · refine wpOp_no (c := false) (Array.getElem?_eq_getElem hi) rfl rfl rfl (dg.trans (by cases inX with | true => rfl | false => exact absurd rfl hc)) (by decide) ?_
                  exact hK _ _ (Below.refl _ _) hC (fun h => absurd h hc)
              · -- 14
                have dg : aa.tmps.getD 93 undef = .bool (!inX) := hdep ⟨7, .guard⟩ (by simp) rfl _ 93 rfl rfl
                have d0 : inX = false → aa.tmps.getD 99 undef = .bool true := hdep ⟨13, .data⟩ (by simp) rfl _ 99 rfl rfl
                by_cases hc : inX = false
                · have hgv : aa.tmps.getD 93 undef = .bool true := dg.trans (by rw [hc]; rfl)
                  refine wpOp_yes (Array.getElem?_eq_getElem hi) rfl rfl rfl hgv (op_not 4 (.tmp 99) rfl _ (d0 hc) ?_)
                  exact hK _ _ (Below.refl _ _) hC (fun _ => rfl)
                · refine wpOp_no (c := false) (Array.getElem?_eq_getElem hi) rfl rfl rfl (dg.trans (by cases inX with | true => rfl | false => exact absurd rfl hc)) (by decide) ?_
                  exact hK _ _ (Below.refl _ _) hC (fun h => absurd h hc)
              · -- 15
                have d0 : aa.tmps.getD 93 undef = .bool (!inX) := hdep ⟨7, .data⟩ (by simp) rfl _ 93 rfl rfl
                have d1 : inX = false → aa.tmps.getD 100 undef = .bool false := hdep ⟨14, .data⟩ (by simp) rfl _ 100 rfl rfl
                refine wpOp_of (Array.getElem?_eq_getElem hi) rfl (op_pick (.tmp 93) (.tmp 100) (.const (.bool false)) rfl (!inX) (.bool false) d0 ?_ ?_)
                · cases hin : inX with
                  | true => rfl
                  | false => exact d1 hin
                · exact hK _ _ (Below.refl _ _) hC (rfl)
              · -- 16
                have d0 : aa.tmps.getD 101 undef = .bool false := hdep ⟨15, .data⟩ (by simp) rfl _ 101 rfl rfl
                refine wpOp_of (Array.getElem?_eq_getElem hi) rfl (op_move (.tmp 101) rfl _ d0 ?_)
                exact hK _ _ (Below.refl _ _) hC (rfl)
              · -- 17
                have dg : aa.tmps.getD 102 undef = .bool false := hdep ⟨16, .guard⟩ (by simp) rfl _ 102 rfl rfl
                have hgv := dg
                refine wpOp_yes (Array.getElem?_eq_getElem hi) rfl rfl rfl hgv (op_move (.tmp 10) rfl _ ((hst 10 (off_of (by kernel_rfl))).trans rfl) ?_)
                exact hK _ _ (Below.refl _ _) hC (rfl)
              · -- 18
                have dg : aa.tmps.getD 102 undef = .bool false := hdep ⟨16, .guard⟩ (by simp) rfl _ 102 rfl rfl
                have hgv := dg
                refine wpOp_yes (Array.getElem?_eq_getElem hi) rfl rfl rfl hgv (op_move (.tmp 14) rfl _ ((hst 14 (off_of (by kernel_rfl))).trans rfl) ?_)
                exact hK _ _ (Below.refl _ _) hC (rfl)
              · -- 19
                have dg : aa.tmps.getD 102 undef = .bool false := hdep ⟨16, .guard⟩ (by simp) rfl _ 102 rfl rfl
                have d0 : aa.tmps.getD 103 undef = Value.slice (some ad) r.length cd := hdep ⟨17, .data⟩ (by simp) rfl _ 103 rfl rfl
                have d1 : aa.tmps.getD 104 undef = .int .i64 (j : Nat) := hdep ⟨18, .data⟩ (by simp) rfl _ 104 rfl rfl
                have hgv := dg
                refine wpOp_yes (Array.getElem?_eq_getElem hi) rfl rfl rfl hgv (op_slice (.tmp 103) (.tmp 104) rfl (some ad) r.length cd j d0 d1 hjc ?_)
                exact hK _ _ (Below.refl _ _) hC (rfl)
              · -- 20
                have dg : aa.tmps.getD 102 undef = .bool false := hdep ⟨16, .guard⟩ (by simp) rfl _ 102 rfl rfl
                have hgv := dg
                refine wpOp_yes (Array.getElem?_eq_getElem hi) rfl rfl rfl hgv (op_move (.tmp 10) rfl _ ((hst 10 (off_of (by kernel_rfl))).trans rfl) ?_)
                exact hK _ _ (Below.refl _ _) hC (rfl)
              · -- 21
                have dg : aa.tmps.getD 102 undef = .bool false := hdep ⟨16, .guard⟩ (by simp) rfl _ 102 rfl rfl
                have hgv := dg
                refine wpOp_yes (Array.getElem?_eq_getElem hi) rfl rfl rfl hgv (op_move (.tmp 14) rfl _ ((hst 14 (off_of (by kernel_rfl))).trans rfl) ?_)
                exact hK _ _ (Below.refl _ _) hC (rfl)
              · -- 22
                have dg : aa.tmps.getD 102 undef = .bool false := hdep ⟨16, .guard⟩ (by simp) rfl _ 102 rfl rfl
                have d0 : aa.tmps.getD 106 undef = Value.slice (some ad) r.length cd := hdep ⟨20, .data⟩ (by simp) rfl _ 106 rfl rfl
                have d1 : aa.tmps.getD 107 undef = .int .i64 (j : Nat) := hdep ⟨21, .data⟩ (by simp) rfl _ 107 rfl rfl
                have hgv := dg
                refine wpOp_yes (Array.getElem?_eq_getElem hi) rfl rfl rfl hgv (op_index (.tmp 106) (.tmp 107) rfl ad r.length cd (j) d0 d1 (by omega) ?_)
                exact hK _ _ (Below.refl _ _) hC (rfl)
              · -- 23
                have dg : aa.tmps.getD 102 undef = .bool false := hdep ⟨16, .guard⟩ (by simp) rfl _ 102 rfl rfl
                have d0 : aa.tmps.getD 108 undef = .pointer (some (ad.add (j * 5))) := hdep ⟨22, .data⟩ (by simp) rfl _ 108 rfl rfl
                have hgv := dg
                refine wpOp_yes (Array.getElem?_eq_getElem hi) rfl rfl rfl hgv (op_load29 (.tmp 108) rfl (ad.add (j * 5)) t d0 (hcell G0.out) (hcell G1.out) (hcell G2.out) (hcell G3.out) (hcell G4.out) ?_)
                exact hK _ _ (Below.refl _ _) hC (rfl)
              · -- 24
                have dg : aa.tmps.getD 102 undef = .bool false := hdep ⟨16, .guard⟩ (by simp) rfl _ 102 rfl rfl
                have d0 : aa.tmps.getD 105 undef = .slice (some ad) j cd := hdep ⟨19, .data⟩ (by simp) rfl _ 105 rfl rfl
                have d1 : aa.tmps.getD 109 undef = encA t := hdep ⟨23, .data⟩ (by simp) rfl _ 109 rfl rfl
                have hgv := dg
                refine wpOp_yes (Array.getElem?_eq_getElem hi) rfl rfl rfl hgv (op_call 11 _ Tryd.func11 (by kernel_rfl) rfl _ _ rfl #[.slice (some ad) j cd, encA t] (by simp only [List.map_toArray, List.map_cons, List.map_nil]; exact two_args d0 d1) ?_)
                refine (HHH.out _ (Kd.C_below HKT.out hC5)).mono ?_
                rintro e w' ⟨rfl, hb⟩
                exact ⟨_, rfl, hK _ _ hb (below_step hC hb) (rfl)⟩
              · -- 25
                have d0 : aa.tmps.getD 102 undef = .bool false := hdep ⟨16, .data⟩ (by simp) rfl _ 102 rfl rfl
                have d2 : aa.tmps.getD 110 undef = .bool false := hdep ⟨24, .data⟩ (by simp) rfl _ 110 rfl rfl
                refine wpOp_of (Array.getElem?_eq_getElem hi) rfl (op_pick (.tmp 102) (.const (.bool true)) (.tmp 110) rfl false (.bool false) d0 ?_ ?_)
                · exact d2
                · exact hK _ _ (Below.refl _ _) hC (rfl)
              · -- 26
                have d0 : aa.tmps.getD 111 undef = .bool false := hdep ⟨25, .data⟩ (by simp) rfl _ 111 rfl rfl
                refine wpOp_of (Array.getElem?_eq_getElem hi) rfl (op_move (.tmp 111) rfl _ d0 ?_)
                exact hK _ _ (Below.refl _ _) hC (rfl)
              · -- 27
                have dg : aa.tmps.getD 112 undef = .bool false := hdep ⟨26, .guard⟩ (by simp) rfl _ 112 rfl rfl
                have hgv := dg
                refine wpOp_yes (Array.getElem?_eq_getElem hi) rfl rfl rfl hgv (op_move (.tmp 14) rfl _ ((hst 14 (off_of (by kernel_rfl))).trans rfl) ?_)
                exact hK _ _ (Below.refl _ _) hC (rfl)
              · -- 28
                have dg : aa.tmps.getD 112 undef = .bool false := hdep ⟨26, .guard⟩ (by simp) rfl _ 112 rfl rfl
                have d0 : aa.tmps.getD 113 undef = .int .i64 (j : Nat) := hdep ⟨27, .data⟩ (by simp) rfl _ 113 rfl rfl
                have hgv := dg
                refine wpOp_yes (Array.getElem?_eq_getElem hi) rfl rfl rfl hgv (op_gtr (.tmp 113) (.const (.int .i64 0)) rfl _ 0 d0 rfl ?_)
                exact hK _ _ (Below.refl _ _) hC (rfl)
              · -- 29
                have dg : aa.tmps.getD 112 undef = .bool false := hdep ⟨26, .guard⟩ (by simp) rfl _ 112 rfl rfl
                have d0 : aa.tmps.getD 114 undef = .bool (decide (0 < (j : Int))) := hdep ⟨28, .data⟩ (by simp) rfl _ 114 rfl rfl
                have hgv := dg
                refine wpOp_yes (Array.getElem?_eq_getElem hi) rfl rfl rfl hgv (op_move (.tmp 114) rfl _ d0 ?_)
                exact hK _ _ (Below.refl _ _) hC (rfl)
              · -- 30
                have dg : aa.tmps.getD 115 undef = .bool (decide (0 < (j : Int))) := hdep ⟨29, .guard⟩ (by simp) rfl _ 115 rfl rfl
                by_cases hc : 0 < j
                · have hgv : aa.tmps.getD 115 undef = .bool true := dg.trans (by congr 1; exact decide_eq_true (by omega))
                  refine wpOp_yes (Array.getElem?_eq_getElem hi) rfl rfl rfl hgv (op_move (.tmp 10) rfl _ ((hst 10 (off_of (by kernel_rfl))).trans rfl) ?_)
                  exact hK _ _ (Below.refl _ _) hC (fun _ => rfl)
                · refine wpOp_no (c := false) (Array.getElem?_eq_getElem hi) rfl rfl rfl (dg.trans (by congr 1; exact decide_eq_false (by omega))) (by decide) ?_
                  exact hK _ _ (Below.refl _ _) hC (fun h => absurd h hc)
              · -- 31
                have dg : aa.tmps.getD 115 undef = .bool (decide (0 < (j : Int))) := hdep ⟨29, .guard⟩ (by simp) rfl _ 115 rfl rfl
                by_cases hc : 0 < j
                · have hgv : aa.tmps.getD 115 undef = .bool true := dg.trans (by congr 1; exact decide_eq_true (by omega))
                  refine wpOp_yes (Array.getElem?_eq_getElem hi) rfl rfl rfl hgv (op_move (.tmp 14) rfl _ ((hst 14 (off_of (by kernel_rfl))).trans rfl) ?_)
                  exact hK _ _ (Below.refl _ _) hC (fun _ => rfl)
                · refine wpOp_no (c := false) (Array.getElem?_eq_getElem hi) rfl rfl rfl (dg.trans (by congr 1; exact decide_eq_false (by omega))) (by decide) ?_
                  exact hK _ _ (Below.refl _ _) hC (fun h => absurd h hc)
              · -- 32
                have dg : aa.tmps.getD 115 undef = .bool (decide (0 < (j : Int))) := hdep ⟨29, .guard⟩ (by simp) rfl _ 115 rfl rfl
                have d0 : 0 < j → aa.tmps.getD 117 undef = .int .i64 (j : Nat) := hdep ⟨31, .data⟩ (by simp) rfl _ 117 rfl rfl
                by_cases hc : 0 < j
                · have hgv : aa.tmps.getD 115 undef = .bool true := dg.trans (by congr 1; exact decide_eq_true (by omega))
                  refine wpOp_yes (Array.getElem?_eq_getElem hi) rfl rfl rfl hgv (op_sub1 (.tmp 117) (.const (.int .i64 1)) rfl (j - 1) (by omega) ((d0 hc).trans (by congr 1; omega)) rfl ?_)
                  exact hK _ _ (Below.refl _ _) hC (fun _ => rfl)
                · refine wpOp_no (c := false) (Array.getElem?_eq_getElem hi) rfl rfl rfl (dg.trans (by congr 1; exact decide_eq_false (by omega))) (by decide) ?_
                  exact hK _ _ (Below.refl _ _) hC (fun h => absurd h hc)
              · -- 33
                have dg : aa.tmps.getD 115 undef = .bool (decide (0 < (j : Int))) := hdep ⟨29, .guard⟩ (by simp) rfl _ 115 rfl rfl
                have d0 : 0 < j → aa.tmps.getD 116 undef = Value.slice (some ad) r.length cd := hdep ⟨30, .data⟩ (by simp) rfl _ 116 rfl rfl
                have d1 : 0 < j → aa.tmps.getD 118 undef = .int .i64 ((j - 1 : Nat) : Nat) := hdep ⟨32, .data⟩ (by simp) rfl _ 118 rfl rfl
                by_cases hc : 0 < j
                · have hgv : aa.tmps.getD 115 undef = .bool true := dg.trans (by congr 1; exact decide_eq_true (by omega))
                  refine wpOp_yes (Array.getElem?_eq_getElem hi) rfl rfl rfl hgv (op_index (.tmp 116) (.tmp 118) rfl ad r.length cd (j - 1) (d0 hc) (d1 hc) (by omega) ?_)
                  exact hK _ _ (Below.refl _ _) hC (fun _ => rfl)
                · refine wpOp_no (c := false) (Array.getElem?_eq_getElem hi) rfl rfl rfl (dg.trans (by congr 1; exact decide_eq_false (by omega))) (by decide) ?_
                  exact hK _ _ (Below.refl _ _) hC (fun h => absurd h hc)
              · -- 34
                have dg : aa.tmps.getD 115 undef = .bool (decide (0 < (j : Int))) := hdep ⟨29, .guard⟩ (by simp) rfl _ 115 rfl rfl
                have d0 : 0 < j → aa.tmps.getD 119 undef = .pointer (some (ad.add ((j - 1) * 5))) := hdep ⟨33, .data⟩ (by simp) rfl _ 119 rfl rfl
                by_cases hc : 0 < j
                · have hgv : aa.tmps.getD 115 undef = .bool true := dg.trans (by congr 1; exact decide_eq_true (by omega))
                  refine wpOp_yes (Array.getElem?_eq_getElem hi) rfl rfl rfl hgv (op_field0 (.tmp 119) rfl ad _ (d0 hc) ?_)
                  exact hK _ _ (Below.refl _ _) hC (fun _ => rfl)
                · refine wpOp_no (c := false) (Array.getElem?_eq_getElem hi) rfl rfl rfl (dg.trans (by congr 1; exact decide_eq_false (by omega))) (by decide) ?_
                  exact hK _ _ (Below.refl _ _) hC (fun h => absurd h hc)
              · -- 35
                have dg : aa.tmps.getD 115 undef = .bool (decide (0 < (j : Int))) := hdep ⟨29, .guard⟩ (by simp) rfl _ 115 rfl rfl
                have d0 : 0 < j → aa.tmps.getD 120 undef = .pointer (some (ad.add ((j - 1) * 5))) := hdep ⟨34, .data⟩ (by simp) rfl _ 120 rfl rfl
                by_cases hc : 0 < j
                · have hgv : aa.tmps.getD 115 undef = .bool true := dg.trans (by congr 1; exact decide_eq_true (by omega))
                  refine wpOp_yes (Array.getElem?_eq_getElem hi) rfl rfl rfl hgv (op_load3 (.tmp 120) rfl _ _ (d0 hc) (hcell (HPV.out (by omega)).1) ?_)
                  exact hK _ _ (Below.refl _ _) hC (fun _ => rfl)
                · refine wpOp_no (c := false) (Array.getElem?_eq_getElem hi) rfl rfl rfl (dg.trans (by congr 1; exact decide_eq_false (by omega))) (by decide) ?_
                  exact hK _ _ (Below.refl _ _) hC (fun h => absurd h hc)
              · -- 36
                have dg : aa.tmps.getD 115 undef = .bool (decide (0 < (j : Int))) := hdep ⟨29, .guard⟩ (by simp) rfl _ 115 rfl rfl
                by_cases hc : 0 < j
                · have hgv : aa.tmps.getD 115 undef = .bool true := dg.trans (by congr 1; exact decide_eq_true (by omega))
                  refine wpOp_yes (Array.getElem?_eq_getElem hi) rfl rfl rfl hgv (op_move (.tmp 10) rfl _ ((hst 10 (off_of (by kernel_rfl))).trans rfl) ?_)
                  exact hK _ _ (Below.refl _ _) hC (fun _ => rfl)
                · refine wpOp_no (c := false) (Array.getElem?_eq_getElem hi) rfl rfl rfl (dg.trans (by congr 1; exact decide_eq_false (by omega))) (by decide) ?_
                  exact hK _ _ (Below.refl _ _) hC (fun h => absurd h hc)
              · -- 37
                have dg : aa.tmps.getD 115 undef = .bool (decide (0 < (j : Int))) := hdep ⟨29, .guard⟩ (by simp) rfl _ 115 rfl rfl
                by_cases hc : 0 < j
                · have hgv : aa.tmps.getD 115 undef = .bool true := dg.trans (by congr 1; exact decide_eq_true (by omega))
                  refine wpOp_yes (Array.getElem?_eq_getElem hi) rfl rfl rfl hgv (op_move (.tmp 14) rfl _ ((hst 14 (off_of (by kernel_rfl))).trans rfl) ?_)
                  exact hK _ _ (Below.refl _ _) hC (fun _ => rfl)
                · refine wpOp_no (c := false) (Array.getElem?_eq_getElem hi) rfl rfl rfl (dg.trans (by congr 1; exact decide_eq_false (by omega))) (by decide) ?_
                  exact hK _ _ (Below.refl _ _) hC (fun h => absurd h hc)
              · -- 38
                have dg : aa.tmps.getD 115 undef = .bool (decide (0 < (j : Int))) := hdep ⟨29, .guard⟩ (by simp) rfl _ 115 rfl rfl
                have d0 : 0 < j → aa.tmps.getD 122 undef = Value.slice (some ad) r.length cd := hdep ⟨36, .data⟩ (by simp) rfl _ 122 rfl rfl
                have d1 : 0 < j → aa.tmps.getD 123 undef = .int .i64 (j : Nat) := hdep ⟨37, .data⟩ (by simp) rfl _ 123 rfl rfl
                by_cases hc : 0 < j
                · have hgv : aa.tmps.getD 115 undef = .bool true := dg.trans (by congr 1; exact decide_eq_true (by omega))
                  refine wpOp_yes (Array.getElem?_eq_getElem hi) rfl rfl rfl hgv (op_index (.tmp 122) (.tmp 123) rfl ad r.length cd (j) (d0 hc) (d1 hc) (by omega) ?_)
                  exact hK _ _ (Below.refl _ _) hC (fun _ => rfl)
                · refine wpOp_no (c := false) (Array.getElem?_eq_getElem hi) rfl rfl rfl (dg.trans (by congr 1; exact decide_eq_false (by omega))) (by decide) ?_
                  exact hK _ _ (Below.refl _ _) hC (fun h => absurd h hc)
              · -- 39
                have dg : aa.tmps.getD 115 undef = .bool (decide (0 < (j : Int))) := hdep ⟨29, .guard⟩ (by simp) rfl _ 115 rfl rfl
                have d0 : 0 < j → aa.tmps.getD 124 undef = .pointer (some (ad.add (j * 5))) := hdep ⟨38, .data⟩ (by simp) rfl _ 124 rfl rfl
                by_cases hc : 0 < j
                · have hgv : aa.tmps.getD 115 undef = .bool true := dg.trans (by congr 1; exact decide_eq_true (by omega))
                  refine wpOp_yes (Array.getElem?_eq_getElem hi) rfl rfl rfl hgv (op_field0 (.tmp 124) rfl ad _ (d0 hc) ?_)
                  exact hK _ _ (Below.refl _ _) hC (fun _ => rfl)
                · refine wpOp_no (c := false) (Array.getElem?_eq_getElem hi) rfl rfl rfl (dg.trans (by congr 1; exact decide_eq_false (by omega))) (by decide) ?_
                  exact hK _ _ (Below.refl _ _) hC (fun h => absurd h hc)
              · -- 40
                have dg : aa.tmps.getD 115 undef = .bool (decide (0 < (j : Int))) := hdep ⟨29, .guard⟩ (by simp) rfl _ 115 rfl rfl
                have d0 : 0 < j → aa.tmps.getD 125 undef = .pointer (some (ad.add (j * 5))) := hdep ⟨39, .data⟩ (by simp) rfl _ 125 rfl rfl
                by_cases hc : 0 < j
                · have hgv : aa.tmps.getD 115 undef = .bool true := dg.trans (by congr 1; exact decide_eq_true (by omega))
                  refine wpOp_yes (Array.getElem?_eq_getElem hi) rfl rfl rfl hgv (op_load3 (.tmp 125) rfl _ _ (d0 hc) (hcell G0.out) ?_)
                  exact hK _ _ (Below.refl _ _) hC (fun _ => rfl)
                · refine wpOp_no (c := false) (Array.getElem?_eq_getElem hi) rfl rfl rfl (dg.trans (by congr 1; exact decide_eq_false (by omega))) (by decide) ?_
                  exact hK _ _ (Below.refl _ _) hC (fun h => absurd h hc)
              · -- 41
                have dg : aa.tmps.getD 115 undef = .bool (decide (0 < (j : Int))) := hdep ⟨29, .guard⟩ (by simp) rfl _ 115 rfl rfl
                have d0 : 0 < j → aa.tmps.getD 121 undef = .int .i64 x0 := hdep ⟨35, .data⟩ (by simp) rfl _ 121 rfl rfl
                have d1 : 0 < j → aa.tmps.getD 126 undef = .int .i64 t.f0 := hdep ⟨40, .data⟩ (by simp) rfl _ 126 rfl rfl
                by_cases hc : 0 < j
                · have hgv : aa.tmps.getD 115 undef = .bool true := dg.trans (by congr 1; exact decide_eq_true (by omega))
                  refine wpOp_yes (Array.getElem?_eq_getElem hi) rfl rfl rfl hgv (op_gtr (.tmp 121) (.tmp 126) rfl _ _ (d0 hc) (d1 hc) ?_)
                  rw [show decide (t.f0 < x0) = false from hgt0 (by omega)]
                  exact hK _ _ (Below.refl _ _) hC (fun _ => rfl)
                · refine wpOp_no (c := false) (Array.getElem?_eq_getElem hi) rfl rfl rfl (dg.trans (by congr 1; exact decide_eq_false (by omega))) (by decide) ?_
                  exact hK _ _ (Below.refl _ _) hC (fun h => absurd h hc)
              · -- 42
                have dg : aa.tmps.getD 112 undef = .bool false := hdep ⟨26, .guard⟩ (by simp) rfl _ 112 rfl rfl
                have d0 : aa.tmps.getD 115 undef = .bool (decide (0 < (j : Int))) := hdep ⟨29, .data⟩ (by simp) rfl _ 115 rfl rfl
                have d1 : 0 < j → aa.tmps.getD 127 undef = .bool false := hdep ⟨41, .data⟩ (by simp) rfl _ 127 rfl rfl
                have hgv := dg
                refine wpOp_yes (Array.getElem?_eq_getElem hi) rfl rfl rfl hgv (op_pick (.tmp 115) (.tmp 127) (.const (.bool false)) rfl (decide (0 < (j : Int))) (.bool false) d0 ?_ ?_)
                · by_cases hj0 : 0 < j
                  · rw [show decide (0 < (j : Int)) = true from decide_eq_true (by omega)]; exact d1 hj0
                  · rw [show decide (0 < (j : Int)) = false from decide_eq_false (by omega)]; rfl
                · exact hK _ _ (Below.refl _ _) hC (rfl)
              · -- 43
                have d0 : aa.tmps.getD 112 undef = .bool false := hdep ⟨26, .data⟩ (by simp) rfl _ 112 rfl rfl
                have d2 : aa.tmps.getD 128 undef = .bool false := hdep ⟨42, .data⟩ (by simp) rfl _ 128 rfl rfl
                refine wpOp_of (Array.getElem?_eq_getElem hi) rfl (op_pick (.tmp 112) (.const (.bool true)) (.tmp 128) rfl false (.bool false) d0 ?_ ?_)
                · exact d2
                · exact hK _ _ (Below.refl _ _) hC (rfl)
              · -- 44
                have d0 : aa.tmps.getD 129 undef = .bool false := hdep ⟨43, .data⟩ (by simp) rfl _ 129 rfl rfl
                refine wpOp_of (Array.getElem?_eq_getElem hi) rfl (op_move (.tmp 129) rfl _ d0 ?_)
                exact hK _ _ (Below.refl _ _) hC (rfl)
              · -- 45
                have dg : aa.tmps.getD 130 undef = .bool false := hdep ⟨44, .guard⟩ (by simp) rfl _ 130 rfl rfl
                have hgv := dg
                refine wpOp_yes (Array.getElem?_eq_getElem hi) rfl rfl rfl hgv (op_move (.tmp 14) rfl _ ((hst 14 (off_of (by kernel_rfl))).trans rfl) ?_)
                exact hK _ _ (Below.refl _ _) hC (rfl)
              · -- 46
                have dg : aa.tmps.getD 130 undef = .bool false := hdep ⟨44, .guard⟩ (by simp) rfl _ 130 rfl rfl
                have d0 : aa.tmps.getD 131 undef = .int .i64 (j : Nat) := hdep ⟨45, .data⟩ (by simp) rfl _ 131 rfl rfl
                have hgv := dg
                refine wpOp_yes (Array.getElem?_eq_getElem hi) rfl rfl rfl hgv (op_gtr (.tmp 131) (.const (.int .i64 0)) rfl _ 0 d0 rfl ?_)
                exact hK _ _ (Below.refl _ _) hC (rfl)
              · -- 47
                have dg : aa.tmps.getD 130 undef = .bool false := hdep ⟨44, .guard⟩ (by simp) rfl _ 130 rfl rfl
                have d0 : aa.tmps.getD 132 undef = .bool (decide (0 < (j : Int))) := hdep ⟨46, .data⟩ (by simp) rfl _ 132 rfl rfl
                have hgv := dg
                refine wpOp_yes (Array.getElem?_eq_getElem hi) rfl rfl rfl hgv (op_move (.tmp 132) rfl _ d0 ?_)
                exact hK _ _ (Below.refl _ _) hC (rfl)
              · -- 48
                have dg : aa.tmps.getD 133 undef = .bool (decide (0 < (j : Int))) := hdep ⟨47, .guard⟩ (by simp) rfl _ 133 rfl rfl
                by_cases hc : 0 < j
                · have hgv : aa.tmps.getD 133 undef = .bool true := dg.trans (by congr 1; exact decide_eq_true (by omega))
                  refine wpOp_yes (Array.getElem?_eq_getElem hi) rfl rfl rfl hgv (op_move (.tmp 10) rfl _ ((hst 10 (off_of (by kernel_rfl))).trans rfl) ?_)
                  exact hK _ _ (Below.refl _ _) hC (fun _ => rfl)
                · refine wpOp_no (c := false) (Array.getElem?_eq_getElem hi) rfl rfl rfl (dg.trans (by congr 1; exact decide_eq_false (by omega))) (by decide) ?_
                  exact hK _ _ (Below.refl _ _) hC (fun h => absurd h hc)
              · -- 49
                have dg : aa.tmps.getD 133 undef = .bool (decide (0 < (j : Int))) := hdep ⟨47, .guard⟩ (by simp) rfl _ 133 rfl rfl
                by_cases hc : 0 < j
                · have hgv : aa.tmps.getD 133 undef = .bool true := dg.trans (by congr 1; exact decide_eq_true (by omega))
                  refine wpOp_yes (Array.getElem?_eq_getElem hi) rfl rfl rfl hgv (op_move (.tmp 14) rfl _ ((hst 14 (off_of (by kernel_rfl))).trans rfl) ?_)
                  exact hK _ _ (Below.refl _ _) hC (fun _ => rfl)
                · refine wpOp_no (c := false) (Array.getElem?_eq_getElem hi) rfl rfl rfl (dg.trans (by congr 1; exact decide_eq_false (by omega))) (by decide) ?_
                  exact hK _ _ (Below.refl _ _) hC (fun h => absurd h hc)
              · -- 50
                have dg : aa.tmps.getD 133 undef = .bool (decide (0 < (j : Int))) := hdep ⟨47, .guard⟩ (by simp) rfl _ 133 rfl rfl
                have d0 : 0 < j → aa.tmps.getD 135 undef = .int .i64 (j : Nat) := hdep ⟨49, .data⟩ (by simp) rfl _ 135 rfl rfl
                by_cases hc : 0 < j
                · have hgv : aa.tmps.getD 133 undef = .bool true := dg.trans (by congr 1; exact decide_eq_true (by omega))
                  refine wpOp_yes (Array.getElem?_eq_getElem hi) rfl rfl rfl hgv (op_sub1 (.tmp 135) (.const (.int .i64 1)) rfl (j - 1) (by omega) ((d0 hc).trans (by congr 1; omega)) rfl ?_)
                  exact hK _ _ (Below.refl _ _) hC (fun _ => rfl)
                · refine wpOp_no (c := false) (Array.getElem?_eq_getElem hi) rfl rfl rfl (dg.trans (by congr 1; exact decide_eq_false (by omega))) (by decide) ?_
                  exact hK _ _ (Below.refl _ _) hC (fun h => absurd h hc)
              · -- 51
                have dg : aa.tmps.getD 133 undef = .bool (decide (0 < (j : Int))) := hdep ⟨47, .guard⟩ (by simp) rfl _ 133 rfl rfl
                have d0 : 0 < j → aa.tmps.getD 134 undef = Value.slice (some ad) r.length cd := hdep ⟨48, .data⟩ (by simp) rfl _ 134 rfl rfl
                have d1 : 0 < j → aa.tmps.getD 136 undef = .int .i64 ((j - 1 : Nat) : Nat) := hdep ⟨50, .data⟩ (by simp) rfl _ 136 rfl rfl
                by_cases hc : 0 < j
                · have hgv : aa.tmps.getD 133 undef = .bool true := dg.trans (by congr 1; exact decide_eq_true (by omega))
                  refine wpOp_yes (Array.getElem?_eq_getElem hi) rfl rfl rfl hgv (op_index (.tmp 134) (.tmp 136) rfl ad r.length cd (j - 1) (d0 hc) (d1 hc) (by omega) ?_)
                  exact hK _ _ (Below.refl _ _) hC (fun _ => rfl)
                · refine wpOp_no (c := false) (Array.getElem?_eq_getElem hi) rfl rfl rfl (dg.trans (by congr 1; exact decide_eq_false (by omega))) (by decide) ?_
                  exact hK _ _ (Below.refl _ _) hC (fun h => absurd h hc)
              · -- 52
                have dg : aa.tmps.getD 133 undef = .bool (decide (0 < (j : Int))) := hdep ⟨47, .guard⟩ (by simp) rfl _ 133 rfl rfl
                have d0 : 0 < j → aa.tmps.getD 137 undef = .pointer (some (ad.add ((j - 1) * 5))) := hdep ⟨51, .data⟩ (by simp) rfl _ 137 rfl rfl
                by_cases hc : 0 < j
                · have hgv : aa.tmps.getD 133 undef = .bool true := dg.trans (by congr 1; exact decide_eq_true (by omega))
                  refine wpOp_yes (Array.getElem?_eq_getElem hi) rfl rfl rfl hgv (op_field0 (.tmp 137) rfl ad _ (d0 hc) ?_)
                  exact hK _ _ (Below.refl _ _) hC (fun _ => rfl)
                · refine wpOp_no (c := false) (Array.getElem?_eq_getElem hi) rfl rfl rfl (dg.trans (by congr 1; exact decide_eq_false (by omega))) (by decide) ?_
                  exact hK _ _ (Below.refl _ _) hC (fun h => absurd h hc)
              · -- 53
                have dg : aa.tmps.getD 133 undef = .bool (decide (0 < (j : Int))) := hdep ⟨47, .guard⟩ (by simp) rfl _ 133 rfl rfl
                have d0 : 0 < j → aa.tmps.getD 138 undef = .pointer (some (ad.add ((j - 1) * 5))) := hdep ⟨52, .data⟩ (by simp) rfl _ 138 rfl rfl
                by_cases hc : 0 < j
                · have hgv : aa.tmps.getD 133 undef = .bool true := dg.trans (by congr 1; exact decide_eq_true (by omega))
                  refine wpOp_yes (Array.getElem?_eq_getElem hi) rfl rfl rfl hgv (op_load3 (.tmp 138) rfl _ _ (d0 hc) (hcell (HPV.out (by omega)).1) ?_)
                  exact hK _ _ (Below.refl _ _) hC (fun _ => rfl)
                · refine wpOp_no (c := false) (Array.getElem?_eq_getElem hi) rfl rfl rfl (dg.trans (by congr 1; exact decide_eq_false (by omega))) (by decide) ?_
                  exact hK _ _ (Below.refl _ _) hC (fun h => absurd h hc)
              · -- 54
                have dg : aa.tmps.getD 133 undef = .bool (decide (0 < (j : Int))) := hdep ⟨47, .guard⟩ (by simp) rfl _ 133 rfl rfl
                by_cases hc : 0 < j
                · have hgv : aa.tmps.getD 133 undef = .bool true := dg.trans (by congr 1; exact decide_eq_true (by omega))
                  refine wpOp_yes (Array.getElem?_eq_getElem hi) rfl rfl rfl hgv (op_move (.tmp 10) rfl _ ((hst 10 (off_of (by kernel_rfl))).trans rfl) ?_)
                  exact hK _ _ (Below.refl _ _) hC (fun _ => rfl)
                · refine wpOp_no (c := false) (Array.getElem?_eq_getElem hi) rfl rfl rfl (dg.trans (by congr 1; exact decide_eq_false (by omega))) (by decide) ?_
                  exact hK _ _ (Below.refl _ _) hC (fun h => absurd h hc)
              · -- 55
                have dg : aa.tmps.getD 133 undef = .bool (decide (0 < (j : Int))) := hdep ⟨47, .guard⟩ (by simp) rfl _ 133 rfl rfl
                by_cases hc : 0 < j
                · have hgv : aa.tmps.getD 133 undef = .bool true := dg.trans (by congr 1; exact decide_eq_true (by omega))
                  refine wpOp_yes (Array.getElem?_eq_getElem hi) rfl rfl rfl hgv (op_move (.tmp 14) rfl _ ((hst 14 (off_of (by kernel_rfl))).trans rfl) ?_)
                  exact hK _ _ (Below.refl _ _) hC (fun _ => rfl)
                · refine wpOp_no (c := false) (Array.getElem?_eq_getElem hi) rfl rfl rfl (dg.trans (by congr 1; exact decide_eq_false (by omega))) (by decide) ?_
                  exact hK _ _ (Below.refl _ _) hC (fun h => absurd h hc)
              · -- 56
                have dg : aa.tmps.getD 133 undef = .bool (decide (0 < (j : Int))) := hdep ⟨47, .guard⟩ (by simp) rfl _ 133 rfl rfl
                have d0 : 0 < j → aa.tmps.getD 140 undef = Value.slice (some ad) r.length cd := hdep ⟨54, .data⟩ (by simp) rfl _ 140 rfl rfl
                have d1 : 0 < j → aa.tmps.getD 141 undef = .int .i64 (j : Nat) := hdep ⟨55, .data⟩ (by simp) rfl _ 141 rfl rfl
                by_cases hc : 0 < j
                · have hgv : aa.tmps.getD 133 undef = .bool true := dg.trans (by congr 1; exact decide_eq_true (by omega))
                  refine wpOp_yes (Array.getElem?_eq_getElem hi) rfl rfl rfl hgv (op_index (.tmp 140) (.tmp 141) rfl ad r.length cd (j) (d0 hc) (d1 hc) (by omega) ?_)
                  exact hK _ _ (Below.refl _ _) hC (fun _ => rfl)
                · refine wpOp_no (c := false) (Array.getElem?_eq_getElem hi) rfl rfl rfl (dg.trans (by congr 1; exact decide_eq_false (by omega))) (by decide) ?_
                  exact hK _ _ (Below.refl _ _) hC (fun h => absurd h hc)
              · -- 57
                have dg : aa.tmps.getD 133 undef = .bool (decide (0 < (j : Int))) := hdep ⟨47, .guard⟩ (by simp) rfl _ 133 rfl rfl
                have d0 : 0 < j → aa.tmps.getD 142 undef = .pointer (some (ad.add (j * 5))) := hdep ⟨56, .data⟩ (by simp) rfl _ 142 rfl rfl
                by_cases hc : 0 < j
                · have hgv : aa.tmps.getD 133 undef = .bool true := dg.trans (by congr 1; exact decide_eq_true (by omega))
                  refine wpOp_yes (Array.getElem?_eq_getElem hi) rfl rfl rfl hgv (op_field0 (.tmp 142) rfl ad _ (d0 hc) ?_)
                  exact hK _ _ (Below.refl _ _) hC (fun _ => rfl)
                · refine wpOp_no (c := false) (Array.getElem?_eq_getElem hi) rfl rfl rfl (dg.trans (by congr 1; exact decide_eq_false (by omega))) (by decide) ?_
                  exact hK _ _ (Below.refl _ _) hC (fun h => absurd h hc)
              · -- 58
                have dg : aa.tmps.getD 133 undef = .bool (decide (0 < (j : Int))) := hdep ⟨47, .guard⟩ (by simp) rfl _ 133 rfl rfl
                have d0 : 0 < j → aa.tmps.getD 143 undef = .pointer (some (ad.add (j * 5))) := hdep ⟨57, .data⟩ (by simp) rfl _ 143 rfl rfl
                by_cases hc : 0 < j
                · have hgv : aa.tmps.getD 133 undef = .bool true := dg.trans (by congr 1; exact decide_eq_true (by omega))
                  refine wpOp_yes (Array.getElem?_eq_getElem hi) rfl rfl rfl hgv (op_load3 (.tmp 143) rfl _ _ (d0 hc) (hcell G0.out) ?_)
                  exact hK _ _ (Below.refl _ _) hC (fun _ => rfl)
                · refine wpOp_no (c := false) (Array.getElem?_eq_getElem hi) rfl rfl rfl (dg.trans (by congr 1; exact decide_eq_false (by omega))) (by decide) ?_
                  exact hK _ _ (Below.refl _ _) hC (fun h => absurd h hc)
              · -- 59
                have dg : aa.tmps.getD 133 undef = .bool (decide (0 < (j : Int))) := hdep ⟨47, .guard⟩ (by simp) rfl _ 133 rfl rfl
                have d0 : 0 < j → aa.tmps.getD 139 undef = .int .i64 x0 := hdep ⟨53, .data⟩ (by simp) rfl _ 139 rfl rfl
                have d1 : 0 < j → aa.tmps.getD 144 undef = .int .i64 t.f0 := hdep ⟨58, .data⟩ (by simp) rfl _ 144 rfl rfl
                by_cases hc : 0 < j
                · have hgv : aa.tmps.getD 133 undef = .bool true := dg.trans (by congr 1; exact decide_eq_true (by omega))
                  refine wpOp_yes (Array.getElem?_eq_getElem hi) rfl rfl rfl hgv (op_eql (.tmp 139) (.tmp 144) rfl _ _ (d0 hc) (d1 hc) ?_)
                  exact hK _ _ (Below.refl _ _) hC (fun _ => rfl)
                · refine wpOp_no (c := false) (Array.getElem?_eq_getElem hi) rfl rfl rfl (dg.trans (by congr 1; exact decide_eq_false (by omega))) (by decide) ?_
                  exact hK _ _ (Below.refl _ _) hC (fun h => absurd h hc)
              · -- 60
                have dg : aa.tmps.getD 130 undef = .bool false := hdep ⟨44, .guard⟩ (by simp) rfl _ 130 rfl rfl
                have d0 : aa.tmps.getD 133 undef = .bool (decide (0 < (j : Int))) := hdep ⟨47, .data⟩ (by simp) rfl _ 133 rfl rfl
                have d1 : 0 < j → aa.tmps.getD 145 undef = .bool (x0 == t.f0) := hdep ⟨59, .data⟩ (by simp) rfl _ 145 rfl rfl
                have hgv := dg
                refine wpOp_yes (Array.getElem?_eq_getElem hi) rfl rfl rfl hgv (op_pick (.tmp 133) (.tmp 145) (.const (.bool false)) rfl (decide (0 < (j : Int))) (.bool (decide (0 < (j : Int)) && (x0 == t.f0))) d0 ?_ ?_)
                · by_cases hj0 : 0 < j
                  · rw [show decide (0 < (j : Int)) = true from decide_eq_true (by omega)]; exact d1 hj0
                  · rw [show decide (0 < (j : Int)) = false from decide_eq_false (by omega)]; rfl
                · exact hK _ _ (Below.refl _ _) hC (rfl)
              · -- 61
                have dg : aa.tmps.getD 130 undef = .bool false := hdep ⟨44, .guard⟩ (by simp) rfl _ 130 rfl rfl
                have d0 : aa.tmps.getD 146 undef = .bool (decide (0 < (j : Int)) && (x0 == t.f0)) := hdep ⟨60, .data⟩ (by simp) rfl _ 146 rfl rfl
                have hgv := dg
                refine wpOp_yes (Array.getElem?_eq_getElem hi) rfl rfl rfl hgv (op_move (.tmp 146) rfl _ d0 ?_)
                exact hK _ _ (Below.refl _ _) hC (rfl)
              · -- 62
                have dg : aa.tmps.getD 147 undef = .bool (decide (0 < (j : Int)) && (x0 == t.f0)) := hdep ⟨61, .guard⟩ (by simp) rfl _ 147 rfl rfl
                by_cases hc : (0 < j ∧ x0 = t.f0)
                · have hgv : aa.tmps.getD 147 undef = .bool true := dg.trans (by congr 1; rw [hc.2, decide_eq_true (show 0 < (j : Int) by omega)]; simp)
                  refine wpOp_yes (Array.getElem?_eq_getElem hi) rfl rfl rfl hgv (op_move (.tmp 10) rfl _ ((hst 10 (off_of (by kernel_rfl))).trans rfl) ?_)
                  exact hK _ _ (Below.refl _ _) hC (fun _ => rfl)
                · refine wpOp_no (c := false) (Array.getElem?_eq_getElem hi) rfl rfl rfl (dg.trans (by congr 1; exact hand hc)) (by decide) ?_
                  exact hK _ _ (Below.refl _ _) hC (fun h => absurd h hc)
              · -- 63
                have dg : aa.tmps.getD 147 undef = .bool (decide (0 < (j : Int)) && (x0 == t.f0)) := hdep ⟨61, .guard⟩ (by simp) rfl _ 147 rfl rfl
                by_cases hc : (0 < j ∧ x0 = t.f0)
                · have hgv : aa.tmps.getD 147 undef = .bool true := dg.trans (by congr 1; rw [hc.2, decide_eq_true (show 0 < (j : Int) by omega)]; simp)
                  refine wpOp_yes (Array.getElem?_eq_getElem hi) rfl rfl rfl hgv (op_move (.tmp 14) rfl _ ((hst 14 (off_of (by kernel_rfl))).trans rfl) ?_)
                  exact hK _ _ (Below.refl _ _) hC (fun _ => rfl)
                · refine wpOp_no (c := false) (Array.getElem?_eq_getElem hi) rfl rfl rfl (dg.trans (by congr 1; exact hand hc)) (by decide) ?_
                  exact hK _ _ (Below.refl _ _) hC (fun h => absurd h hc)
              · -- 64
                have dg : aa.tmps.getD 147 undef = .bool (decide (0 < (j : Int)) && (x0 == t.f0)) := hdep ⟨61, .guard⟩ (by simp) rfl _ 147 rfl rfl
                have d0 : (0 < j ∧ x0 = t.f0) → aa.tmps.getD 149 undef = .int .i64 (j : Nat) := hdep ⟨63, .data⟩ (by simp) rfl _ 149 rfl rfl
                by_cases hc : (0 < j ∧ x0 = t.f0)
                · have hgv : aa.tmps.getD 147 undef = .bool true := dg.trans (by congr 1; rw [hc.2, decide_eq_true (show 0 < (j : Int) by omega)]; simp)
                  refine wpOp_yes (Array.getElem?_eq_getElem hi) rfl rfl rfl hgv (op_sub1 (.tmp 149) (.const (.int .i64 1)) rfl (j - 1) (by omega) ((d0 hc).trans (by congr 1; omega)) rfl ?_)
                  exact hK _ _ (Below.refl _ _) hC (fun _ => rfl)
                · refine wpOp_no (c := false) (Array.getElem?_eq_getElem hi) rfl rfl rfl (dg.trans (by congr 1; exact hand hc)) (by decide) ?_
                  exact hK _ _ (Below.refl _ _) hC (fun h => absurd h hc)
              · -- 65
                have dg : aa.tmps.getD 147 undef = .bool (decide (0 < (j : Int)) && (x0 == t.f0)) := hdep ⟨61, .guard⟩ (by simp) rfl _ 147 rfl rfl
                have d0 : (0 < j ∧ x0 = t.f0) → aa.tmps.getD 148 undef = Value.slice (some ad) r.length cd := hdep ⟨62, .data⟩ (by simp) rfl _ 148 rfl rfl
                have d1 : (0 < j ∧ x0 = t.f0) → aa.tmps.getD 150 undef = .int .i64 ((j - 1 : Nat) : Nat) := hdep ⟨64, .data⟩ (by simp) rfl _ 150 rfl rfl
                by_cases hc : (0 < j ∧ x0 = t.f0)
                · have hgv : aa.tmps.getD 147 undef = .bool true := dg.trans (by congr 1; rw [hc.2, decide_eq_true (show 0 < (j : Int) by omega)]; simp)
                  refine wpOp_yes (Array.getElem?_eq_getElem hi) rfl rfl rfl hgv (op_index (.tmp 148) (.tmp 150) rfl ad r.length cd (j - 1) (d0 hc) (d1 hc) (by omega) ?_)
                  exact hK _ _ (Below.refl _ _) hC (fun _ => rfl)
                · refine wpOp_no (c := false) (Array.getElem?_eq_getElem hi) rfl rfl rfl (dg.trans (by congr 1; exact hand hc)) (by decide) ?_
                  exact hK _ _ (Below.refl _ _) hC (fun h => absurd h hc)
              · -- 66
                have dg : aa.tmps.getD 147 undef = .bool (decide (0 < (j : Int)) && (x0 == t.f0)) := hdep ⟨61, .guard⟩ (by simp) rfl _ 147 rfl rfl
                have d0 : (0 < j ∧ x0 = t.f0) → aa.tmps.getD 151 undef = .pointer (some (ad.add ((j - 1) * 5))) := hdep ⟨65, .data⟩ (by simp) rfl _ 151 rfl rfl
                by_cases hc : (0 < j ∧ x0 = t.f0)
                · have hgv : aa.tmps.getD 147 undef = .bool true := dg.trans (by congr 1; rw [hc.2, decide_eq_true (show 0 < (j : Int) by omega)]; simp)
                  refine wpOp_yes (Array.getElem?_eq_getElem hi) rfl rfl rfl hgv (op_field1 (.tmp 151) rfl ad _ (d0 hc) ?_)
                  exact hK _ _ (Below.refl _ _) hC (fun _ => rfl)
                · refine wpOp_no (c := false) (Array.getElem?_eq_getElem hi) rfl rfl rfl (dg.trans (by congr 1; exact hand hc)) (by decide) ?_
                  exact hK _ _ (Below.refl _ _) hC (fun h => absurd h hc)
              · -- 67
                have dg : aa.tmps.getD 147 undef = .bool (decide (0 < (j : Int)) && (x0 == t.f0)) := hdep ⟨61, .guard⟩ (by simp) rfl _ 147 rfl rfl
                have d0 : (0 < j ∧ x0 = t.f0) → aa.tmps.getD 152 undef = .pointer (some ⟨(ad.add ((j - 1) * 5)).block, (ad.add ((j - 1) * 5)).off + 1, none⟩) := hdep ⟨66, .data⟩ (by simp) rfl _ 152 rfl rfl
                by_cases hc : (0 < j ∧ x0 = t.f0)
                · have hgv : aa.tmps.getD 147 undef = .bool true := dg.trans (by congr 1; rw [hc.2, decide_eq_true (show 0 < (j : Int) by omega)]; simp)
                  refine wpOp_yes (Array.getElem?_eq_getElem hi) rfl rfl rfl hgv (op_load3 (.tmp 152) rfl _ _ (d0 hc) (hcell (HPV.out (by omega)).2) ?_)
                  exact hK _ _ (Below.refl _ _) hC (fun _ => rfl)
                · refine wpOp_no (c := false) (Array.getElem?_eq_getElem hi) rfl rfl rfl (dg.trans (by congr 1; exact hand hc)) (by decide) ?_
                  exact hK _ _ (Below.refl _ _) hC (fun h => absurd h hc)
              · -- 68
                have dg : aa.tmps.getD 147 undef = .bool (decide (0 < (j : Int)) && (x0 == t.f0)) := hdep ⟨61, .guard⟩ (by simp) rfl _ 147 rfl rfl
                by_cases hc : (0 < j ∧ x0 = t.f0)
                · have hgv : aa.tmps.getD 147 undef = .bool true := dg.trans (by congr 1; rw [hc.2, decide_eq_true (show 0 < (j : Int) by omega)]; simp)
                  refine wpOp_yes (Array.getElem?_eq_getElem hi) rfl rfl rfl hgv (op_move (.tmp 10) rfl _ ((hst 10 (off_of (by kernel_rfl))).trans rfl) ?_)
                  exact hK _ _ (Below.refl _ _) hC (fun _ => rfl)
                · refine wpOp_no (c := false) (Array.getElem?_eq_getElem hi) rfl rfl rfl (dg.trans (by congr 1; exact hand hc)) (by decide) ?_
                  exact hK _ _ (Below.refl _ _) hC (fun h => absurd h hc)
              · -- 69
                have dg : aa.tmps.getD 147 undef = .bool (decide (0 < (j : Int)) && (x0 == t.f0)) := hdep ⟨61, .guard⟩ (by simp) rfl _ 147 rfl rfl
                by_cases hc : (0 < j ∧ x0 = t.f0)
                · have hgv : aa.tmps.getD 147 undef = .bool true := dg.trans (by congr 1; rw [hc.2, decide_eq_true (show 0 < (j : Int) by omega)]; simp)
                  refine wpOp_yes (Array.getElem?_eq_getElem hi) rfl rfl rfl hgv (op_move (.tmp 14) rfl _ ((hst 14 (off_of (by kernel_rfl))).trans rfl) ?_)
                  exact hK _ _ (Below.refl _ _) hC (fun _ => rfl)
                · refine wpOp_no (c := false) (Array.getElem?_eq_getElem hi) rfl rfl rfl (dg.trans (by congr 1; exact hand hc)) (by decide) ?_
                  exact hK _ _ (Below.refl _ _) hC (fun h => absurd h hc)
              · -- 70
                have dg : aa.tmps.getD 147 undef = .bool (decide (0 < (j : Int)) && (x0 == t.f0)) := hdep ⟨61, .guard⟩ (by simp) rfl _ 147 rfl rfl
                have d0 : (0 < j ∧ x0 = t.f0) → aa.tmps.getD 154 undef = Value.slice (some ad) r.length cd := hdep ⟨68, .data⟩ (by simp) rfl _ 154 rfl rfl
                have d1 : (0 < j ∧ x0 = t.f0) → aa.tmps.getD 155 undef = .int .i64 (j : Nat) := hdep ⟨69, .data⟩ (by simp) rfl _ 155 rfl rfl
                by_cases hc : (0 < j ∧ x0 = t.f0)
                · have hgv : aa.tmps.getD 147 undef = .bool true := dg.trans (by congr 1; rw [hc.2, decide_eq_true (show 0 < (j : Int) by omega)]; simp)
                  refine wpOp_yes (Array.getElem?_eq_getElem hi) rfl rfl rfl hgv (op_index (.tmp 154) (.tmp 155) rfl ad r.length cd (j) (d0 hc) (d1 hc) (by omega) ?_)
                  exact hK _ _ (Below.refl _ _) hC (fun _ => rfl)
                · refine wpOp_no (c := false) (Array.getElem?_eq_getElem hi) rfl rfl rfl (dg.trans (by congr 1; exact hand hc)) (by decide) ?_
                  exact hK _ _ (Below.refl _ _) hC (fun h => absurd h hc)
              · -- 71
                have dg : aa.tmps.getD 147 undef = .bool (decide (0 < (j : Int)) && (x0 == t.f0)) := hdep ⟨61, .guard⟩ (by simp) rfl _ 147 rfl rfl
                have d0 : (0 < j ∧ x0 = t.f0) → aa.tmps.getD 156 undef = .pointer (some (ad.add (j * 5))) := hdep ⟨70, .data⟩ (by simp) rfl _ 156 rfl rfl
                by_cases hc : (0 < j ∧ x0 = t.f0)
                · have hgv : aa.tmps.getD 147 undef = .bool true := dg.trans (by congr 1; rw [hc.2, decide_eq_true (show 0 < (j : Int) by omega)]; simp)
                  refine wpOp_yes (Array.getElem?_eq_getElem hi) rfl rfl rfl hgv (op_field1 (.tmp 156) rfl ad _ (d0 hc) ?_)
                  exact hK _ _ (Below.refl _ _) hC (fun _ => rfl)
                · refine wpOp_no (c := false) (Array.getElem?_eq_getElem hi) rfl rfl rfl (dg.trans (by congr 1; exact hand hc)) (by decide) ?_
                  exact hK _ _ (Below.refl _ _) hC (fun h => absurd h hc)
              · -- 72
                have dg : aa.tmps.getD 147 undef = .bool (decide (0 < (j : Int)) && (x0 == t.f0)) := hdep ⟨61, .guard⟩ (by simp) rfl _ 147 rfl rfl
                have d0 : (0 < j ∧ x0 = t.f0) → aa.tmps.getD 157 undef = .pointer (some ⟨(ad.add (j * 5)).block, (ad.add (j * 5)).off + 1, none⟩) := hdep ⟨71, .data⟩ (by simp) rfl _ 157 rfl rfl
                by_cases hc : (0 < j ∧ x0 = t.f0)
                · have hgv : aa.tmps.getD 147 undef = .bool true := dg.trans (by congr 1; rw [hc.2, decide_eq_true (show 0 < (j : Int) by omega)]; simp)
                  refine wpOp_yes (Array.getElem?_eq_getElem hi) rfl rfl rfl hgv (op_load3 (.tmp 157) rfl _ _ (d0 hc) (hcell G1.out) ?_)
                  exact hK _ _ (Below.refl _ _) hC (fun _ => rfl)
                · refine wpOp_no (c := false) (Array.getElem?_eq_getElem hi) rfl rfl rfl (dg.trans (by congr 1; exact hand hc)) (by decide) ?_
                  exact hK _ _ (Below.refl _ _) hC (fun h => absurd h hc)
              · -- 73
                have dg : aa.tmps.getD 147 undef = .bool (decide (0 < (j : Int)) && (x0 == t.f0)) := hdep ⟨61, .guard⟩ (by simp) rfl _ 147 rfl rfl
                have d0 : (0 < j ∧ x0 = t.f0) → aa.tmps.getD 153 undef = .int .i64 x1 := hdep ⟨67, .data⟩ (by simp) rfl _ 153 rfl rfl
                have d1 : (0 < j ∧ x0 = t.f0) → aa.tmps.getD 158 undef = .int .i64 t.f1 := hdep ⟨72, .data⟩ (by simp) rfl _ 158 rfl rfl
                by_cases hc : (0 < j ∧ x0 = t.f0)
                · have hgv : aa.tmps.getD 147 undef = .bool true := dg.trans (by congr 1; rw [hc.2, decide_eq_true (show 0 < (j : Int) by omega)]; simp)
                  refine wpOp_yes (Array.getElem?_eq_getElem hi) rfl rfl rfl hgv (op_gtr (.tmp 153) (.tmp 158) rfl _ _ (d0 hc) (d1 hc) ?_)
                  rw [show decide (t.f1 < x1) = false from hgt1 hc.1 hc.2]
                  exact hK _ _ (Below.refl _ _) hC (fun _ => rfl)
                · refine wpOp_no (c := false) (Array.getElem?_eq_getElem hi) rfl rfl rfl (dg.trans (by congr 1; exact hand hc)) (by decide) ?_
                  exact hK _ _ (Below.refl _ _) hC (fun h => absurd h hc)
              · -- 74
                have dg : aa.tmps.getD 130 undef = .bool false := hdep ⟨44, .guard⟩ (by simp) rfl _ 130 rfl rfl
                have d0 : aa.tmps.getD 147 undef = .bool (decide (0 < (j : Int)) && (x0 == t.f0)) := hdep ⟨61, .data⟩ (by simp) rfl _ 147 rfl rfl
                have d1 : (0 < j ∧ x0 = t.f0) → aa.tmps.getD 159 undef = .bool false := hdep ⟨73, .data⟩ (by simp) rfl _ 159 rfl rfl
                have hgv := dg
                refine wpOp_yes (Array.getElem?_eq_getElem hi) rfl rfl rfl hgv (op_pick (.tmp 147) (.tmp 159) (.const (.bool false)) rfl (decide (0 < (j : Int)) && (x0 == t.f0)) (.bool false) d0 ?_ ?_)
                · by_cases hj0 : 0 < j ∧ x0 = t.f0
                  · rw [show decide (0 < (j : Int)) = true from decide_eq_true (by omega), show (x0 == t.f0) = true from beq_iff_eq.2 hj0.2]; exact d1 hj0
                  · rw [hand hj0]; rfl
                · exact hK _ _ (Below.refl _ _) hC (rfl)
              · -- 75
                have d0 : aa.tmps.getD 130 undef = .bool false := hdep ⟨44, .data⟩ (by simp) rfl _ 130 rfl rfl
                have d2 : aa.tmps.getD 160 undef = .bool false := hdep ⟨74, .data⟩ (by simp) rfl _ 160 rfl rfl
                refine wpOp_of (Array.getElem?_eq_getElem hi) rfl (op_pick (.tmp 130) (.const (.bool true)) (.tmp 160) rfl false (.bool false) d0 ?_ ?_)
                · exact d2
                · exact hK _ _ (Below.refl _ _) hC (rfl)
            · intro aa wq hI
              obtain ⟨tm, df⟩ := aa
              obtain rfl : df = [] := hI.df
              have hsz : tm.size = 180 := hI.sz
              have hv161 := hI.v 75 _ 161 rfl rfl rfl
              have hBQ := hI.c
              have harr := arr_of hsz
              simp only [Array.getD_eq_getD_getElem?] at harr hv161
              have harr' : tm = #[tm[0]?.getD undef, tm[1]?.getD undef, tm[2]?.getD undef, tm[3]?.getD undef, tm[4]?.getD undef, tm[5]?.getD undef, tm[6]?.getD undef, tm[7]?.getD undef, tm[8]?.getD undef, tm[9]?.getD undef, tm[10]?.getD undef, tm[11]?.getD undef, tm[12]?.getD undef, tm[13]?.getD undef, tm[14]?.getD undef, tm[15]?.getD undef, tm[16]?.getD undef, tm[17]?.getD undef, tm[18]?.getD undef, tm[19]?.getD undef, tm[20]?.getD undef, tm[21]?.getD undef, tm[22]?.getD undef, tm[23]?.getD undef, tm[24]?.getD undef, tm[25]?.getD undef, tm[26]?.getD undef, tm[27]?.getD undef, tm[28]?.getD undef, tm[29]?.getD undef, tm[30]?.getD undef, tm[31]?.getD undef, tm[32]?.getD undef, tm[33]?.getD undef, tm[34]?.getD undef, tm[35]?.getD undef, tm[36]?.getD undef, tm[37]?.getD undef, tm[38]?.getD undef, tm[39]?.getD undef, tm[40]?.getD undef, tm[41]?.getD undef, tm[42]?.getD undef, tm[43]?.getD undef, tm[44]?.getD undef, tm[45]?.getD undef, tm[46]?.getD undef, tm[47]?.getD undef, tm[48]?.getD undef, tm[49]?.getD undef, tm[50]?.getD undef, tm[51]?.getD undef, tm[52]?.getD undef, tm[53]?.getD undef, tm[54]?.getD undef, tm[55]?.getD undef, tm[56]?.getD undef, tm[57]?.getD undef, tm[58]?.getD undef, tm[59]?.getD undef, tm[60]?.getD undef, tm[61]?.getD undef, tm[62]?.getD undef, tm[63]?.getD undef, tm[64]?.getD undef, tm[65]?.getD undef, tm[66]?.getD undef, tm[67]?.getD undef, tm[68]?.getD undef, tm[69]?.getD undef, tm[70]?.getD undef, tm[71]?.getD undef, tm[72]?.getD undef, tm[73]?.getD undef, tm[74]?.getD undef, tm[75]?.getD undef, tm[76]?.getD undef, tm[77]?.getD undef, tm[78]?.getD undef, tm[79]?.getD undef, tm[80]?.getD undef, tm[81]?.getD undef, tm[82]?.getD undef, tm[83]?.getD undef, tm[84]?.getD undef, tm[85]?.getD undef, tm[86]?.getD undef, tm[87]?.getD undef, tm[88]?.getD undef, tm[89]?.getD undef, tm[90]?.getD undef, tm[91]?.getD undef, tm[92]?.getD undef, tm[93]?.getD undef, tm[94]?.getD undef, tm[95]?.getD undef, tm[96]?.getD undef, tm[97]?.getD undef, tm[98]?.getD undef, tm[99]?.getD undef, tm[100]?.getD undef, tm[101]?.getD undef, tm[102]?.getD undef, tm[103]?.getD undef, tm[104]?.getD undef, tm[105]?.getD undef, tm[106]?.getD undef, tm[107]?.getD undef, tm[108]?.getD undef, tm[109]?.getD undef, tm[110]?.getD undef, tm[111]?.getD undef, tm[112]?.getD undef, tm[113]?.getD undef, tm[114]?.getD undef, tm[115]?.getD undef, tm[116]?.getD undef, tm[117]?.getD undef, tm[118]?.getD undef, tm[119]?.getD undef, tm[120]?.getD undef, tm[121]?.getD undef, tm[122]?.getD undef, tm[123]?.getD undef, tm[124]?.getD undef, tm[125]?.getD undef, tm[126]?.getD undef, tm[127]?.getD undef, tm[128]?.getD undef, tm[129]?.getD undef, tm[130]?.getD undef, tm[131]?.getD undef, tm[132]?.getD undef, tm[133]?.getD undef, tm[134]?.getD undef, tm[135]?.getD undef, tm[136]?.getD undef, tm[137]?.getD undef, tm[138]?.getD undef, tm[139]?.getD undef, tm[140]?.getD undef, tm[141]?.getD undef, tm[142]?.getD undef, tm[143]?.getD undef, tm[144]?.getD undef, tm[145]?.getD undef, tm[146]?.getD undef, tm[147]?.getD undef, tm[148]?.getD undef, tm[149]?.getD undef, tm[150]?.getD undef, tm[151]?.getD undef, tm[152]?.getD undef, tm[153]?.getD undef, tm[154]?.getD undef, tm[155]?.getD undef, tm[156]?.getD undef, tm[157]?.getD undef, tm[158]?.getD undef, tm[159]?.getD undef, tm[160]?.getD undef, tm[161]?.getD undef, tm[162]?.getD undef, tm[163]?.getD undef, tm[164]?.getD undef, tm[165]?.getD undef, tm[166]?.getD undef, tm[167]?.getD undef, tm[168]?.getD undef, tm[169]?.getD undef, tm[170]?.getD undef, tm[171]?.getD undef, tm[172]?.getD undef, tm[173]?.getD undef, tm[174]?.getD undef, tm[175]?.getD undef, tm[176]?.getD undef, tm[177]?.getD undef, tm[178]?.getD undef, tm[179]?.getD undef] := harr
              replace hv161 : tm[161]?.getD undef = .bool false := hv161
              have s0 := hI.st 0 (off_of (by kernel_rfl))
              simp only [Array.getD_eq_getD_getElem?, List.getElem?_toArray, List.getElem?_cons_succ, List.getElem?_cons_zero, Option.getD_some] at s0
              have s1 := hI.st 1 (off_of (by kernel_rfl))
              simp only [Array.getD_eq_getD_getElem?, List.getElem?_toArray, List.getElem?_cons_succ, List.getElem?_cons_zero, Option.getD_some] at s1
              have s2 := hI.st 2 (off_of (by kernel_rfl))
              simp only [Array.getD_eq_getD_getElem?, List.getElem?_toArray, List.getElem?_cons_succ, List.getElem?_cons_zero, Option.getD_some] at s2
              have s3 := hI.st 3 (off_of (by kernel_rfl))
              simp only [Array.getD_eq_getD_getElem?, List.getElem?_toArray, List.getElem?_cons_succ, List.getElem?_cons_zero, Option.getD_some] at s3
              have s4 := hI.st 4 (off_of (by kernel_rfl))
              simp only [Array.getD_eq_getD_getElem?, List.getElem?_toArray, List.getElem?_cons_succ, List.getElem?_cons_zero, Option.getD_some] at s4
              have s5 := hI.st 5 (off_of (by kernel_rfl))
              simp only [Array.getD_eq_getD_getElem?, List.getElem?_toArray, List.getElem?_cons_succ, List.getElem?_cons_zero, Option.getD_some] at s5
              have s6 := hI.st 6 (off_of (by kernel_rfl))
              simp only [Array.getD_eq_getD_getElem?, List.getElem?_toArray, List.getElem?_cons_succ, List.getElem?_cons_zero, Option.getD_some] at s6
              have s7 := hI.st 7 (off_of (by kernel_rfl))
              simp only [Array.getD_eq_getD_getElem?, List.getElem?_toArray, List.getElem?_cons_succ, List.getElem?_cons_zero, Option.getD_some] at s7
              have s8 := hI.st 8 (off_of (by kernel_rfl))
              simp only [Array.getD_eq_getD_getElem?, List.getElem?_toArray, List.getElem?_cons_succ, List.getElem?_cons_zero, Option.getD_some] at s8
              have s9 := hI.st 9 (off_of (by kernel_rfl))
              simp only [Array.getD_eq_getD_getElem?, List.getElem?_toArray, List.getElem?_cons_succ, List.getElem?_cons_zero, Option.getD_some] at s9
              have s10 := hI.st 10 (off_of (by kernel_rfl))
              simp only [Array.getD_eq_getD_getElem?, List.getElem?_toArray, List.getElem?_cons_succ, List.getElem?_cons_zero, Option.getD_some] at s10
              have s11 := hI.st 11 (off_of (by kernel_rfl))
              simp only [Array.getD_eq_getD_getElem?, List.getElem?_toArray, List.getElem?_cons_succ, List.getElem?_cons_zero, Option.getD_some] at s11
              have s12 := hI.st 12 (off_of (by kernel_rfl))
              simp only [Array.getD_eq_getD_getElem?, List.getElem?_toArray, List.getElem?_cons_succ, List.getElem?_cons_zero, Option.getD_some] at s12
              have s13 := hI.st 13 (off_of (by kernel_rfl))
              simp only [Array.getD_eq_getD_getElem?, List.getElem?_toArray, List.getElem?_cons_succ, List.getElem?_cons_zero, Option.getD_some] at s13
              have s14 := hI.st 14 (off_of (by kernel_rfl))
              simp only [Array.getD_eq_getD_getElem?, List.getElem?_toArray, List.getElem?_cons_succ, List.getElem?_cons_zero, Option.getD_some] at s14
              have s15 := hI.st 15 (off_of (by kernel_rfl))
              simp only [Array.getD_eq_getD_getElem?, List.getElem?_toArray, List.getElem?_cons_succ, List.getElem?_cons_zero, Option.getD_some] at s15
              have s16 := hI.st 16 (off_of (by kernel_rfl))
              simp only [Array.getD_eq_getD_getElem?, List.getElem?_toArray, List.getElem?_cons_succ, List.getElem?_cons_zero, Option.getD_some] at s16
              have s17 := hI.st 17 (off_of (by kernel_rfl))
              simp only [Array.getD_eq_getD_getElem?, List.getElem?_toArray, List.getElem?_cons_succ, List.getElem?_cons_zero, Option.getD_some] at s17
              have s18 := hI.st 18 (off_of (by kernel_rfl))
              simp only [Array.getD_eq_getD_getElem?, List.getElem?_toArray, List.getElem?_cons_succ, List.getElem?_cons_zero, Option.getD_some] at s18
              have s19 := hI.st 19 (off_of (by kernel_rfl))
              simp only [Array.getD_eq_getD_getElem?, List.getElem?_toArray, List.getElem?_cons_succ, List.getElem?_cons_zero, Option.getD_some] at s19
              have s20 := hI.st 20 (off_of (by kernel_rfl))
              simp only [Array.getD_eq_getD_getElem?, List.getElem?_toArray, List.getElem?_cons_succ, List.getElem?_cons_zero, Option.getD_some] at s20
              have s21 := hI.st 21 (off_of (by kernel_rfl))
              simp only [Array.getD_eq_getD_getElem?, List.getElem?_toArray, List.getElem?_cons_succ, List.getElem?_cons_zero, Option.getD_some] at s21
              have s22 := hI.st 22 (off_of (by kernel_rfl))
              simp only [Array.getD_eq_getD_getElem?, List.getElem?_toArray, List.getElem?_cons_succ, List.getElem?_cons_zero, Option.getD_some] at s22
              have s23 := hI.st 23 (off_of (by kernel_rfl))
              simp only [Array.getD_eq_getD_getElem?, List.getElem?_toArray, List.getElem?_cons_succ, List.getElem?_cons_zero, Option.getD_some] at s23
              have s24 := hI.st 24 (off_of (by kernel_rfl))
              simp only [Array.getD_eq_getD_getElem?, List.getElem?_toArray, List.getElem?_cons_succ, List.getElem?_cons_zero, Option.getD_some] at s24
              have s25 := hI.st 25 (off_of (by kernel_rfl))
              simp only [Array.getD_eq_getD_getElem?, List.getElem?_toArray, List.getElem?_cons_succ, List.getElem?_cons_zero, Option.getD_some] at s25
              have s26 := hI.st 26 (off_of (by kernel_rfl))
              simp only [Array.getD_eq_getD_getElem?, List.getElem?_toArray, List.getElem?_cons_succ, List.getElem?_cons_zero, Option.getD_some] at s26
              have s27 := hI.st 27 (off_of (by kernel_rfl))
              simp only [Array.getD_eq_getD_getElem?, List.getElem?_toArray, List.getElem?_cons_succ, List.getElem?_cons_zero, Option.getD_some] at s27
              have s28 := hI.st 28 (off_of (by kernel_rfl))
              simp only [Array.getD_eq_getD_getElem?, List.getElem?_toArray, List.getElem?_cons_succ, List.getElem?_cons_zero, Option.getD_some] at s28
              have s29 := hI.st 29 (off_of (by kernel_rfl))
              simp only [Array.getD_eq_getD_getElem?, List.getElem?_toArray, List.getElem?_cons_succ, List.getElem?_cons_zero, Option.getD_some] at s29
              have s30 := hI.st 30 (off_of (by kernel_rfl))
              simp only [Array.getD_eq_getD_getElem?, List.getElem?_toArray, List.getElem?_cons_succ, List.getElem?_cons_zero, Option.getD_some] at s30
              have s31 := hI.st 31 (off_of (by kernel_rfl))
              simp only [Array.getD_eq_getD_getElem?, List.getElem?_toArray, List.getElem?_cons_succ, List.getElem?_cons_zero, Option.getD_some] at s31
              have s32 := hI.st 32 (off_of (by kernel_rfl))
              simp only [Array.getD_eq_getD_getElem?, List.getElem?_toArray, List.getElem?_cons_succ, List.getElem?_cons_zero, Option.getD_some] at s32
              have s33 := hI.st 33 (off_of (by kernel_rfl))
              simp only [Array.getD_eq_getD_getElem?, List.getElem?_toArray, List.getElem?_cons_succ, List.getElem?_cons_zero, Option.getD_some] at s33
              have s34 := hI.st 34 (off_of (by kernel_rfl))
              simp only [Array.getD_eq_getD_getElem?, List.getElem?_toArray, List.getElem?_cons_succ, List.getElem?_cons_zero, Option.getD_some] at s34
              have s35 := hI.st 35 (off_of (by kernel_rfl))
              simp only [Array.getD_eq_getD_getElem?, List.getElem?_toArray, List.getElem?_cons_succ, List.getElem?_cons_zero, Option.getD_some] at s35
              have s36 := hI.st 36 (off_of (by kernel_rfl))
              simp only [Array.getD_eq_getD_getElem?, List.getElem?_toArray, List.getElem?_cons_succ, List.getElem?_cons_zero, Option.getD_some] at s36
              have s37 := hI.st 37 (off_of (by kernel_rfl))
              simp only [Array.getD_eq_getD_getElem?, List.getElem?_toArray, List.getElem?_cons_succ, List.getElem?_cons_zero, Option.getD_some] at s37
              have s38 := hI.st 38 (off_of (by kernel_rfl))
              simp only [Array.getD_eq_getD_getElem?, List.getElem?_toArray, List.getElem?_cons_succ, List.getElem?_cons_zero, Option.getD_some] at s38
              have s39 := hI.st 39 (off_of (by kernel_rfl))
              simp only [Array.getD_eq_getD_getElem?, List.getElem?_toArray, List.getElem?_cons_succ, List.getElem?_cons_zero, Option.getD_some] at s39
              have s40 := hI.st 40 (off_of (by kernel_rfl))
              simp only [Array.getD_eq_getD_getElem?, List.getElem?_toArray, List.getElem?_cons_succ, List.getElem?_cons_zero, Option.getD_some] at s40
              have s41 := hI.st 41 (off_of (by kernel_rfl))
              simp only [Array.getD_eq_getD_getElem?, List.getElem?_toArray, List.getElem?_cons_succ, List.getElem?_cons_zero, Option.getD_some] at s41
              have s42 := hI.st 42 (off_of (by kernel_rfl))
              simp only [Array.getD_eq_getD_getElem?, List.getElem?_toArray, List.getElem?_cons_succ, List.getElem?_cons_zero, Option.getD_some] at s42
              have s43 := hI.st 43 (off_of (by kernel_rfl))
              simp only [Array.getD_eq_getD_getElem?, List.getElem?_toArray, List.getElem?_cons_succ, List.getElem?_cons_zero, Option.getD_some] at s43
              have s44 := hI.st 44 (off_of (by kernel_rfl))
              simp only [Array.getD_eq_getD_getElem?, List.getElem?_toArray, List.getElem?_cons_succ, List.getElem?_cons_zero, Option.getD_some] at s44
              have s45 := hI.st 45 (off_of (by kernel_rfl))
              simp only [Array.getD_eq_getD_getElem?, List.getElem?_toArray, List.getElem?_cons_succ, List.getElem?_cons_zero, Option.getD_some] at s45
              have s46 := hI.st 46 (off_of (by kernel_rfl))
              simp only [Array.getD_eq_getD_getElem?, List.getElem?_toArray, List.getElem?_cons_succ, List.getElem?_cons_zero, Option.getD_some] at s46
              have s47 := hI.st 47 (off_of (by kernel_rfl))
              simp only [Array.getD_eq_getD_getElem?, List.getElem?_toArray, List.getElem?_cons_succ, List.getElem?_cons_zero, Option.getD_some] at s47
              have s48 := hI.st 48 (off_of (by kernel_rfl))
              simp only [Array.getD_eq_getD_getElem?, List.getElem?_toArray, List.getElem?_cons_succ, List.getElem?_cons_zero, Option.getD_some] at s48
              have s49 := hI.st 49 (off_of (by kernel_rfl))
              simp only [Array.getD_eq_getD_getElem?, List.getElem?_toArray, List.getElem?_cons_succ, List.getElem?_cons_zero, Option.getD_some] at s49
              have s50 := hI.st 50 (off_of (by kernel_rfl))
              simp only [Array.getD_eq_getD_getElem?, List.getElem?_toArray, List.getElem?_cons_succ, List.getElem?_cons_zero, Option.getD_some] at s50
              have s51 := hI.st 51 (off_of (by kernel_rfl))
              simp only [Array.getD_eq_getD_getElem?, List.getElem?_toArray, List.getElem?_cons_succ, List.getElem?_cons_zero, Option.getD_some] at s51
              have s52 := hI.st 52 (off_of (by kernel_rfl))
              simp only [Array.getD_eq_getD_getElem?, List.getElem?_toArray, List.getElem?_cons_succ, List.getElem?_cons_zero, Option.getD_some] at s52
              have s53 := hI.st 53 (off_of (by kernel_rfl))
              simp only [Array.getD_eq_getD_getElem?, List.getElem?_toArray, List.getElem?_cons_succ, List.getElem?_cons_zero, Option.getD_some] at s53
              have s54 := hI.st 54 (off_of (by kernel_rfl))
              simp only [Array.getD_eq_getD_getElem?, List.getElem?_toArray, List.getElem?_cons_succ, List.getElem?_cons_zero, Option.getD_some] at s54
              have s55 := hI.st 55 (off_of (by kernel_rfl))
              simp only [Array.getD_eq_getD_getElem?, List.getElem?_toArray, List.getElem?_cons_succ, List.getElem?_cons_zero, Option.getD_some] at s55
              have s56 := hI.st 56 (off_of (by kernel_rfl))
              simp only [Array.getD_eq_getD_getElem?, List.getElem?_toArray, List.getElem?_cons_succ, List.getElem?_cons_zero, Option.getD_some] at s56
              have s57 := hI.st 57 (off_of (by kernel_rfl))
              simp only [Array.getD_eq_getD_getElem?, List.getElem?_toArray, List.getElem?_cons_succ, List.getElem?_cons_zero, Option.getD_some] at s57
              have s58 := hI.st 58 (off_of (by kernel_rfl))
              simp only [Array.getD_eq_getD_getElem?, List.getElem?_toArray, List.getElem?_cons_succ, List.getElem?_cons_zero, Option.getD_some] at s58
              have s59 := hI.st 59 (off_of (by kernel_rfl))
              simp only [Array.getD_eq_getD_getElem?, List.getElem?_toArray, List.getElem?_cons_succ, List.getElem?_cons_zero, Option.getD_some] at s59
              have s60 := hI.st 60 (off_of (by kernel_rfl))
              simp only [Array.getD_eq_getD_getElem?, List.getElem?_toArray, List.getElem?_cons_succ, List.getElem?_cons_zero, Option.getD_some] at s60
              have s61 := hI.st 61 (off_of (by kernel_rfl))
              simp only [Array.getD_eq_getD_getElem?, List.getElem?_toArray, List.getElem?_cons_succ, List.getElem?_cons_zero, Option.getD_some] at s61
              have s62 := hI.st 62 (off_of (by kernel_rfl))
              simp only [Array.getD_eq_getD_getElem?, List.getElem?_toArray, List.getElem?_cons_succ, List.getElem?_cons_zero, Option.getD_some] at s62
              have s63 := hI.st 63 (off_of (by kernel_rfl))
              simp only [Array.getD_eq_getD_getElem?, List.getElem?_toArray, List.getElem?_cons_succ, List.getElem?_cons_zero, Option.getD_some] at s63
              have s64 := hI.st 64 (off_of (by kernel_rfl))
              simp only [Array.getD_eq_getD_getElem?, List.getElem?_toArray, List.getElem?_cons_succ, List.getElem?_cons_zero, Option.getD_some] at s64
              have s65 := hI.st 65 (off_of (by kernel_rfl))
              simp only [Array.getD_eq_getD_getElem?, List.getElem?_toArray, List.getElem?_cons_succ, List.getElem?_cons_zero, Option.getD_some] at s65
              have s66 := hI.st 66 (off_of (by kernel_rfl))
              simp only [Array.getD_eq_getD_getElem?, List.getElem?_toArray, List.getElem?_cons_succ, List.getElem?_cons_zero, Option.getD_some] at s66
              have s67 := hI.st 67 (off_of (by kernel_rfl))
              simp only [Array.getD_eq_getD_getElem?, List.getElem?_toArray, List.getElem?_cons_succ, List.getElem?_cons_zero, Option.getD_some] at s67
              have s68 := hI.st 68 (off_of (by kernel_rfl))
              simp only [Array.getD_eq_getD_getElem?, List.getElem?_toArray, List.getElem?_cons_succ, List.getElem?_cons_zero, Option.getD_some] at s68
              have s69 := hI.st 69 (off_of (by kernel_rfl))
              simp only [Array.getD_eq_getD_getElem?, List.getElem?_toArray, List.getElem?_cons_succ, List.getElem?_cons_zero, Option.getD_some] at s69
              have s70 := hI.st 70 (off_of (by kernel_rfl))
              simp only [Array.getD_eq_getD_getElem?, List.getElem?_toArray, List.getElem?_cons_succ, List.getElem?_cons_zero, Option.getD_some] at s70
              have s71 := hI.st 71 (off_of (by kernel_rfl))
              simp only [Array.getD_eq_getD_getElem?, List.getElem?_toArray, List.getElem?_cons_succ, List.getElem?_cons_zero, Option.getD_some] at s71
              have s72 := hI.st 72 (off_of (by kernel_rfl))
              simp only [Array.getD_eq_getD_getElem?, List.getElem?_toArray, List.getElem?_cons_succ, List.getElem?_cons_zero, Option.getD_some] at s72
              have s73 := hI.st 73 (off_of (by kernel_rfl))
              simp only [Array.getD_eq_getD_getElem?, List.getElem?_toArray, List.getElem?_cons_succ, List.getElem?_cons_zero, Option.getD_some] at s73
              have s74 := hI.st 74 (off_of (by kernel_rfl))
              simp only [Array.getD_eq_getD_getElem?, List.getElem?_toArray, List.getElem?_cons_succ, List.getElem?_cons_zero, Option.getD_some] at s74
              have s75 := hI.st 75 (off_of (by kernel_rfl))
              simp only [Array.getD_eq_getD_getElem?, List.getElem?_toArray, List.getElem?_cons_succ, List.getElem?_cons_zero, Option.getD_some] at s75
              have s76 := hI.st 76 (off_of (by kernel_rfl))
              simp only [Array.getD_eq_getD_getElem?, List.getElem?_toArray, List.getElem?_cons_succ, List.getElem?_cons_zero, Option.getD_some] at s76
              have s77 := hI.st 77 (off_of (by kernel_rfl))
              simp only [Array.getD_eq_getD_getElem?, List.getElem?_toArray, List.getElem?_cons_succ, List.getElem?_cons_zero, Option.getD_some] at s77
              have s78 := hI.st 78 (off_of (by kernel_rfl))
              simp only [Array.getD_eq_getD_getElem?, List.getElem?_toArray, List.getElem?_cons_succ, List.getElem?_cons_zero, Option.getD_some] at s78
              have s79 := hI.st 79 (off_of (by kernel_rfl))
              simp only [Array.getD_eq_getD_getElem?, List.getElem?_toArray, List.getElem?_cons_succ, List.getElem?_cons_zero, Option.getD_some] at s79
              have s80 := hI.st 80 (off_of (by kernel_rfl))
              simp only [Array.getD_eq_getD_getElem?, List.getElem?_toArray, List.getElem?_cons_succ, List.getElem?_cons_zero, Option.getD_some] at s80
              have s81 := hI.st 81 (off_of (by kernel_rfl))
              simp only [Array.getD_eq_getD_getElem?, List.getElem?_toArray, List.getElem?_cons_succ, List.getElem?_cons_zero, Option.getD_some] at s81
              have s82 := hI.st 82 (off_of (by kernel_rfl))
              simp only [Array.getD_eq_getD_getElem?, List.getElem?_toArray, List.getElem?_cons_succ, List.getElem?_cons_zero, Option.getD_some] at s82
              have s83 := hI.st 83 (off_of (by kernel_rfl))
              simp only [Array.getD_eq_getD_getElem?, List.getElem?_toArray, List.getElem?_cons_succ, List.getElem?_cons_zero, Option.getD_some] at s83
              have s84 := hI.st 84 (off_of (by kernel_rfl))
              simp only [Array.getD_eq_getD_getElem?, List.getElem?_toArray, List.getElem?_cons_succ, List.getElem?_cons_zero, Option.getD_some] at s84
              have s85 := hI.st 85 (off_of (by kernel_rfl))
              simp only [Array.getD_eq_getD_getElem?, List.getElem?_toArray, List.getElem?_cons_succ, List.getElem?_cons_zero, Option.getD_some] at s85
              have s162 := hI.st 162 (off_of (by kernel_rfl))
              simp only [Array.getD_eq_getD_getElem?, List.getElem?_toArray, List.getElem?_cons_succ, List.getElem?_cons_zero, Option.getD_some] at s162
              have s163 := hI.st 163 (off_of (by kernel_rfl))
              simp only [Array.getD_eq_getD_getElem?, List.getElem?_toArray, List.getElem?_cons_succ, List.getElem?_cons_zero, Option.getD_some] at s163
              have s164 := hI.st 164 (off_of (by kernel_rfl))
              simp only [Array.getD_eq_getD_getElem?, List.getElem?_toArray, List.getElem?_cons_succ, List.getElem?_cons_zero, Option.getD_some] at s164
              have s165 := hI.st 165 (off_of (by kernel_rfl))
              simp only [Array.getD_eq_getD_getElem?, List.getElem?_toArray, List.getElem?_cons_succ, List.getElem?_cons_zero, Option.getD_some] at s165
              have s166 := hI.st 166 (off_of (by kernel_rfl))
              simp only [Array.getD_eq_getD_getElem?, List.getElem?_toArray, List.getElem?_cons_succ, List.getElem?_cons_zero, Option.getD_some] at s166
              have s167 := hI.st 167 (off_of (by kernel_rfl))
              simp only [Array.getD_eq_getD_getElem?, List.getElem?_toArray, List.getElem?_cons_succ, List.getElem?_cons_zero, Option.getD_some] at s167
              have s168 := hI.st 168 (off_of (by kernel_rfl))
              simp only [Array.getD_eq_getD_getElem?, List.getElem?_toArray, List.getElem?_cons_succ, List.getElem?_cons_zero, Option.getD_some] at s168
              have s169 := hI.st 169 (off_of (by kernel_rfl))
              simp only [Array.getD_eq_getD_getElem?, List.getElem?_toArray, List.getElem?_cons_succ, List.getElem?_cons_zero, Option.getD_some] at s169
              have s170 := hI.st 170 (off_of (by kernel_rfl))
              simp only [Array.getD_eq_getD_getElem?, List.getElem?_toArray, List.getElem?_cons_succ, List.getElem?_cons_zero, Option.getD_some] at s170
              have s171 := hI.st 171 (off_of (by kernel_rfl))
              simp only [Array.getD_eq_getD_getElem?, List.getElem?_toArray, List.getElem?_cons_succ, List.getElem?_cons_zero, Option.getD_some] at s171
              have s172 := hI.st 172 (off_of (by kernel_rfl))
              simp only [Array.getD_eq_getD_getElem?, List.getElem?_toArray, List.getElem?_cons_succ, List.getElem?_cons_zero, Option.getD_some] at s172
              have s173 := hI.st 173 (off_of (by kernel_rfl))
              simp only [Array.getD_eq_getD_getElem?, List.getElem?_toArray, List.getElem?_cons_succ, List.getElem?_cons_zero, Option.getD_some] at s173
              have s174 := hI.st 174 (off_of (by kernel_rfl))
              simp only [Array.getD_eq_getD_getElem?, List.getElem?_toArray, List.getElem?_cons_succ, List.getElem?_cons_zero, Option.getD_some] at s174
              have s175 := hI.st 175 (off_of (by kernel_rfl))
              simp only [Array.getD_eq_getD_getElem?, List.getElem?_toArray, List.getElem?_cons_succ, List.getElem?_cons_zero, Option.getD_some] at s175
              have s176 := hI.st 176 (off_of (by kernel_rfl))
              simp only [Array.getD_eq_getD_getElem?, List.getElem?_toArray, List.getElem?_cons_succ, List.getElem?_cons_zero, Option.getD_some] at s176
              have s177 := hI.st 177 (off_of (by kernel_rfl))
              simp only [Array.getD_eq_getD_getElem?, List.getElem?_toArray, List.getElem?_cons_succ, List.getElem?_cons_zero, Option.getD_some] at s177
              have s178 := hI.st 178 (off_of (by kernel_rfl))
              simp only [Array.getD_eq_getD_getElem?, List.getElem?_toArray, List.getElem?_cons_succ, List.getElem?_cons_zero, Option.getD_some] at s178
              have s179 := hI.st 179 (off_of (by kernel_rfl))
              simp only [Array.getD_eq_getD_getElem?, List.getElem?_toArray, List.getElem?_cons_succ, List.getElem?_cons_zero, Option.getD_some] at s179
              rw [show (⟨tm, []⟩ : Act) = ⟨#[tm[0]?.getD undef, tm[1]?.getD undef, tm[2]?.getD undef, tm[3]?.getD undef, tm[4]?.getD undef, tm[5]?.getD undef, tm[6]?.getD undef, tm[7]?.getD undef, tm[8]?.getD undef, tm[9]?.getD undef, tm[10]?.getD undef, tm[11]?.getD undef, tm[12]?.getD undef, tm[13]?.getD undef, tm[14]?.getD undef, tm[15]?.getD undef, tm[16]?.getD undef, tm[17]?.getD undef, tm[18]?.getD undef, tm[19]?.getD undef, tm[20]?.getD undef, tm[21]?.getD undef, tm[22]?.getD undef, tm[23]?.getD undef, tm[24]?.getD undef, tm[25]?.getD undef, tm[26]?.getD undef, tm[27]?.getD undef, tm[28]?.getD undef, tm[29]?.getD undef, tm[30]?.getD undef, tm[31]?.getD undef, tm[32]?.getD undef, tm[33]?.getD undef, tm[34]?.getD undef, tm[35]?.getD undef, tm[36]?.getD undef, tm[37]?.getD undef, tm[38]?.getD undef, tm[39]?.getD undef, tm[40]?.getD undef, tm[41]?.getD undef, tm[42]?.getD undef, tm[43]?.getD undef, tm[44]?.getD undef, tm[45]?.getD undef, tm[46]?.getD undef, tm[47]?.getD undef, tm[48]?.getD undef, tm[49]?.getD undef, tm[50]?.getD undef, tm[51]?.getD undef, tm[52]?.getD undef, tm[53]?.getD undef, tm[54]?.getD undef, tm[55]?.getD undef, tm[56]?.getD undef, tm[57]?.getD undef, tm[58]?.getD undef, tm[59]?.getD undef, tm[60]?.getD undef, tm[61]?.getD undef, tm[62]?.getD undef, tm[63]?.getD undef, tm[64]?.getD undef, tm[65]?.getD undef, tm[66]?.getD undef, tm[67]?.getD undef, tm[68]?.getD undef, tm[69]?.getD undef, tm[70]?.getD undef, tm[71]?.getD undef, tm[72]?.getD undef, tm[73]?.getD undef, tm[74]?.getD undef, tm[75]?.getD undef, tm[76]?.getD undef, tm[77]?.getD undef, tm[78]?.getD undef, tm[79]?.getD undef, tm[80]?.getD undef, tm[81]?.getD undef, tm[82]?.getD undef, tm[83]?.getD undef, tm[84]?.getD undef, tm[85]?.getD undef, tm[86]?.getD undef, tm[87]?.getD undef, tm[88]?.getD undef, tm[89]?.getD undef, tm[90]?.getD undef, tm[91]?.getD undef, tm[92]?.getD undef, tm[93]?.getD undef, tm[94]?.getD undef, tm[95]?.getD undef, tm[96]?.getD undef, tm[97]?.getD undef, tm[98]?.getD undef, tm[99]?.getD undef, tm[100]?.getD undef, tm[101]?.getD undef, tm[102]?.getD undef, tm[103]?.getD undef, tm[104]?.getD undef, tm[105]?.getD undef, tm[106]?.getD undef, tm[107]?.getD undef, tm[108]?.getD undef, tm[109]?.getD undef, tm[110]?.getD undef, tm[111]?.getD undef, tm[112]?.getD undef, tm[113]?.getD undef, tm[114]?.getD undef, tm[115]?.getD undef, tm[116]?.getD undef, tm[117]?.getD undef, tm[118]?.getD undef, tm[119]?.getD undef, tm[120]?.getD undef, tm[121]?.getD undef, tm[122]?.getD undef, tm[123]?.getD undef, tm[124]?.getD undef, tm[125]?.getD undef, tm[126]?.getD undef, tm[127]?.getD undef, tm[128]?.getD undef, tm[129]?.getD undef, tm[130]?.getD undef, tm[131]?.getD undef, tm[132]?.getD undef, tm[133]?.getD undef, tm[134]?.getD undef, tm[135]?.getD undef, tm[136]?.getD undef, tm[137]?.getD undef, tm[138]?.getD undef, tm[139]?.getD undef, tm[140]?.getD undef, tm[141]?.getD undef, tm[142]?.getD undef, tm[143]?.getD undef, tm[144]?.getD undef, tm[145]?.getD undef, tm[146]?.getD undef, tm[147]?.getD undef, tm[148]?.getD undef, tm[149]?.getD undef, tm[150]?.getD undef, tm[151]?.getD undef, tm[152]?.getD undef, tm[153]?.getD undef, tm[154]?.getD undef, tm[155]?.getD undef, tm[156]?.getD undef, tm[157]?.getD undef, tm[158]?.getD undef, tm[159]?.getD undef, tm[160]?.getD undef, tm[161]?.getD undef, tm[162]?.getD undef, tm[163]?.getD undef, tm[164]?.getD undef, tm[165]?.getD undef, tm[166]?.getD undef, tm[167]?.getD undef, tm[168]?.getD undef, tm[169]?.getD undef, tm[170]?.getD undef, tm[171]?.getD undef, tm[172]?.getD undef, tm[173]?.getD undef, tm[174]?.getD undef, tm[175]?.getD undef, tm[176]?.getD undef, tm[177]?.getD undef, tm[178]?.getD undef, tm[179]?.getD undef], []⟩ from congrArg (fun q => (⟨q, []⟩ : Act)) harr']
              rw [hv161, s0, s1, s2, s3, s4, s5, s6, s7, s8, s9, s10, s11, s12, s13, s14, s15, s16, s17, s18, s19, s20, s21, s22, s23, s24, s25, s26, s27, s28, s29, s30, s31, s32, s33, s34, s35, s36, s37, s38, s39, s40, s41, s42, s43, s44, s45, s46, s47, s48, s49, s50, s51, s52, s53, s54, s55, s56, s57, s58, s59, s60, s61, s62, s63, s64, s65, s66, s67, s68, s69, s70, s71, s72, s73, s74, s75, s76, s77, s78, s79, s80, s81, s82, s83, s84, s85, s162, s163, s164, s165, s166, s167, s168, s169, s170, s171, s172, s173, s174, s175, s176, s177, s178, s179]
              clear harr harr' hI
              have HBS := Aside0.mk (H.out.trans (hBQ.mono H.out.size))
              clear hBQ
              go_wp2
              go_meet
              case rel => exact ⟨rfl, HBS⟩
          case rest =>
            clear H
            obtain ⟨rfl, H⟩ := hcut
            go_wp2
            go_roundg (r.length - (j + 1))
            case measure => omega
            case rel => exact ⟨j + 1, by omega, by simp, H⟩
        · have hltz : ¬ (j : Int) < (r.length : Int) := by omega
          clear hlt hj
          cases hv : decide (voidP x g) with
          | false =>
            go_wp2_with fail
            refine (Void_any A ca x g _ (k29_reads (Kd.C_below HX5.out H.out)) (by omega) HWX.out HIG.out).mono ?_
            rintro e w20 ⟨rfl, hb20⟩
            have H20 := Aside0.mk (HB5.out.trans ((H.out.trans (hb20.mono H.out.size)).mono HB5.out.size))
            clear hb20
            rw [hv]
            go_wp2
            go_ret
            exact ⟨rfl, H20.out⟩
          | true =>
            have HVR : Aside0 (voidP r g) := ⟨by
              obtain ⟨a, ha, b, hb, h⟩ := of_decide_eq_true hv
              exact ⟨a, HRX.out a ha, b, HRX.out b hb, h⟩⟩
            go_wp2_with fail
            refine (Void_any A ca x g _ (k29_reads (Kd.C_below HX5.out H.out)) (by omega) HWX.out HIG.out).mono ?_
            rintro e w20 ⟨rfl, hb20⟩
            have H20 := Aside0.mk (H.out.trans (hb20.mono H.out.size))
            clear hb20 H
            rw [hv]
            go_wp2_with fail
            refine (Void_any D cd r g _ (k29_reads (Kd.C_below HKR.out H20.out)) (by omega) (fun t ht => (HRY.out t ht).elim (HWX.out t) (HWY.out t)) HIG.out).mono ?_
            rintro e w21 ⟨rfl, hb21⟩
            have H21 := Aside0.mk (HB5.out.trans ((H20.out.trans (hb21.mono H20.out.size)).mono HB5.out.size))
            clear hb21 H20
            rw [decide_eq_true HVR.out]
            go_wp2
            go_ret
            exact ⟨rfl, H21.out⟩
end Go.Proofs.YtioekkdodggakaaDoor.G
