/-
  Several texts in one: HLen, K42, K43, E1.
-/
import Derived.Test.YtehieahpocbboaaK0
import Derived.Test.YtehieahpocbboaaShelf
import Derived.Lib.ItoaNum
/-
  math/bits.Len64 in the printed form: the shelf's contract.
-/
namespace Go.Proofs.Ytehieahpocbboaa.G
open Go.RowKit Go.Proofs.YtehieahpocbboaaW.PrintWords Go.Proofs.YtehieahpocbboaaW.PrintLast Go.Proofs.YtehieahpocbboaaW.PrintMore
def bits_Len64.f (a0 : Int) : Option Int := if 0 ≤ a0 ∧ a0 ≤ 18446744073709551615 then some (Lib.bitLen a0.toNat : Nat) else none
theorem bits_Len64.calls (a0 : Int) (r : Int) (w : World) (h : bits_Len64.f a0 = some r) :
    Calls Try.prog 67 #[.int .u64 a0] w fun e w' => e = .returned (.int .i64 r) ∧ Below w.heap.size w w' := by
  unfold bits_Len64.f at h
  split at h
  · rename_i hb
    obtain rfl := Option.some.inj h
    refine (Try.bits_Len64 a0 w hb.1 hb.2).mono ?_
    rintro e w' ⟨rfl, rfl⟩
    exact ⟨rfl, Below.refl _ _⟩
  · cases h
end Go.Proofs.Ytehieahpocbboaa.G
-- K42
namespace Go.Proofs.Ytehieahpocbboaa.G
open Go.RowKit Go.Proofs.YtehieahpocbboaaW.PrintWords Go.Proofs.YtehieahpocbboaaW.PrintLast Go.Proofs.YtehieahpocbboaaW.PrintMore
attribute [local go_sem] max2_int min2_int max_two min_two max_three min_three max_four min_four   -- for this text's walks alone
set_option linter.unusedVariables false
set_option linter.unusedSimpArgs false

/-! ### wire_size: function 50 -/
def wire_size.f (a0 : Int) : Option (Int) := (bits_Len64.f a0).bind fun t372 => (some (wrap64 (Int.tdiv (wrap64 (t372 + 7)) 8)))
set_option maxHeartbeats 8000000 in
set_option maxRecDepth 100000 in
theorem wire_size.calls (a0 : Int) (r : Int) (w : World) (h : wire_size.f a0 = some r) :
    Calls Try.prog 50 #[.int .u64 a0] w fun e w' => e = .returned (.int .i64 r) ∧ Below w.heap.size w w' := by
  have HB := Aside0.mk (Below.refl w.heap.size w)
  have H : ((bits_Len64.f a0).bind fun t372 => (some (wrap64 (Int.tdiv (wrap64 (t372 + 7)) 8)))) = some r := h
  clear h
  replace H := Option.bind_eq_some_iff.mp H
  obtain ⟨t372, A20, H⟩ := H
  replace H : (some (wrap64 (Int.tdiv (wrap64 (t372 + 7)) 8))) = some r := H
  have A2 := Aside0.mk A20
  clear A20
  obtain rfl := Option.some.inj H
  go_enter Try.func50, Try.ntmps50
  go_wp2_with (first | ((with_reducible refine gate_callee (f := 67) rfl ?_); refine goesL_ (some 4) rfl rfl Try.func67 (by kernel_rfl) rfl #[.int .u64 a0] rfl (by (try simp only [List.map_toArray, List.map_cons, List.map_nil]); first | done | rfl | (simp only [List.length_drop, List.length_take]; rfl)) ?_; (with_reducible refine (bits_Len64.calls a0 t372 _ A2.out).mono ?_); rintro e w3 ⟨rfl, hb⟩; refine ⟨_, rfl, ?_⟩; have n0_ := Aside0.mk (below_step (by repeat (first | (with_reducible first | exact HB.out | apply below_alloc | apply pw_below_drewN | apply below_drew1) | exact HB.out)) hb); clear HB; have HB := n0_; clear n0_; (try clear hb); (try clear hb2); (try clear hk); (try clear hi)))
  go_ret
  exact ⟨by first | rfl | (simp [errW_none, errW_some] <;> rfl) | (simp [*, errW_none, errW_some] <;> rfl), by repeat (first | (with_reducible first | exact HB.out | apply below_alloc | apply pw_below_drewN | apply below_drew1) | exact HB.out)⟩

end Go.Proofs.Ytehieahpocbboaa.G
-- K43
namespace Go.Proofs.Ytehieahpocbboaa.G
open Go.RowKit Go.Proofs.YtehieahpocbboaaW.PrintWords Go.Proofs.YtehieahpocbboaaW.PrintLast Go.Proofs.YtehieahpocbboaaW.PrintMore
attribute [local go_sem] max2_int min2_int max_two min_two max_three min_three max_four min_four   -- for this text's walks alone
set_option linter.unusedVariables false
set_option linter.unusedSimpArgs false

/-! ### wire_Int: function 33 -/
mutual
def wire_Int.j0 : Nat → Int → Int → Int → Option (ByteArray)
  | 0, _, _, _ => none
  | k + 1, x0, x3, x4 => (wire_size.f x3).bind fun t373 => (if x0 < 0 then (wire_Int.j1 k x3 x4 t373 ((wrap64 (127 - t373)) % 256)) else (wire_Int.j1 k x3 x4 t373 ((wrap64 (128 + t373)) % 256)))
def wire_Int.j1 : Nat → Int → Int → Int → Int → Option (ByteArray)
  | 0, _, _, _, _ => none
  | k + 1, x3, x4, x5, x6 => wire_Int.l0 k x3 x4 (([x6] : List Int)) (wrap64 (x5 - 1))
def wire_Int.l0 : Nat → Int → Int → List Int → Int → Option (ByteArray)
  | 0, _, _, _, _ => none
  | k + 1, x3, x4, x7, x8 => if x8 ≥ 0 then (if 0 ≤ (wrap64 (8 * x8)) then (if x7.length < 140737488355328 then (wire_Int.l0 k x3 x4 (x7 ++ [Go.bits .xor .u8 ((shr .u64 x3 (wrap64 (8 * x8))) % 256) x4]) (wrap64 (x8 - 1))) else (none)) else (none)) else (some (strOfNums x7))
end
def wire_Int.f (k : Nat) (a0 : Int) : Option (ByteArray) := if a0 < 0 then (wire_Int.j0 k a0 (Go.bits .xor .u64 18446744073709551615 (IntKind.u64.wrap (a0))) 255) else (wire_Int.j0 k a0 (IntKind.u64.wrap (a0)) 0)
theorem wire_Int.mono_l : ∀ k, (∀ y0 y1 y2, LeO (wire_Int.j0 k y0 y1 y2) (wire_Int.j0 (k + 1) y0 y1 y2)) ∧ (∀ y0 y1 y2 y3, LeO (wire_Int.j1 k y0 y1 y2 y3) (wire_Int.j1 (k + 1) y0 y1 y2 y3)) ∧ (∀ y0 y1 y2 y3, LeO (wire_Int.l0 k y0 y1 y2 y3) (wire_Int.l0 (k + 1) y0 y1 y2 y3))
  | 0 => ⟨fun _ _ _ r h => by simp [wire_Int.j0] at h, fun _ _ _ _ r h => by simp [wire_Int.j1] at h, fun _ _ _ _ r h => by simp [wire_Int.l0] at h⟩
  | k + 1 => by
    obtain ⟨ih0, ih1, ih2⟩ := wire_Int.mono_l k
    refine ⟨?_, ?_, ?_⟩
    · intro y0 y1 y2
      unfold wire_Int.j0
      repeat' first
      | (with_reducible exact ih0 _ _ _)
      | (with_reducible exact ih1 _ _ _ _)
      | (with_reducible exact ih2 _ _ _ _)
      | (with_reducible exact LeO.refl _)
      | (with_reducible exact LeO.none _)
      | (with_reducible refine LeO.ite ?_ ?_)
      | (with_reducible refine LeO.bind ?_ (fun _ => ?_))
      | exact ih0 _ _ _
      | exact ih1 _ _ _ _
      | exact ih2 _ _ _ _
      | exact LeO.none _
      | refine LeO.ite ?_ ?_
      | refine LeO.bind ?_ (fun _ => ?_)
    · intro y0 y1 y2 y3
      unfold wire_Int.j1
      repeat' first
      | (with_reducible exact ih0 _ _ _)
      | (with_reducible exact ih1 _ _ _ _)
      | (with_reducible exact ih2 _ _ _ _)
      | (with_reducible exact LeO.refl _)
      | (with_reducible exact LeO.none _)
      | (with_reducible refine LeO.ite ?_ ?_)
      | (with_reducible refine LeO.bind ?_ (fun _ => ?_))
      | exact ih0 _ _ _
      | exact ih1 _ _ _ _
      | exact ih2 _ _ _ _
      | exact LeO.none _
      | refine LeO.ite ?_ ?_
      | refine LeO.bind ?_ (fun _ => ?_)
    · intro y0 y1 y2 y3
      unfold wire_Int.l0
      repeat' first
      | (with_reducible exact ih0 _ _ _)
      | (with_reducible exact ih1 _ _ _ _)
      | (with_reducible exact ih2 _ _ _ _)
      | (with_reducible exact LeO.refl _)
      | (with_reducible exact LeO.none _)
      | (with_reducible refine LeO.ite ?_ ?_)
      | (with_reducible refine LeO.bind ?_ (fun _ => ?_))
      | exact ih0 _ _ _
      | exact ih1 _ _ _ _
      | exact ih2 _ _ _ _
      | exact LeO.none _
      | refine LeO.ite ?_ ?_
      | refine LeO.bind ?_ (fun _ => ?_)
theorem wire_Int.mono : ∀ a0 k, LeO (wire_Int.f k a0) (wire_Int.f (k + 1) a0) := by
  intro a0 k
  obtain ⟨ih0, ih1, ih2⟩ := wire_Int.mono_l k
  unfold wire_Int.f
  repeat' first
      | (with_reducible exact ih0 _ _ _)
      | (with_reducible exact ih1 _ _ _ _)
      | (with_reducible exact ih2 _ _ _ _)
      | (with_reducible exact LeO.refl _)
      | (with_reducible exact LeO.none _)
      | (with_reducible refine LeO.ite ?_ ?_)
      | (with_reducible refine LeO.bind ?_ (fun _ => ?_))
      | exact ih0 _ _ _
      | exact ih1 _ _ _ _
      | exact ih2 _ _ _ _
      | exact LeO.none _
      | refine LeO.ite ?_ ?_
      | refine LeO.bind ?_ (fun _ => ?_)
set_option maxHeartbeats 8000000 in
set_option maxRecDepth 100000 in
theorem wire_Int.calls (k : Nat) (a0 : Int) (r : ByteArray) (w : World) (h : wire_Int.f k a0 = some r) :
    Calls Try.prog 33 #[.int .i64 a0] w fun e w' => e = .returned (.string r) ∧ Below w.heap.size w w' := by
  have HB := Aside0.mk (Below.refl w.heap.size w)
  have H : (if a0 < 0 then (wire_Int.j0 k a0 (Go.bits .xor .u64 18446744073709551615 (IntKind.u64.wrap (a0))) 255) else (wire_Int.j0 k a0 (IntKind.u64.wrap (a0)) 0)) = some r := h
  clear h
  have HC2 := Aside0.mk H
  clear H
  go_enter Try.func33, Try.ntmps33
  go_upto_if 12 with (fail)
  go_cut [3, 4] (fun v3 v4 wc => ∃ (kq : Nat) (x3_1 : Int) (x4_1 : Int), v3 = .int .u64 x3_1 ∧ v4 = .int .u8 x4_1 ∧ Aside0 (wire_Int.j0 kq a0 x3_1 x4_1 = some r) ∧ Aside0 (kq ≤ k) ∧ Aside0 (Below w.heap.size w wc))
  case first =>
    have H := HC2.out
    clear HC2
    by_cases c3 : a0 < 0
    · rw [if_pos c3] at H
      have c3b0 : decide (a0 < 0) = true := decide_eq_true c3
      clear c3
      (first | rw [c3b0] | (simp only [i64_w, i32_w]; rw [c3b0]) | skip)
      have H' := Aside0.mk H
      clear H
      go_wp2
      go_meet
      case rel => exact ⟨_, (Go.bits .xor .u64 18446744073709551615 (IntKind.u64.wrap (a0))), (255), (by first | rfl | (simp; done) | (simp [*]; done)), (by first | rfl | (simp; done) | (simp [*]; done)), H', ⟨by first | omega | exact Nat.le_refl _⟩, ⟨by repeat (first | (with_reducible first | exact HB.out | apply below_alloc | apply pw_below_drewN | apply below_drew1) | exact HB.out)⟩⟩
    · rw [if_neg c3] at H
      have c3b0 : decide (a0 < 0) = false := decide_eq_false c3
      clear c3
      (first | rw [c3b0] | (simp only [i64_w, i32_w]; rw [c3b0]) | skip)
      have H' := Aside0.mk H
      clear H
      go_wp2
      go_meet
      case rel => exact ⟨_, (IntKind.u64.wrap (a0)), (0), (by first | rfl | (simp; done) | (simp [*]; done)), (by first | rfl | (simp; done) | (simp [*]; done)), H', ⟨by first | omega | exact Nat.le_refl _⟩, ⟨by repeat (first | (with_reducible first | exact HB.out | apply below_alloc | apply pw_below_drewN | apply below_drew1) | exact HB.out)⟩⟩
  case rest =>
    clear HC2
    try clear p2
    try clear c3
    try clear c3b0
    obtain ⟨kq, x3_1, x4_1, rfl, rfl, HA, HJ1, HB⟩ := hcut
    cases kq with
    | zero => exact absurd HA.out (by simp [wire_Int.j0])
    | succ kj1 =>
      have H := HA.out
      clear HA
      simp only [wire_Int.j0] at H
      replace H := Option.bind_eq_some_iff.mp H
      obtain ⟨t373, A40, H⟩ := H
      replace H : (if a0 < 0 then (wire_Int.j1 kj1 x3_1 x4_1 t373 ((wrap64 (127 - t373)) % 256)) else (wire_Int.j1 kj1 x3_1 x4_1 t373 ((wrap64 (128 + t373)) % 256))) = some r := H
      have A4 := Aside0.mk A40
      clear A40
      have HC5 := Aside0.mk H
      clear H
      go_upto_if 21 with (first | ((with_reducible refine gate_callee (f := 50) rfl ?_); refine goesL_ (some 16) rfl rfl Try.func50 (by kernel_rfl) rfl #[.int .u64 x3_1] rfl (by (try simp only [List.map_toArray, List.map_cons, List.map_nil]); first | done | rfl | (simp only [List.length_drop, List.length_take]; rfl)) ?_; (with_reducible refine (wire_size.calls x3_1 t373 _ A4.out).mono ?_); rintro e w6 ⟨rfl, hb⟩; refine ⟨_, rfl, ?_⟩; have n0_ := Aside0.mk (below_step (by repeat (first | (with_reducible first | exact HB.out | apply below_alloc | apply pw_below_drewN | apply below_drew1) | exact HB.out)) hb); clear HB; have HB := n0_; clear n0_; (try clear hb); (try clear hb2); (try clear hk); (try clear hi)))
      (try simp only [Act.put, List.setIfInBounds_toArray, List.set_cons_zero, List.set_cons_succ])
      go_cut [6] (fun v6 wc => ∃ (kq : Nat) (x6_4 : Int), v6 = .int .u8 x6_4 ∧ Aside0 (wire_Int.j1 kq x3_1 x4_1 t373 x6_4 = some r) ∧ Aside0 (kq ≤ kj1) ∧ Aside0 (Below w.heap.size w wc))
      case first =>
        have H := HC5.out
        clear HC5
        by_cases c7 : a0 < 0
        · rw [if_pos c7] at H
          have c7b0 : decide (a0 < 0) = true := decide_eq_true c7
          clear c7
          (first | rw [c7b0] | (simp only [i64_w, i32_w]; rw [c7b0]) | skip)
          have H' := Aside0.mk H
          clear H
          go_wp2
          go_meet
          case rel => exact ⟨_, ((wrap64 (127 - t373)) % 256), (by first | rfl | (simp; done) | (simp [*]; done)), H', ⟨by have := HJ1.out; first | omega | exact Nat.le_refl _⟩, ⟨by repeat (first | (with_reducible first | exact HB.out | apply below_alloc | apply pw_below_drewN | apply below_drew1) | exact HB.out)⟩⟩
        · rw [if_neg c7] at H
          have c7b0 : decide (a0 < 0) = false := decide_eq_false c7
          clear c7
          (first | rw [c7b0] | (simp only [i64_w, i32_w]; rw [c7b0]) | skip)
          have H' := Aside0.mk H
          clear H
          go_wp2
          go_meet
          case rel => exact ⟨_, ((wrap64 (128 + t373)) % 256), (by first | rfl | (simp; done) | (simp [*]; done)), H', ⟨by have := HJ1.out; first | omega | exact Nat.le_refl _⟩, ⟨by repeat (first | (with_reducible first | exact HB.out | apply below_alloc | apply pw_below_drewN | apply below_drew1) | exact HB.out)⟩⟩
      case rest =>
        clear HC5
        try clear p2
        try clear c3
        try clear c3b0
        try clear c5
        try clear p6
        try clear c7
        try clear c7b0
        try clear p2
        obtain ⟨kq, x6_4, rfl, HA, HJ4, HB⟩ := hcut
        cases kq with
        | zero => exact absurd HA.out (by simp [wire_Int.j1])
        | succ kj4 =>
          have H := HA.out
          clear HA
          simp only [wire_Int.j1] at H
          obtain ⟨y374, hy374⟩ : ∃ y_ : List Int, y_ = (([x6_4] : List Int)) := ⟨_, rfl⟩
          replace H : (wire_Int.l0 kj4 x3_1 x4_1 y374 (wrap64 (t373 - 1))) = some r := by first | (rw [hy374]; with_reducible exact H) | (have H2_ := (Option.bind_some _ _).symm.trans H; rw [hy374]; with_reducible exact H2_) | (have H2_ := (Option.bind_some _ _).symm.trans H; with_reducible exact H2_) | with_reducible exact H | (rw [hy374]; exact H) | exact H
          have Ny374 := Aside0.mk hy374
          clear hy374
          have H' := Aside0.mk H
          clear H
          go_wp2_with (first | ((with_reducible refine gate_dst (N := 26) rfl ?_); refine Kd.R_lit (Kd.int .u8) _ 5 ?hg (N := 26) ?hd (xs := ([x6_4] : List Int)) (inner := [.int .u8 x6_4]) (ok := fun _ => True) (okp := fun _ => True) ?hr ?hp (fun _ hk => hk) trivial (Below.refl _ _) (Nat.le_refl _) (by simp) ?_; (case hd => rfl); (case hg => rfl); (case hr => first | (go_simp; done) | (go_simp; rfl)); (case hp => exact (Reps.one (show Kd.M (Kd.int .u8) _ _ _ x6_4 [.int .u8 x6_4] from rfl) (Reps.none _ _))); intro v375 w8 ho9 hb hg_ hnew_; clear hg_ hnew_; (first | rw [← Ny374.out] at ho9 | (simp only [Int.reduceToNat] at ho9; rw [← Ny374.out] at ho9)); have n0_ := Aside0.mk (Kd.R_lower ho9 (below_size (by repeat (first | (with_reducible first | exact HB.out | apply below_alloc | apply pw_below_drewN | apply below_drew1) | exact HB.out)))); have n1_ := Aside0.mk (below_step (by repeat (first | (with_reducible first | exact HB.out | apply below_alloc | apply pw_below_drewN | apply below_drew1) | exact HB.out)) hb); clear HB; have HO376 := n0_; have HB := n1_; clear n0_ n1_; clear hb ho9))
          go_loopg [7, 8] kj4 (fun kq v7 v8 w' => ∃ (x7_3 : List Int) (x8_3 : Int), v8 = .int .i64 x8_3 ∧ Aside0 (wire_Int.l0 kq x3_1 x4_1 x7_3 x8_3 = some r) ∧ Aside0 (kq ≤ kj4) ∧ Aside0 (Kd.R (Kd.int .u8) 5 w' w.heap.size (fun _ => True) v7 x7_3) ∧ Aside0 (Below w.heap.size w w'))
          case atStart => exact ⟨(y374), (wrap64 (t373 - 1)), (by first | rfl | (simp; done) | (simp [*]; done)), H', ⟨Nat.le_refl _⟩, ⟨by (with_reducible repeat (first | apply Kd.R_alloc | apply Kd.R_drewN | apply Kd.R_drew)); exact HO376.out⟩, ⟨by repeat (first | (with_reducible first | exact HB.out | apply below_alloc | apply pw_below_drewN | apply below_drew1) | exact HB.out)⟩⟩
          case round =>
            clear H'
            try clear p2
            try clear c3
            try clear c3b0
            try clear c5
            try clear p6
            try clear c7
            try clear c7b0
            try clear p2
            try clear p6
            obtain ⟨x7_3, x8_3, rfl, HA, HK3, HO_7, HB⟩ := hrel
            cases gk with
            | zero => exact absurd HA.out (by simp [wire_Int.l0])
            | succ k3 =>
              have H := HA.out
              clear HA
              simp only [wire_Int.l0] at H
              by_cases c10 : x8_3 ≥ 0
              · rw [if_pos c10] at H
                have c10b0 : decide (0 ≤ x8_3) = true := decide_eq_true c10
                clear c10
                obtain ⟨ji11, hji11⟩ : ∃ j_ : Int, (wrap64 (8 * x8_3)) = j_ := ⟨_, rfl⟩
                replace H : (if 0 ≤ (ji11) then (if x7_3.length < 140737488355328 then (wire_Int.l0 k3 x3_1 x4_1 (x7_3 ++ [Go.bits .xor .u8 ((shr .u64 x3_1 (ji11)) % 256) x4_1]) (wrap64 (x8_3 - 1))) else (none)) else (none)) = some r := by first | (rw [hji11] at H; exact H) | (simp only [hji11] at H ⊢; exact H)
                have hji11w : (IntKind.i64.wrap (8 * x8_3)) = ji11 := (i64_w _).trans hji11
                by_cases c12 : 0 ≤ (ji11)
                · rw [if_pos c12] at H
                  have c12b0 := eq_true c12
                  have c12b1 : decide (0 ≤ (ji11)) = true := decide_eq_true c12
                  clear c12
                  obtain ⟨ji13, hji13⟩ : ∃ j_ : Int, (shr .u64 x3_1 (ji11)) = j_ := ⟨_, rfl⟩
                  replace H : (if x7_3.length < 140737488355328 then (wire_Int.l0 k3 x3_1 x4_1 (x7_3 ++ [Go.bits .xor .u8 ((ji13) % 256) x4_1]) (wrap64 (x8_3 - 1))) else (none)) = some r := by first | (rw [hji13] at H; exact H) | (simp only [hji13] at H ⊢; exact H)
                  have hji13_ : (x3_1 / 2 ^ min (ji11).toNat 64) = ji13 := hji13
                  have hji13z : (ji11) ≤ 64 → (x3_1 / 2 ^ (ji11).toNat) = ji13 := shr_small hji13
                  by_cases c14 : x7_3.length < 140737488355328
                  · rw [if_pos c14] at H
                    have LMc14 := Aside0.mk c14
                    clear c14
                    obtain ⟨y377, hy377⟩ : ∃ y_ : List Int, y_ = (x7_3 ++ [Go.bits .xor .u8 ((ji13) % 256) x4_1]) := ⟨_, rfl⟩
                    replace H : (wire_Int.l0 k3 x3_1 x4_1 y377 (wrap64 (x8_3 - 1))) = some r := by first | (rw [hy377]; with_reducible exact H) | (have H2_ := (Option.bind_some _ _).symm.trans H; rw [hy377]; with_reducible exact H2_) | (have H2_ := (Option.bind_some _ _).symm.trans H; with_reducible exact H2_) | with_reducible exact H | (rw [hy377]; exact H) | exact H
                    have Ny377 := Aside0.mk hy377
                    clear hy377
                    have H' := Aside0.mk H
                    clear H
                    go_wp2_with (first | ((with_reducible refine gate_builtin (b := .append) (xs := #[.tmp 33, .tmp 41]) rfl ?_); at_builtin; refine Kd.R_append (Kd.int .u8) (w0 := w) w.heap.size rfl (.tmp 33) (.tmp 41) 70 5 (.int .u8 0) 1 rfl Try.underlying70 info5 rfl (by decide) (by omega) u7 x7_3 (Go.bits .xor .u8 ((ji13) % 256) x4_1) [.int .u8 (Go.bits .xor .u8 ((ji13) % 256) x4_1)] (fun _ => True) (fun _ => False) rfl rfl ?aP (fun _ hk => hk.elim) ?aF ?aO ?aB ?aS ?aL ?_; (case aP => exact rfl); (case aB => exact (by repeat (first | (with_reducible first | exact HB.out | apply below_alloc | apply pw_below_drewN | apply below_drew1) | exact HB.out))); (case aF => exact (fun _ _ => trivial)); (case aO => exact (by (with_reducible repeat (first | apply Kd.R_alloc | apply Kd.R_drewN | apply Kd.R_drew)); exact HO_7.out)); (case aS => exact (below_size (by repeat (first | (with_reducible first | exact HB.out | apply below_alloc | apply pw_below_drewN | apply below_drew1) | exact HB.out)))); (case aL => have := LMc14.out; omega); intro v378 w15 ho hb hg hat; rw [← Ny377.out] at ho; have n0_ := Aside0.mk (hb); have n1_ := Aside0.mk (ho); clear HB; clear HO_7; have HB := n0_; have HO379 := n1_; clear n0_ n1_; clear ho hb hg hat))
                    go_roundg k3
                    case measure => have := HJ1.out; have := HJ4.out; have := HK3.out; omega
                    case rel => exact ⟨(y377), (wrap64 (x8_3 - 1)), (by first | rfl | (simp; done) | (simp [*]; done)), H', ⟨by have := HJ1.out; have := HJ4.out; have := HK3.out; omega⟩, ⟨by (with_reducible repeat (first | apply Kd.R_alloc | apply Kd.R_drewN | apply Kd.R_drew)); exact HO379.out⟩, ⟨by repeat (first | (with_reducible first | exact HB.out | apply below_alloc | apply pw_below_drewN | apply below_drew1) | exact HB.out)⟩⟩
                  · rw [if_neg c14] at H
                    exact absurd H (by simp)
                · rw [if_neg c12] at H
                  exact absurd H (by simp)
              · rw [if_neg c10] at H
                have c10b0 : decide (0 ≤ x8_3) = false := decide_eq_false c10
                clear c10
                obtain rfl := Option.some.inj H
                have hcv16 := own_string (P := Try.prog) Try.underlying70 Try.underlying5 Try.underlying9 (Kd.own_of_R HO_7.out)
                go_wp2
                go_ret
                exact ⟨by first | rfl | (simp [errW_none, errW_some] <;> rfl) | (simp [*, errW_none, errW_some] <;> rfl), by repeat (first | (with_reducible first | exact HB.out | apply below_alloc | apply pw_below_drewN | apply below_drew1) | exact HB.out)⟩

end Go.Proofs.Ytehieahpocbboaa.G
/-
  The encoding of whole numbers as lists of bytes, in plain Lean, and that wire.Int (as printed) gives it.
-/
namespace Go.Proofs.Ytehieahpocbboaa.G
open Go.RowKit Go.Proofs.YtehieahpocbboaaW.PrintWords Go.Proofs.YtehieahpocbboaaW.PrintLast Go.Proofs.YtehieahpocbboaaW.PrintMore
set_option linter.unusedVariables false
set_option linter.unusedSimpArgs false

/-- k bytes of m, the greatest first. -/
def beK : Nat → Nat → List UInt8
  | 0, _ => []
  | k + 1, m => UInt8.ofNat (m / 256 ^ k % 256) :: beK k m
def nb (m : Nat) : Nat := (Lib.bitLen m + 7) / 8
def intL (n : Int) : List UInt8 :=
  if n < 0 then UInt8.ofNat (127 - nb (-n - 1).toNat) :: (beK (nb (-n - 1).toNat) (-n - 1).toNat).map (fun c => 255 - c)
  else UInt8.ofNat (128 + nb n.toNat) :: beK (nb n.toNat) n.toNat
/-- The numbers of bytes. -/
def ofB (l : List UInt8) : List Int := l.map fun c => (c.toNat : Int)
theorem ofB_append (a b : List UInt8) : ofB (a ++ b) = ofB a ++ ofB b := by simp [ofB]
theorem ofB_length (a : List UInt8) : (ofB a).length = a.length := by simp [ofB]
theorem strOfNums_ofB (l : List UInt8) : strOfNums (ofB l) = ⟨l.toArray⟩ := by
  unfold strOfNums ofB
  congr 1
  congr 1
  rw [List.map_map]
  conv => rhs; rw [← List.map_id l]
  apply List.map_congr_left
  intro c _
  simp
theorem beK_length (k m : Nat) : (beK k m).length = k := by
  induction k with
  | zero => rfl
  | succ k ih => simp [beK, ih]
theorem beK_snoc (k m : Nat) : beK (k + 1) m = beK k (m / 256) ++ [UInt8.ofNat (m % 256)] := by
  induction k with
  | zero => simp [beK]
  | succ k ih =>
    rw [beK, ih, beK]
    simp only [List.cons_append, List.cons.injEq, and_true]
    congr 2
    rw [Nat.div_div_eq_div_mul, ← Nat.pow_succ', Nat.pow_succ]
theorem nb_le (m : Nat) (h : m < 18446744073709551616) : nb m ≤ 8 := by
  have := Lib.bitLen_le m 64 (by omega) (by simpa using h)
  unfold nb; omega
theorem nb_zero : nb 0 = 0 := by decide
theorem bitLen_pos_pow (m : Nat) (h0 : m ≠ 0) (h : m < 18446744073709551616) : 1 ≤ Lib.bitLen m ∧ 2 ^ (Lib.bitLen m - 1) ≤ m ∧ m < 2 ^ Lib.bitLen m := Lib.bitLenAux_bounds 64 m (by simpa using h) h0
theorem nb_div (m : Nat) (h0 : m ≠ 0) (h : m < 18446744073709551616) : nb m = nb (m / 256) + 1 := by
  by_cases hm : 256 ≤ m
  · unfold nb
    rw [Lib.bitLen_shift8 m hm h]
    omega
  · have e : m / 256 = 0 := by omega
    rw [e, nb_zero]
    have h1 := bitLen_pos_pow m h0 h
    have h2 := Lib.bitLen_le m 8 (by omega) (by simpa using (by omega : m < 256))
    unfold nb; omega

/-! the bitwise operations that wire.Int uses -/
theorem xor_full (j b : Nat) (hb : b < 2 ^ j) : (2 ^ j - 1) ^^^ b = 2 ^ j - 1 - b := by
  apply Nat.eq_of_testBit_eq
  intro i
  have e : 2 ^ j - 1 - b = 2 ^ j - (b + 1) := by omega
  rw [Nat.testBit_xor, e, Nat.testBit_two_pow_sub_succ hb, Nat.testBit_two_pow_sub_one]
  by_cases hi : i < j
  · simp [hi]
  · have hbi : b < 2 ^ i := Nat.lt_of_lt_of_le hb (Nat.pow_le_pow_right (by decide) (Nat.le_of_not_lt hi))
    simp [hi, Nat.testBit_lt_two_pow hbi]
theorem bits_xor_nat (k : IntKind) (j : Nat) (hj : j ≤ k.bits) (hk : ∀ n : Int, 0 ≤ n → n < 2 ^ j → k.wrap n = n) (a b : Nat) (ha : a < 2 ^ j) (hb : b < 2 ^ j) :
    bits .xor k a b = ((a ^^^ b : Nat) : Int) := by
  have hp : 2 ^ j ≤ 2 ^ k.bits := Nat.pow_le_pow_right (by decide) hj
  have ha' : a % 2 ^ k.bits = a := Nat.mod_eq_of_lt (Nat.lt_of_lt_of_le ha hp)
  have hb' : b % 2 ^ k.bits = b := Nat.mod_eq_of_lt (Nat.lt_of_lt_of_le hb hp)
  have cast : ∀ n : Nat, n < 2 ^ j → ((n : Nat) : Int) < 2 ^ j := fun n h => by exact_mod_cast h
  simp only [bits, BitVec.ofInt_natCast, BitVec.toNat_xor, BitVec.toNat_ofNat, ha', hb']
  exact hk _ (Int.natCast_nonneg _) (cast _ (Nat.xor_lt_two_pow ha hb))
theorem wraps_u64 (n : Int) (h₀ : 0 ≤ n) (h₁ : n < 2 ^ 64) : IntKind.u64.wrap n = n := by
  simp [IntKind.wrap, IntKind.bits, IntKind.signed]
  omega
theorem xor64 (b : Nat) (hb : b < 18446744073709551616) : Go.bits .xor .u64 18446744073709551615 (b : Int) = ((18446744073709551615 - b : Nat) : Int) := by
  have h := xor_full 64 b (by simpa using hb)
  have e : (18446744073709551615 : Int) = ((2 ^ 64 - 1 : Nat) : Int) := by decide
  rw [e, bits_xor_nat .u64 64 (by decide) wraps_u64 _ _ (by decide) (by simpa using hb), h]
theorem xor8 (c : Nat) (hc : c < 256) : Go.bits .xor .u8 (c : Int) 255 = ((255 - c : Nat) : Int) := by
  have h := xor_full 8 c (by simpa using hc)
  have e : (255 : Int) = ((2 ^ 8 - 1 : Nat) : Int) := by decide
  rw [e, bits_xor_nat .u8 8 (by decide) wraps_u8 _ _ (by simpa using hc) (by decide), Nat.xor_comm, h]
theorem xor8z (c : Nat) (hc : c < 256) : Go.bits .xor .u8 (c : Int) 0 = (c : Int) := by
  have e : (0 : Int) = ((0 : Nat) : Int) := rfl
  rw [e, bits_xor_nat .u8 8 (by decide) wraps_u8 _ _ (by simpa using hc) (by decide), Nat.xor_zero]

/-! wire.Int's loop -/
theorem shr_byte (m i : Nat) (hi : i ≤ 7) : (shr .u64 (m : Int) (8 * (i : Int))) % 256 = ((m / 256 ^ i % 256 : Nat) : Int) := by
  unfold shr
  have e : (8 * (i : Int)).toNat = 8 * i := by omega
  have e2 : (2 : Int) ^ (8 * i) = ((256 ^ i : Nat) : Int) := by
    rw [show (2 : Int) = ((2 : Nat) : Int) from rfl, ← Int.natCast_pow, Nat.pow_mul]
  rw [e, Nat.min_eq_left (show 8 * i ≤ IntKind.u64.bits by show 8 * i ≤ 64; omega), e2]
  rfl
def byteM (neg : Bool) (c : UInt8) : UInt8 := if neg then 255 - c else c
theorem u8_sub (c : Nat) (hc : c < 256) : ((255 - UInt8.ofNat c).toNat : Int) = ((255 - c : Nat) : Int) := by
  have : (255 - UInt8.ofNat c).toNat = 255 - c := by
    rw [UInt8.toNat_sub_of_le]
    · simp; omega
    · rw [UInt8.le_iff_toNat_le]; simp; omega
  rw [this]
theorem xor_mask (neg : Bool) (c : Nat) (hc : c < 256) : Go.bits .xor .u8 (c : Int) (if neg then 255 else 0) = ((byteM neg (UInt8.ofNat c)).toNat : Int) := by
  cases neg
  · simp only [byteM, if_neg Bool.false_ne_true]
    rw [xor8z c hc]
    simp; omega
  · simp only [byteM, if_true]
    rw [xor8 c hc, u8_sub c hc]
theorem wire_loop (neg : Bool) (m : Nat) : ∀ (j k : Nat) (acc : List UInt8), j ≤ 8 → acc.length + j ≤ 100 → j < k →
    wire_Int.l0 k (m : Int) (if neg then 255 else 0) (ofB acc) ((j : Int) - 1) = some (⟨(acc ++ (beK j m).map (byteM neg)).toArray⟩ : ByteArray) := by
  intro j
  induction j with
  | zero =>
    intro k acc _ _ hk
    obtain ⟨k, rfl⟩ : ∃ n, k = n + 1 := ⟨k - 1, by omega⟩
    simp only [wire_Int.l0]
    rw [if_neg (by omega), strOfNums_ofB]
    simp [beK]
  | succ j ih =>
    intro k acc hj ha hk
    obtain ⟨k, rfl⟩ : ∃ n, k = n + 1 := ⟨k - 1, by omega⟩
    simp only [wire_Int.l0]
    have e1 : ((j + 1 : Nat) : Int) - 1 = j := by omega
    have e2 : wrap64 (8 * (j : Int)) = 8 * (j : Int) := by unfold wrap64; omega
    have e3 : wrap64 ((j : Int) - 1) = (j : Int) - 1 := by unfold wrap64; omega
    rw [e1, if_pos (by omega), e2, if_pos (by omega), if_pos (by rw [ofB_length]; omega), e3, shr_byte m j (by omega), xor_mask neg _ (Nat.mod_lt _ (by decide))]
    have := ih k (acc ++ [byteM neg (UInt8.ofNat (m / 256 ^ j % 256))]) (by omega) (by simp; omega) (by omega)
    rw [ofB_append] at this
    have h1 : ofB [byteM neg (UInt8.ofNat (m / 256 ^ j % 256))] = [((byteM neg (UInt8.ofNat (m / 256 ^ j % 256))).toNat : Int)] := rfl
    rw [h1] at this
    rw [this]
    simp [beK]
theorem size_eq (m : Nat) (hm : m < 18446744073709551616) : wire_size.f (m : Int) = some (nb m : Int) := by
  have hb := nb_le m hm
  unfold wire_size.f bits_Len64.f
  rw [if_pos (by omega), Int.toNat_natCast]
  show some _ = _
  congr 1
  unfold nb at hb ⊢
  have : wrap64 ((Lib.bitLen m : Int) + 7) = ((Lib.bitLen m : Int) + 7) := by unfold wrap64; omega
  rw [this, Int.tdiv_eq_ediv_of_nonneg (by omega)]
  unfold wrap64; omega
theorem head_byte (c : Int) (h0 : 0 ≤ c) (h1 : c < 256) : wrap64 c % 256 = ((UInt8.ofNat c.toNat).toNat : Int) := by
  have : wrap64 c = c := by unfold wrap64; omega
  rw [this]
  have : (UInt8.ofNat c.toNat).toNat = c.toNat := by
    rw [UInt8.toNat_ofNat']; omega
  rw [this]; omega
theorem wire_neg (K m : Nat) (hK : 10 ≤ K) (hm : m < 9223372036854775808) : wire_Int.j0 (K + 1 + 1) (-(m : Int) - 1) (m : Int) 255 = some (⟨(UInt8.ofNat (127 - nb m) :: (beK (nb m) m).map (fun c => 255 - c)).toArray⟩ : ByteArray) := by
  have hb := nb_le m (by omega)
  simp only [wire_Int.j0]
  rw [size_eq m (by omega)]
  simp only [Option.bind_some]
  rw [if_pos (by omega)]
  simp only [wire_Int.j1]
  have e2 : wrap64 ((nb m : Int) - 1) = (nb m : Int) - 1 := by unfold wrap64; omega
  have e3 := head_byte (127 - (nb m : Int)) (by omega) (by omega)
  rw [e2, e3]
  have e4 : (127 - (nb m : Int)).toNat = 127 - nb m := by omega
  rw [e4]
  exact wire_loop true m (nb m) K [UInt8.ofNat (127 - nb m)] hb (by simp; omega) (by omega)
theorem wire_pos (K m : Nat) (hK : 10 ≤ K) (hm : m < 9223372036854775808) : wire_Int.j0 (K + 1 + 1) (m : Int) (m : Int) 0 = some (⟨(UInt8.ofNat (128 + nb m) :: beK (nb m) m).toArray⟩ : ByteArray) := by
  have hb := nb_le m (by omega)
  simp only [wire_Int.j0]
  rw [size_eq m (by omega)]
  simp only [Option.bind_some]
  rw [if_neg (by omega)]
  simp only [wire_Int.j1]
  have e2 : wrap64 ((nb m : Int) - 1) = (nb m : Int) - 1 := by unfold wrap64; omega
  have e3 := head_byte (128 + (nb m : Int)) (by omega) (by omega)
  rw [e2, e3]
  have e4 : (128 + (nb m : Int)).toNat = 128 + nb m := by omega
  rw [e4]
  have := wire_loop false m (nb m) K [UInt8.ofNat (128 + nb m)] hb (by simp; omega) (by omega)
  have hid : (byteM false) = id := by funext c; rfl
  rw [hid, List.map_id] at this
  exact this
theorem u64_neg (m : Nat) (hm : m < 9223372036854775808) : Go.bits .xor .u64 18446744073709551615 (IntKind.u64.wrap (-(m : Int) - 1)) = (m : Int) := by
  have hw : IntKind.u64.wrap (-(m : Int) - 1) = ((18446744073709551615 - m : Nat) : Int) := by
    simp only [IntKind.wrap, IntKind.bits, IntKind.signed]
    simp
    omega
  rw [hw, xor64 _ (by omega)]
  omega
theorem wire_Int_eq (n : Int) (h0 : -9223372036854775808 ≤ n) (h1 : n ≤ 9223372036854775807) : ∃ k, wire_Int.f k n = some (⟨(intL n).toArray⟩ : ByteArray) := by
  refine ⟨10 + 1 + 1, ?_⟩
  unfold wire_Int.f intL
  by_cases hn : n < 0
  · rw [if_pos hn, if_pos hn]
    obtain ⟨m, rfl⟩ : ∃ m : Nat, n = -(m : Int) - 1 := ⟨(-n - 1).toNat, by omega⟩
    rw [u64_neg m (by omega)]
    have e : (-(-(m : Int) - 1) - 1).toNat = m := by omega
    rw [e]
    exact wire_neg 10 m (by omega) (by omega)
  · rw [if_neg hn, if_neg hn]
    obtain ⟨m, rfl⟩ : ∃ m : Nat, n = m := ⟨n.toNat, by omega⟩
    rw [wraps_u64 _ (by omega) (by omega), Int.toNat_natCast]
    exact wire_pos 10 m (by omega) (by omega)
theorem intL_length (n : Int) (h0 : -9223372036854775808 ≤ n) (h1 : n ≤ 9223372036854775807) : (intL n).length ≤ 9 := by
  unfold intL
  split
  · have := nb_le (-n - 1).toNat (by omega)
    simp only [List.length_cons, List.length_map, beK_length]; omega
  · have := nb_le n.toNat (by omega)
    simp only [List.length_cons, beK_length]; omega
end Go.Proofs.Ytehieahpocbboaa.G
