import Derived.Test.YtioekkdodggakaaDoorHKeys
/-
  exact.Sub, exact.Add, series.hour, span.Right, span.Meet.
-/
namespace Go.Proofs.YtioekkdodggakaaDoor.G
open Go.RowKit Go.Proofs.YtioekkdodggakaaDoorW.PrintWords Go.Proofs.YtioekkdodggakaaDoorW.PrintLast Go.Proofs.YtioekkdodggakaaDoorW.PrintMore
attribute [local go_sem] max2_int min2_int max_two min_two
set_option linter.unusedVariables false
set_option linter.unusedSimpArgs false
/-- Stopped at the ends of int. -/
def satI (x : Int) : Int := if x < -9223372036854775808 then -9223372036854775808 else if 9223372036854775807 < x then 9223372036854775807 else x
theorem satI_isI (x : Int) : IsI (satI x) := by unfold satI IsI; (repeat' split) <;> omega
theorem satI_id {x : Int} (h : IsI x) : satI x = x := by unfold satI IsI at *; rw [if_neg (by omega), if_neg (by omega)]
theorem end_true (w : World) : Calls Tryd.prog 44 #[.bool true] w fun e w' => e = .returned (.int .i64 (-9223372036854775808)) ∧ w' = w := by
  go_enter Tryd.func44, Tryd.ntmps44
  go_wp2
  go_ret
  exact ⟨rfl, rfl⟩
theorem end_false (w : World) : Calls Tryd.prog 44 #[.bool false] w fun e w' => e = .returned (.int .i64 9223372036854775807) ∧ w' = w := by
  go_enter Tryd.func44, Tryd.ntmps44
  go_wp2
  go_ret
  exact ⟨rfl, rfl⟩
theorem sat_sub {a b n : Int} (ha : IsI a) (hb : IsI b) (hn : IntKind.i64.wrap (a - b) = n) :
    (a < 0 → b < 0 → satI (a - b) = n) ∧ (¬ a < 0 → ¬ b < 0 → satI (a - b) = n) ∧ (a < 0 → ¬ b < 0 → n < 0 → satI (a - b) = n) ∧ (¬ a < 0 → b < 0 → ¬ n < 0 → satI (a - b) = n) ∧ (a < 0 → ¬ b < 0 → ¬ n < 0 → satI (a - b) = -9223372036854775808) ∧ (¬ a < 0 → b < 0 → n < 0 → satI (a - b) = 9223372036854775807) := by
  rw [IntKind.wrap_i64] at hn
  unfold IsI at ha hb
  unfold satI
  refine ⟨fun _ _ => ?_, fun _ _ => ?_, fun _ _ _ => ?_, fun _ _ _ => ?_, fun _ _ _ => ?_, fun _ _ _ => ?_⟩ <;> (repeat' split) <;> omega
theorem sat_add {a b n : Int} (ha : IsI a) (hb : IsI b) (hn : IntKind.i64.wrap (a + b) = n) :
    (a < 0 → ¬ b < 0 → satI (a + b) = n) ∧ (¬ a < 0 → b < 0 → satI (a + b) = n) ∧ (a < 0 → b < 0 → n < 0 → satI (a + b) = n) ∧ (¬ a < 0 → ¬ b < 0 → ¬ n < 0 → satI (a + b) = n) ∧ (a < 0 → b < 0 → ¬ n < 0 → satI (a + b) = -9223372036854775808) ∧ (¬ a < 0 → ¬ b < 0 → n < 0 → satI (a + b) = 9223372036854775807) := by
  rw [IntKind.wrap_i64] at hn
  unfold IsI at ha hb
  unfold satI
  refine ⟨fun _ _ => ?_, fun _ _ => ?_, fun _ _ _ => ?_, fun _ _ _ => ?_, fun _ _ _ => ?_, fun _ _ _ => ?_⟩ <;> (repeat' split) <;> omega
set_option maxRecDepth 100000 in
theorem sub_calls (a b : Int) (ha : IsI a) (hb : IsI b) (w : World) : Calls Tryd.prog 28 #[.int .i64 a, .int .i64 b] w fun e w' => e = .returned (.int .i64 (satI (a - b))) ∧ w' = w := by
  obtain ⟨n, hn⟩ : ∃ n, IntKind.i64.wrap (a - b) = n := ⟨_, rfl⟩
  obtain ⟨s1, s2, s3, s4, s5, s6⟩ := sat_sub ha hb hn
  by_cases h1 : a < 0
  · by_cases h2 : b < 0
    · rw [s1 h1 h2]
      clear s1 s2 s3 s4 s5 s6 ha hb
      go_enter Tryd.func28, Tryd.ntmps28
      go_wp2
      go_ret
      exact ⟨rfl, rfl⟩
    · by_cases h3 : n < 0
      · rw [s3 h1 h2 h3]
        clear s1 s2 s3 s4 s5 s6 ha hb
        go_enter Tryd.func28, Tryd.ntmps28
        go_wp2
        go_ret
        exact ⟨rfl, rfl⟩
      · rw [s5 h1 h2 h3]
        clear s1 s2 s3 s4 s5 s6 ha hb
        go_enter Tryd.func28, Tryd.ntmps28
        go_wp2_with (go_at_call 44; refine (end_true _).mono ?_; rintro e w' ⟨rfl, rfl⟩)
        go_ret
        exact ⟨rfl, rfl⟩
  · by_cases h2 : b < 0
    · by_cases h3 : n < 0
      · rw [s6 h1 h2 h3]
        clear s1 s2 s3 s4 s5 s6 ha hb
        go_enter Tryd.func28, Tryd.ntmps28
        go_wp2_with (go_at_call 44; refine (end_false _).mono ?_; rintro e w' ⟨rfl, rfl⟩)
        go_ret
        exact ⟨rfl, rfl⟩
      · rw [s4 h1 h2 h3]
        clear s1 s2 s3 s4 s5 s6 ha hb
        go_enter Tryd.func28, Tryd.ntmps28
        go_wp2
        go_ret
        exact ⟨rfl, rfl⟩
    · rw [s2 h1 h2]
      clear s1 s2 s3 s4 s5 s6 ha hb
      go_enter Tryd.func28, Tryd.ntmps28
      go_wp2
      go_ret
      exact ⟨rfl, rfl⟩
set_option maxRecDepth 100000 in
theorem add_calls (a b : Int) (ha : IsI a) (hb : IsI b) (w : World) : Calls Tryd.prog 29 #[.int .i64 a, .int .i64 b] w fun e w' => e = .returned (.int .i64 (satI (a + b))) ∧ w' = w := by
  obtain ⟨n, hn⟩ : ∃ n, IntKind.i64.wrap (a + b) = n := ⟨_, rfl⟩
  obtain ⟨s1, s2, s3, s4, s5, s6⟩ := sat_add ha hb hn
  by_cases h1 : a < 0
  · by_cases h2 : b < 0
    · by_cases h3 : n < 0
      · rw [s3 h1 h2 h3]
        clear s1 s2 s3 s4 s5 s6 ha hb
        go_enter Tryd.func29, Tryd.ntmps29
        go_wp2
        go_ret
        exact ⟨rfl, rfl⟩
      · rw [s5 h1 h2 h3]
        clear s1 s2 s3 s4 s5 s6 ha hb
        go_enter Tryd.func29, Tryd.ntmps29
        go_wp2_with (go_at_call 44; refine (end_true _).mono ?_; rintro e w' ⟨rfl, rfl⟩)
        go_ret
        exact ⟨rfl, rfl⟩
    · rw [s1 h1 h2]
      clear s1 s2 s3 s4 s5 s6 ha hb
      go_enter Tryd.func29, Tryd.ntmps29
      go_wp2
      go_ret
      exact ⟨rfl, rfl⟩
  · by_cases h2 : b < 0
    · rw [s2 h1 h2]
      clear s1 s2 s3 s4 s5 s6 ha hb
      go_enter Tryd.func29, Tryd.ntmps29
      go_wp2
      go_ret
      exact ⟨rfl, rfl⟩
    · by_cases h3 : n < 0
      · rw [s6 h1 h2 h3]
        clear s1 s2 s3 s4 s5 s6 ha hb
        go_enter Tryd.func29, Tryd.ntmps29
        go_wp2_with (go_at_call 44; refine (end_false _).mono ?_; rintro e w' ⟨rfl, rfl⟩)
        go_ret
        exact ⟨rfl, rfl⟩
      · rw [s4 h1 h2 h3]
        clear s1 s2 s3 s4 s5 s6 ha hb
        go_enter Tryd.func29, Tryd.ntmps29
        go_wp2
        go_ret
        exact ⟨rfl, rfl⟩
/-- Minutes divided by 60, rounded down. -/
def hourI (x : Int) : Int := x / 60
theorem hour_neg {x : Int} (h : Int.tmod x 60 < 0) : hourI x = Int.tdiv x 60 - 1 := by
  unfold hourI
  have h1 := Int.tmod_add_mul_tdiv x 60
  have h2 : -60 < Int.tmod x 60 := by
    have := Int.tmod_lt_of_pos x (b := 60) (by omega)
    have h3 := Int.neg_tmod x 60
    have h4 := Int.tmod_lt_of_pos (-x) (b := 60) (by omega)
    omega
  omega
theorem hour_pos {x : Int} (h : ¬ Int.tmod x 60 < 0) : hourI x = Int.tdiv x 60 := by
  unfold hourI
  have h1 := Int.tmod_add_mul_tdiv x 60
  have h2 := Int.tmod_lt_of_pos x (b := 60) (by omega)
  omega
set_option maxRecDepth 100000 in
theorem hour_calls (x : Int) (hx : IsI x) (w : World) : Calls Tryd.prog 27 #[.int .i64 x] w fun e w' => e = .returned (.int .i64 (hourI x)) ∧ w' = w := by
  have h1 := Int.tmod_add_mul_tdiv x 60
  have h2 : -60 < Int.tmod x 60 ∧ Int.tmod x 60 < 60 := by
    have := Int.tmod_lt_of_pos x (b := 60) (by omega)
    have h3 := Int.neg_tmod x 60
    have h4 := Int.tmod_lt_of_pos (-x) (b := 60) (by omega)
    omega
  by_cases h : Int.tmod x 60 < 0
  · rw [hour_neg h]
    unfold IsI at hx
    obtain ⟨q, hq⟩ : ∃ q, Int.tdiv x 60 = q := ⟨_, rfl⟩
    obtain ⟨r, hr⟩ : ∃ r, Int.tmod x 60 = r := ⟨_, rfl⟩
    rw [hq]
    rw [hq, hr] at h1
    rw [hr] at h h2
    have b1 : -9223372036854775808 ≤ q := by omega
    have b2 : q ≤ 9223372036854775807 := by omega
    have b3 : -9223372036854775808 ≤ q - 1 := by omega
    have b4 : q - 1 ≤ 9223372036854775807 := by omega
    clear h1 h2 hx
    go_enter Tryd.func27, Tryd.ntmps27
    go_wp2
    go_ret
    exact ⟨rfl, rfl⟩
  · rw [hour_pos h]
    unfold IsI at hx
    obtain ⟨q, hq⟩ : ∃ q, Int.tdiv x 60 = q := ⟨_, rfl⟩
    obtain ⟨r, hr⟩ : ∃ r, Int.tmod x 60 = r := ⟨_, rfl⟩
    rw [hq]
    rw [hq, hr] at h1
    rw [hr] at h h2
    have b1 : -9223372036854775808 ≤ q := by omega
    have b2 : q ≤ 9223372036854775807 := by omega
    clear h1 h2 hx
    go_enter Tryd.func27, Tryd.ntmps27
    go_wp2
    go_ret
    exact ⟨rfl, rfl⟩
end Go.Proofs.YtioekkdodggakaaDoor.G
