import Derived.Test.YtioekkdodggakaaDoorHGram
/-
  cmp.Compare at int and string; cmp.Or at five numbers.
-/
namespace Go.Proofs.YtioekkdodggakaaDoor.G
open Go.RowKit Go.Proofs.YtioekkdodggakaaDoorW.PrintWords Go.Proofs.YtioekkdodggakaaDoorW.PrintLast Go.Proofs.YtioekkdodggakaaDoorW.PrintMore
set_option linter.unusedVariables false
set_option linter.unusedSimpArgs false

def cmpI (x y : Int) : Int := if x < y then -1 else if y < x then 1 else 0
def cmpS (s t : ByteArray) : Int := if Op.bytesLess s.toList t.toList = true then -1 else if (s.toList == t.toList) = true then 0 else 1
theorem nanI (x : Int) (w : World) : Calls Tryd.prog 46 #[.int .i64 x] w fun e w' => e = .returned (.bool false) ∧ w' = w := by
  go_enter Tryd.func46, Tryd.ntmps46
  go_wp2
  go_ret
  exact ⟨by first | rfl | (simp; done), rfl⟩
theorem nanS (s : ByteArray) (w : World) : Calls Tryd.prog 57 #[.string s] w fun e w' => e = .returned (.bool false) ∧ w' = w := by
  go_enter Tryd.func57, Tryd.ntmps57
  go_wp2
  go_ret
  exact ⟨by first | rfl | (simp; done), rfl⟩
set_option maxRecDepth 100000 in
theorem cmpInt_calls (x y : Int) (w : World) : Calls Tryd.prog 35 #[.int .i64 x, .int .i64 y] w fun e w' => e = .returned (.int .i64 (cmpI x y)) ∧ w' = w := by
  by_cases h1 : x < y
  · have HC : Aside0 (cmpI x y = -1) := ⟨by unfold cmpI; rw [if_pos h1]⟩
    go_enter Tryd.func35, Tryd.ntmps35
    go_wp2_with (go_at_call 46; refine (nanI _ _).mono ?_; rintro e w' ⟨rfl, rfl⟩)
    go_ret
    exact ⟨by rw [HC.out]; rfl, rfl⟩
  · by_cases h2 : y < x
    · have HC : Aside0 (cmpI x y = 1) := ⟨by unfold cmpI; rw [if_neg h1, if_pos h2]⟩
      go_enter Tryd.func35, Tryd.ntmps35
      go_wp2_with (go_at_call 46; refine (nanI _ _).mono ?_; rintro e w' ⟨rfl, rfl⟩)
      go_ret
      exact ⟨by rw [HC.out]; rfl, rfl⟩
    · have HC : Aside0 (cmpI x y = 0) := ⟨by unfold cmpI; rw [if_neg h1, if_neg h2]⟩
      go_enter Tryd.func35, Tryd.ntmps35
      go_wp2_with (go_at_call 46; refine (nanI _ _).mono ?_; rintro e w' ⟨rfl, rfl⟩)
      go_ret
      exact ⟨by rw [HC.out]; rfl, rfl⟩
theorem gtrS (s t : ByteArray) (w : World) : (binOp .gtr 9 (.string s) (.string t)).run Tryd.prog w = .ok (.bool (!(Op.bytesLess s.toList t.toList || s.toList == t.toList))) w := by simp [binOp, Op.stringOp]
set_option maxRecDepth 100000 in
theorem cmpStr_calls (s t : ByteArray) (w : World) : Calls Tryd.prog 41 #[.string s, .string t] w fun e w' => e = .returned (.int .i64 (cmpS s t)) ∧ w' = w := by
  cases h1 : Op.bytesLess s.toList t.toList with
  | true =>
    have HC : Aside0 (cmpS s t = -1) := ⟨by unfold cmpS; rw [if_pos h1]⟩
    go_enter Tryd.func41, Tryd.ntmps41
    go_wp2_with (go_at_call 57; refine (nanS _ _).mono ?_; rintro e w' ⟨rfl, rfl⟩)
    go_ret
    exact ⟨by rw [HC.out]; rfl, rfl⟩
  | false =>
    cases h2 : (s.toList == t.toList) with
    | true =>
      have hgt : ∀ w' : World, (binOp .gtr 9 (.string s) (.string t)).run Tryd.prog w' = .ok (.bool false) w' := fun w' => by rw [gtrS, h1, h2]; rfl
      have HC : Aside0 (cmpS s t = 0) := ⟨by unfold cmpS; rw [h1, if_neg (by simp), if_pos h2]⟩
      go_enter Tryd.func41, Tryd.ntmps41
      go_wp2_with (go_at_call 57; refine (nanS _ _).mono ?_; rintro e w' ⟨rfl, rfl⟩)
      go_ret
      exact ⟨by rw [HC.out]; rfl, rfl⟩
    | false =>
      have hgt : ∀ w' : World, (binOp .gtr 9 (.string s) (.string t)).run Tryd.prog w' = .ok (.bool true) w' := fun w' => by rw [gtrS, h1, h2]; rfl
      have HC : Aside0 (cmpS s t = 1) := ⟨by unfold cmpS; rw [h1, h2]; rfl⟩
      go_enter Tryd.func41, Tryd.ntmps41
      go_wp2_with (go_at_call 57; refine (nanS _ _).mono ?_; rintro e w' ⟨rfl, rfl⟩)
      go_ret
      exact ⟨by rw [HC.out]; rfl, rfl⟩

/-- The first that is not zero. -/
def orL : List Int → Int
  | [] => 0
  | x :: r => if x = 0 then orL r else x
set_option maxHeartbeats 4000000 in
set_option maxRecDepth 100000 in
theorem or_calls (ad : Addr) (l : List Int) (c : Nat) (w : World) (hl : l.length < 4611686018427387904) (hc : ∀ i x, l[i]? = some x → w.cell? (ad.add i) = some (.int .i64 x)) :
    Calls Tryd.prog 34 #[.slice (some ad) l.length c] w fun e w' => e = .returned (.int .i64 (orL l)) ∧ w' = w := by
  have HC := Aside0.mk hc
  clear hc
  go_enter Tryd.func34, Tryd.ntmps34
  go_wp2
  go_loopg [8] l.length (fun kx s8 wr => ∃ i : Nat, i + kx = l.length ∧ s8 = .int .i64 i ∧ wr = w ∧ Aside0 (orL (l.drop i) = orL l))
  case atStart => exact ⟨0, by omega, rfl, rfl, ⟨rfl⟩⟩
  case round =>
    obtain ⟨i, hik, rfl, rfl, HO⟩ := hrel
    by_cases hlt : i < l.length
    · have hltz : (i : Int) < (l.length : Int) := by omega
      obtain ⟨x, hx⟩ : ∃ x, l[i]? = some x := ⟨_, List.getElem?_eq_getElem hlt⟩
      have hcell := HC.out i x hx
      have HD : Aside0 (orL (l.drop i) = if x = 0 then orL (l.drop (i + 1)) else x) := ⟨by
        rw [List.drop_eq_getElem_cons hlt]
        have : l[i] = x := by rw [List.getElem?_eq_getElem hlt] at hx; exact Option.some.inj hx
        rw [this]; rfl⟩
      clear hx
      by_cases h0 : x = 0
      · have HZ := Aside0.mk h0
        rw [h0] at hcell
        clear h0
        go_wp2
        go_roundg (l.length - (i + 1))
        case measure => omega
        case rel => exact ⟨i + 1, by omega, by simp, rfl, ⟨by rw [← HO.out, HD.out, if_pos HZ.out]⟩⟩
      · have hb : (x == 0) = false := beq_eq_false_iff_ne.2 h0
        have HZ := Aside0.mk h0
        clear h0
        go_wp2
        go_ret
        exact ⟨by rw [← HO.out, HD.out, if_neg HZ.out]; first | done | rfl, rfl⟩
    · have hltz : ¬ (i : Int) < (l.length : Int) := by omega
      go_wp2
      go_ret
      refine ⟨?_, rfl⟩
      rw [← HO.out, List.drop_eq_nil_of_le (by omega)]
      rfl
end Go.Proofs.YtioekkdodggakaaDoor.G
