import Derived.Test.YtioekkdodggakaaDoorHMap
/-
  The keys of series' maps; the step of a range over such a map.
-/
namespace Go.Proofs.YtioekkdodggakaaDoor.G
open Go.RowKit Go.Proofs.YtioekkdodggakaaDoorW.PrintWords Go.Proofs.YtioekkdodggakaaDoorW.PrintLast Go.Proofs.YtioekkdodggakaaDoorW.PrintMore
set_option linter.unusedVariables false
set_option linter.unusedSimpArgs false
/-- A number of 64 bits. -/
def IsI (x : Int) : Prop := -9223372036854775808 ≤ x ∧ x ≤ 9223372036854775807
instance (x : Int) : Decidable (IsI x) := by unfold IsI; infer_instance
def k2 (a b : Int) : Value := .agg #[.int .i64 a, .int .i64 b]
def l2 (a b : Int) : Lit := .string (keyBytes [.int .i64 a, .int .i64 b])
theorem wfI {x : Int} (h : IsI x) : (Lit.int .i64 x).wf = true := WalkArith.wf_i64 h
theorem laidOut : laidOutB Tryd.prog = true := by kernel_rfl
theorem row94 : (94 : TypeId) < Tryd.prog.types.size := of_decide_eq_true (by kernel_rfl)
theorem row76 : (76 : TypeId) < Tryd.prog.types.size := of_decide_eq_true (by kernel_rfl)
theorem law94' : WideMaps.KeyLaw Tryd.prog 94 := deep_law_laid laidOut (m := 2) (by omega) row94 (by kernel_rfl) (by kernel_rfl)
theorem law76' : WideMaps.KeyLaw Tryd.prog 76 := deep_law_laid laidOut (m := 2) (by omega) row76 (by kernel_rfl) (by kernel_rfl)
theorem law94 : Maps.Keyed Tryd.prog 94 := Maps.Keyed.of_law law94'
theorem law76 : Maps.Keyed Tryd.prog 76 := Maps.Keyed.of_law law76'
theorem law3 : Maps.Keyed Tryd.prog 3 := Maps.int_keyed Tryd.underlying3
theorem sz2 : ∃ m, Tryd.prog.types.size + 1 = m + 2 := ⟨Tryd.prog.types.size - 1, by have h : (94 : Nat) < Tryd.prog.types.size := row94; omega⟩
theorem keyOf3 {x : Int} (h : IsI x) : keyOf Tryd.prog 3 (.int .i64 x) = some (.int .i64 x) := Maps.keyOf_int_mk Tryd.underlying3 (wfI h)
theorem keyOf94 {a b : Int} (ha : IsI a) (hb : IsI b) : keyOf Tryd.prog 94 (k2 a b) = some (l2 a b) := by
  have h1 : Tryd.prog.keyType 94 = true := by kernel_rfl
  have h2 : Tryd.prog.cellsOf 94 = 2 := by kernel_rfl
  have h3 : Tryd.prog.cellsOf 3 = 1 := by kernel_rfl
  have wa := wfI ha
  have wb := wfI hb
  obtain ⟨m, hm⟩ := sz2
  unfold keyOf k2 l2
  rw [Tryd.underlying94, hm]
  simp [h1, Value.formed, Tryd.underlying94, h2, Program.keyLits, Value.cells, h3, Tryd.underlying3, wa, wb]
theorem keyOf76 {a b : Int} (ha : IsI a) (hb : IsI b) : keyOf Tryd.prog 76 (k2 a b) = some (l2 a b) := by
  have h1 : Tryd.prog.keyType 76 = true := by kernel_rfl
  have h2 : Tryd.prog.cellsOf 76 = 2 := by kernel_rfl
  have h3 : Tryd.prog.cellsOf 3 = 1 := by kernel_rfl
  have wa := wfI ha
  have wb := wfI hb
  obtain ⟨m, hm⟩ := sz2
  unfold keyOf k2 l2
  rw [Tryd.underlying76, hm]
  simp [h1, Value.formed, Tryd.underlying76, h2, Program.keyLits, Value.cells, h3, Tryd.underlying3, wa, wb]
theorem k2_inj {a b c d : Int} (h : k2 a b = k2 c d) : a = c ∧ b = d := by
  unfold k2 at h
  injection h with h
  have h0 := congrArg (fun x : Array Value => x[0]?) h
  have h1 := congrArg (fun x : Array Value => x[1]?) h
  simp at h0 h1
  exact ⟨h0, h1⟩
theorem l2_inj {a b c d : Int} (ha : IsI a) (hb : IsI b) (hc : IsI c) (hd : IsI d) (h : l2 a b = l2 c d) : a = c ∧ b = d := by
  have h1 := keyOf94 ha hb
  rw [h] at h1
  exact k2_inj (law94.inj h1 (keyOf94 hc hd))
section
variable {k : TypeId} {w : World} {ops : Array Oper} {rest : List Oper} {o : Oper} {a : Act} {Q : Exit → Act → World → Prop} {M : Value → Value → Prop}
theorem wp_next_R (K : Maps.Keyed Tryd.prog k) (hg : o.guard = none) (it : Operand) (hop : o.op = Op.next it false) {b r n : Nat} {D : DataW Value} {left : Lit → Bool} {cnt : Nat} (hD : Says k D M)
    (hit : a.eval it = .pointer (some ⟨r, 0, none⟩)) (h : w.ranges Tryd.prog k RH b r n D left cnt)
    (hDone : (∀ kl, left kl = false) → wpList Tryd.prog ops Q rest (a.put o.dst (.tuple #[.bool false])) w)
    (hMore : ∀ (key : Value) (kl : Lit) (v : Value) (w' : World) (cnt' : Nat), keyOf Tryd.prog k key = some kl → M key v → left kl = true →
      w'.ranges Tryd.prog k RH b r n D (fun z => left z && !z.sameKey kl) cnt' → cnt' < cnt → w.grownBy w' (some r) → w'.heap.size = w.heap.size →
      (Instr.entry (.pointer (some ⟨r, 0, none⟩))).run Tryd.prog w' = .ok (.tuple #[key, v]) w' →
      wpList Tryd.prog ops Q rest (a.put o.dst (.tuple #[.bool true, key, v])) w') :
    wpList Tryd.prog ops Q (o :: rest) a w := by
  refine wpList_next_ranges w hg it hop k K RH (fun v : Value => v) (fun v : Value => v) (fun key kl hkey => ⟨key, rfl⟩) (fun v y hv => ⟨v, rfl⟩) b r n D left cnt hit h (fun _ => hDone) ?_
  intro x c kl y w' cnt' hkey hlk hv hat hrg hlt hgr hsz hen
  have hy : y = (.held c, []) := by simp only [RH, Option.some.injEq] at hv; exact hv.symm
  subst hy
  by_cases hM : ∃ v, M x v
  · obtain ⟨v, hv⟩ := hM
    have h5 := ((hD x kl hkey).1 v hv).2 .nil
    rw [hat] at h5
    obtain rfl := DataW.held.inj h5
    exact hMore x kl c w' cnt' hkey hv hlk hrg hlt hgr hsz hen
  · have h6 := (hD x kl hkey).2 (fun v hv => hM ⟨v, hv⟩)
    have h7 := Maps.atKey_of_not_has (z := .nil) h6
    rw [hat] at h7
    cases h7
end
end Go.Proofs.YtioekkdodggakaaDoor.G
