/-
  slices.Clone at ints, at a slice of 1 to 1,000,000 numbers: a row of the call's own with the same numbers.
-/
import Derived.Test.YtibnodjlcaodeaaTHKit
import Derived.Test.YtibnodjlcaodeaaTShelf
namespace Go.Proofs.Ytibnodjlcaodeaa.G
open Go.RowKit Go.Proofs.YtibnodjlcaodeaaW.PrintWords Go.Proofs.YtibnodjlcaodeaaW.PrintLast Go.Proofs.YtibnodjlcaodeaaW.PrintMore
set_option linter.unusedVariables false
set_option linter.unusedSimpArgs false
def slices_Clone_int_int.f (l0 : List Int) : Option (List Int) := if 0 < l0.length ∧ l0.length ≤ 1000000 then some l0 else none
theorem slices_Clone_int_int.calls (A0 : Option Addr) (c0 : Nat) (l0 : List Int) (r : List Int) (w : World) (hr0 : Kd.C (Kd.int .i64) w A0 l0.length l0) (hc0 : l0.length ≤ c0) (h : slices_Clone_int_int.f l0 = some r) :
    Calls Try.prog 39 #[.slice A0 l0.length c0] w fun e w' => ∃ v0_ : Value, e = .returned (v0_) ∧ Kd.R (Kd.int .i64) 3 w' w.heap.size (fun _ => True) v0_ r ∧ Below w.heap.size w w' := by
  unfold slices_Clone_int_int.f at h
  split at h
  · rename_i hl
    obtain rfl := Option.some.inj h
    obtain ⟨b, off, rfl, hb, hc⟩ := C_int_addr hr0 hl.1
    refine (Try.slices_Clone_int b off l0.length c0 l0 w (Nat.le_refl _) (by omega) hc).mono ?_
    rintro e w' ⟨v, rfl, ho, _, hB⟩
    refine ⟨v, rfl, ?_, hB⟩
    rw [List.take_length] at ho
    exact Kd.R_of_own ho (fun _ _ => trivial)
  · cases h
end Go.Proofs.Ytibnodjlcaodeaa.G
