/-
  What the bound on the arguments' bulk gives.
-/
import Derived.Test.YtehieahpocbboaaRows
import Derived.Test.YtehieahpocbboaaHA
namespace Go.Proofs.Ytehieahpocbboaa.G
theorem bulk_pos {H : Type} (d : DataW H) : 1 ≤ Rows.uptoBulk d := by
  cases d with
  | lit l => cases l <;> simp [Rows.uptoBulk]
  | _ => simp [Rows.uptoBulk]
theorem bulk_part {H : Type} {d : DataW H} {l : List (DataW H)} (h : d ∈ l) : Rows.uptoBulk d ≤ Rows.uptoBulkAll l := by
  induction l with
  | nil => cases h
  | cons x r ih =>
    simp only [Rows.uptoBulkAll]
    rcases List.mem_cons.1 h with e | e
    · subst e; omega
    · have := ih e; omega
theorem bulk_length {H : Type} (l : List (DataW H)) : l.length ≤ Rows.uptoBulkAll l := by
  induction l with
  | nil => simp
  | cons x r ih => have := bulk_pos x; simp only [Rows.uptoBulkAll, List.length_cons]; omega
theorem bulk_row {H : Type} {enc : TypeId × Value → H} {W : World} {P : Program} {base : Nat} {sp : Nat → Bool} {held : Bool} {t e : TypeId} {a : Option Addr} {len cap : Nat} {d : DataW H} {p : List MemPlace} {l : List (DataW H)}
    (hk : Rows.uptoSmall H l = true) (hd : d ∈ l) (hu : P.underlying t = some (.slice e)) (h : DataW.Trod enc P W base sp held t (.slice a len cap) d p) : len ≤ 1048576 := by
  have hb : Rows.uptoBulkAll l ≤ 1048576 := of_decide_eq_true hk
  have hp := bulk_part hd
  obtain ⟨fuel, hf⟩ := h
  have hcs : (Value.slice a len cap).cells.toList = [.slice a len cap] := by simp [Value.cells]
  rw [hcs] at hf
  rcases DataW.trod_slice hu hf with ⟨hv, _⟩ | ⟨b, n, c, elems, rest, m, _, hv, hx, _, _, _, hl, _⟩
  · simp only [List.cons.injEq, Value.slice.injEq] at hv
    rw [hv.1.2.1]; omega
  · simp only [List.cons.injEq, Value.slice.injEq] at hv
    obtain ⟨hx, _⟩ := Prod.mk.inj hx
    subst hx
    have h1 := bulk_length (elems.map (·.1))
    rw [List.length_map] at h1
    simp only [Rows.uptoBulk] at hp
    have := hv.1.2.1
    omega
end Go.Proofs.Ytehieahpocbboaa.G
