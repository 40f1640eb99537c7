/-
  The arguments of the series laws, opened.
-/
import Derived.Test.YtioekkdodggakaaDoorK0
import Derived.Test.YtioekkdodggakaaDoorHKeys
import Derived.Test.YtioekkdodggakaaDoorHGram
import Derived.SizedLaws
import Derived.ChangeArms
import Derived.ChangeSlices
import Derived.OpenShut
import Derived.DataElems
import Derived.Lib.LaidTab
/-
  Arguments opened: what the form reads as data, a kind of the printed words reads, too.
-/
set_option linter.unusedSimpArgs false
set_option linter.unusedVariables false
namespace Go.Proofs.YtioekkdodggakaaDoor.G
open Go.RowKit Go.Proofs.YtioekkdodggakaaDoorW.PrintWords Go.Proofs.YtioekkdodggakaaDoorW.PrintLast Go.Proofs.YtioekkdodggakaaDoorW.PrintMore
set_option linter.unusedVariables false
set_option linter.unusedSimpArgs false

section
variable {H : Type} (enc : TypeId × Value → H) (P : Program) (W : World)

/-- Whatever reads as data at type t, kind d reads, and ok holds of it. -/
def Opens {α : Type} (d : Kd α) (t : TypeId) (ok : α → Prop) : Prop :=
  ∀ fuel cs x, DataW.trod enc P W 0 (fun _ => true) true fuel t cs = some x → ∃ y : α, d.K W y cs ∧ ok y

variable {enc P W}

theorem opens_int {t : TypeId} {k : IntKind} (hu : P.underlying t = some (.int k)) : Opens enc P W (Kd.int k) t (fun n => (Lit.int k n).wf = true) := by
  intro fuel cs x h
  cases fuel with
  | zero => simp [DataW.trod] at h
  | succ n =>
    unfold DataW.trod at h
    rw [hu] at h
    split at h <;> simp_all
    obtain ⟨⟨rfl, hw⟩, _⟩ := h
    exact ⟨_, rfl, hw⟩

theorem opens_bool {t : TypeId} (hu : P.underlying t = some .bool) : Opens enc P W Kd.bool t (fun _ => True) := by
  intro fuel cs x h
  cases fuel with
  | zero => simp [DataW.trod] at h
  | succ n =>
    unfold DataW.trod at h
    rw [hu] at h
    split at h <;> simp_all [-Bool.exists_bool]
    exact ⟨_, rfl⟩

theorem opens_string {t : TypeId} (hu : P.underlying t = some .string) : Opens enc P W Kd.string t (fun s => s.size ≤ maxLen) := by
  intro fuel cs x h
  cases fuel with
  | zero => simp [DataW.trod] at h
  | succ n =>
    unfold DataW.trod at h
    rw [hu] at h
    split at h <;> simp_all
    exact ⟨_, rfl, h.1⟩

/-- From each to all: a list of witnesses. -/
theorem list_of {α : Type} {Q : Nat → α → Prop} : ∀ n, (∀ i, i < n → ∃ y, Q i y) → ∃ ys : List α, ys.length = n ∧ ∀ i y, ys[i]? = some y → Q i y
  | 0, _ => ⟨[], rfl, fun i y h => by simp at h⟩
  | n + 1, h => by
    obtain ⟨ys, hl, hq⟩ := list_of n (fun i hi => h i (by omega))
    obtain ⟨y, hy⟩ := h n (by omega)
    refine ⟨ys ++ [y], by simp [hl], fun i z hz => ?_⟩
    rcases Nat.lt_or_ge i ys.length with hi | hi
    · rw [List.getElem?_append_left hi] at hz
      exact hq i z hz
    · rw [List.getElem?_append_right hi] at hz
      have h0 : i - ys.length = 0 := by
        have := (List.getElem?_eq_some_iff.1 hz).1
        simp at this
        omega
      rw [h0] at hz
      have hz' : y = z := by simpa using hz
      subst hz'
      have : i = n := by omega
      subst this
      exact hy

theorem opens_slice {α : Type} {d : Kd α} {t e : TypeId} {ok : α → Prop} (hu : P.underlying t = some (.slice e)) (hc : P.cellsOf e = d.sz) (hO : Opens enc P W d e ok) :
    Opens enc P W (Kd.slice e d) t (fun xs => xs.length ≤ maxLen ∧ ∀ x ∈ xs, ok x) := by
  intro fuel cs x h
  rcases DataW.trod_slice hu h with ⟨rfl, _⟩ | ⟨a, len, cap, elems, rest, n, rfl, rfl, _, _, h1, h2, h3, h4, _⟩
  · exact ⟨[], ⟨none, 0, rfl, Nat.le_refl _, rfl, by simp, fun hp => absurd hp (by simp)⟩, by simp [maxLen], fun x hx => by simp at hx⟩
  · obtain ⟨ys, hyl, hys⟩ := list_of (Q := fun i y => ok y ∧ ∃ c, c.length = d.sz ∧ d.K W y c ∧ ∀ m u, c[m]? = some u → W.cell? (a.add (i * d.sz + m)) = some u) len (fun i hi => by
      have h5 := h4 i hi
      rw [List.getElem?_eq_getElem (by omega)] at h5
      obtain ⟨c, hcs, htr⟩ := Option.bind_eq_some_iff.1 h5
      obtain ⟨y, hK, hok⟩ := hO _ _ _ htr
      refine ⟨y, hok, c, d.K_len hK, hK, fun m u hm => ?_⟩
      obtain ⟨_, hl, hcell⟩ := World.cells?_some hcs
      have hml := (List.getElem?_eq_some_iff.1 hm).1
      have := hcell m (by rw [← hl]; exact hml)
      rw [hm] at this
      rw [hc, Go.Addr.add_add] at this
      exact this)
    refine ⟨ys, ⟨some a, cap, by rw [hyl], by omega, rfl, by simp only [maxLen] at h2; omega, fun hp => ⟨a, rfl, fun j p hj => ?_⟩⟩, by omega, fun x hx => ?_⟩
    · obtain ⟨_, c, h6, h7, h8⟩ := hys j p hj
      exact ⟨c, h6, h7, h8⟩
    · obtain ⟨i, hi, rfl⟩ := List.getElem_of_mem hx
      exact (hys i _ (List.getElem?_eq_getElem hi)).1
end
end Go.Proofs.YtioekkdodggakaaDoor.G
namespace Go.Proofs.YtioekkdodggakaaDoor.G
open Go.RowKit Go.Proofs.YtioekkdodggakaaDoorW.PrintWords Go.Proofs.YtioekkdodggakaaDoorW.PrintLast Go.Proofs.YtioekkdodggakaaDoorW.PrintMore
set_option linter.unusedVariables false
set_option linter.unusedSimpArgs false
variable {H : Type} {enc : TypeId × Value → H} {W : World}

theorem cut_step (cs : List Value) (off s : Nat) : cs.drop off = (cs.drop off).take s ++ cs.drop (off + s) := by
  rw [← List.drop_drop, List.take_append_drop]
theorem isI_of {x : Int} (h : (Lit.int .i64 x).wf = true) : IsI x := by
  simp [Lit.wf, IntKind.min, IntKind.max, IntKind.bits, IntKind.signed] at h
  unfold IsI; omega
theorem opensI : Opens enc Tryd.prog W (Kd.int .i64) 3 IsI := by
  intro fuel cs x h
  obtain ⟨y, k, w⟩ := opens_int Tryd.underlying3 _ _ _ h
  exact ⟨y, k, isI_of w⟩
/-- A telegram of machine numbers. -/
def WfG (x : S29) : Prop := IsI x.f0 ∧ IsI x.f1 ∧ IsI x.f2 ∧ IsI x.f3
theorem opens29 : Opens enc Tryd.prog W k29 29 WfG := by
  intro fuel cs x h
  obtain ⟨xs, n, rfl, _, hl, hxl, hf⟩ := DataW.trod_struct Tryd.underlying29 h
  have c3 : Tryd.prog.cellsOf 3 = 1 := by kernel_rfl
  have c9 : Tryd.prog.cellsOf 9 = 1 := by kernel_rfl
  have ct : Tryd.prog.cellsOf 29 = 5 := by kernel_rfl
  have h0 := hf 0 _ rfl
  have h1 := hf 1 _ rfl
  have h2 := hf 2 _ rfl
  have h3 := hf 3 _ rfl
  have h4 := hf 4 _ rfl
  have hx : xs.length = 5 := hxl
  have hcl : cs.length ≤ 4 + 1 := by rw [ct] at hl; exact Nat.le_of_eq hl
  rw [List.getElem?_eq_getElem (by omega)] at h0 h1 h2 h3 h4
  obtain ⟨y0, k0, w0⟩ := opensI _ _ _ h0
  obtain ⟨y1, k1, w1⟩ := opensI _ _ _ h1
  obtain ⟨y2, k2, w2⟩ := opensI _ _ _ h2
  obtain ⟨y3, k3, w3⟩ := opensI _ _ _ h3
  obtain ⟨y4, k4, w4⟩ := opens_string Tryd.underlying9 _ _ _ h4
  replace k0 : (Kd.int .i64).K W y0 ((cs.drop 0).take 1) := by have hq : (Kd.int .i64).K W y0 ((cs.drop 0).take (Tryd.prog.cellsOf 3)) := k0; rw [c3] at hq; exact hq
  replace k1 : (Kd.int .i64).K W y1 ((cs.drop 1).take 1) := by have hq : (Kd.int .i64).K W y1 ((cs.drop 1).take (Tryd.prog.cellsOf 3)) := k1; rw [c3] at hq; exact hq
  replace k2 : (Kd.int .i64).K W y2 ((cs.drop 2).take 1) := by have hq : (Kd.int .i64).K W y2 ((cs.drop 2).take (Tryd.prog.cellsOf 3)) := k2; rw [c3] at hq; exact hq
  replace k3 : (Kd.int .i64).K W y3 ((cs.drop 3).take 1) := by have hq : (Kd.int .i64).K W y3 ((cs.drop 3).take (Tryd.prog.cellsOf 3)) := k3; rw [c3] at hq; exact hq
  replace k4 : (Kd.string).K W y4 ((cs.drop 4).take 1) := by have hq : (Kd.string).K W y4 ((cs.drop 4).take (Tryd.prog.cellsOf 9)) := k4; rw [c9] at hq; exact hq
  refine ⟨⟨y0, y1, y2, y3, y4⟩, ⟨_, _, ?_, k0, ⟨_, _, rfl, k1, ⟨_, _, rfl, k2, ⟨_, _, rfl, k3, k4⟩⟩⟩⟩, w0, w1, w2, w3⟩
  have e1 := cut_step cs 0 1
  have e2 := cut_step cs 1 1
  have e3 := cut_step cs 2 1
  have e4 := cut_step cs 3 1
  have e5 := cut_step cs 4 1
  rw [List.drop_of_length_le (show cs.length ≤ 4 + 1 from hcl), List.append_nil] at e5
  rw [List.drop_zero] at e1
  show cs = (cs.drop 0).take 1 ++ ((cs.drop 1).take 1 ++ ((cs.drop 2).take 1 ++ ((cs.drop 3).take 1 ++ ((cs.drop 4).take 1))))
  rw [List.drop_zero, ← e5, ← e4, ← e3, ← e2]
  exact e1
theorem opens22 : Opens enc Tryd.prog W (Kd.slice 29 k29) 22 (fun xs => xs.length ≤ maxLen ∧ ∀ x ∈ xs, WfG x) := opens_slice Tryd.underlying22 (by kernel_rfl) opens29
/-- A slice argument: its value, and what it reads as; a nil one has no room. -/
theorem open_row {α : Type} {d : Kd α} {e t : TypeId} {ok : List α → Prop} (hu : Tryd.prog.underlying t = some (.slice e)) (hO : Opens enc Tryd.prog W (Kd.slice e d) t ok) {a : Option Addr} {len cap : Nat} {dd : DataW H} {p : List MemPlace} (h : DataW.Trod enc Tryd.prog W 0 (fun _ => true) true t (.slice a len cap) dd p) :
    ∃ l : List α, len = l.length ∧ Kd.C d W a l.length l ∧ l.length ≤ cap ∧ ok l ∧ (a = none → cap = 0) := by
  obtain ⟨fuel, hf⟩ := h
  obtain ⟨l, ⟨A, c, hcs, hle, hC⟩, hok⟩ := hO _ _ _ hf
  have hcs' : ([.slice a len cap] : List Value) = [.slice A l.length c] := by simpa [Value.cells] using hcs
  injection hcs' with hcs' _
  injection hcs' with h1 h2 h3
  subst h1 h2 h3
  refine ⟨l, rfl, hC, hle, hok, fun hn => ?_⟩
  subst hn
  rw [hcs] at hf
  rcases DataW.trod_slice hu hf with ⟨hv, _⟩ | ⟨a, len, cap, elems, rest, n, _, hv, _⟩
  · simp only [List.cons.injEq, Value.slice.injEq] at hv
    exact hv.1.2.2
  · simp only [List.cons.injEq, Value.slice.injEq] at hv
    exact absurd hv.1.1 (by simp)
/-- A struct argument: its cells. -/
theorem open_struct {α : Type} {d : Kd α} {t : TypeId} {ok : α → Prop} (hO : Opens enc Tryd.prog W d t ok) {v : Value} {dd : DataW H} {p : List MemPlace} (h : DataW.Trod enc Tryd.prog W 0 (fun _ => true) true t v dd p) : ∃ y : α, d.K W y v.cells.toList ∧ ok y := by
  obtain ⟨fuel, hf⟩ := h
  exact hO _ _ _ hf
theorem agg_of_cells {v : Value} {l : List Value} (h : v.cells.toList = l) (hl : 2 ≤ l.length) : v = .agg l.toArray := by
  subst h
  cases v <;> first | (simp [Value.cells] at hl; done) | (simp [Value.cells])
/-- A slice argument takes no more bytes than the form's reach. -/
theorem sized_row {P : Program} {ts : List TypeId} {ds : List (DataW H)} {j : Nat} {t e : TypeId} {a : Option Addr} {len cap : Nat} {d : DataW H} {p : List MemPlace} {base : Nat} {sp : Nat → Bool} {held : Bool}
    (hsz : (DataW.weightsEach P ts ds).all (· ≤ reachBytes) = true) (ht : ts[j]? = some t) (hd : ds[j]? = some d) (hu : P.underlying t = some (.slice e)) {B : Nat} (hB : P.bytesOf e = B) (h : DataW.Trod enc P W base sp held t (.slice a len cap) d p) : len * B ≤ 140737488351232 := by
  obtain ⟨fuel, hf⟩ := h
  have hcs : (Value.slice a len cap).cells.toList = [.slice a len cap] := by simp [Value.cells]
  rw [hcs] at hf
  rcases DataW.trod_slice hu hf with ⟨hv, _⟩ | ⟨b, n, c, elems, rest, m, _, hv, hx, _, _, _, hl, _⟩
  · simp only [List.cons.injEq, Value.slice.injEq] at hv
    rw [hv.1.2.1]; simp
  · simp only [List.cons.injEq, Value.slice.injEq] at hv
    obtain ⟨hx, _⟩ := Prod.mk.inj hx
    subst hx
    have z := sized_slice hsz ht hd hu
    rw [hB, List.length_map, List.length_map] at z
    have h1 : len ≤ elems.length + rest.length := by have := hv.1.2.1; omega
    exact Nat.le_trans (Nat.mul_le_mul_right _ h1) z
/-! the tables of limits -/
theorem tab_of {P : Program} {name : String} {k : IntKind} {zs : List Int} {rest : List (String × DataW Unit)} {ps : List MemPlace} {g : Nat} {t e : TypeId} {n : Nat}
    (hg : P.globalNamed name = some g) (hty : (P.globals[g]?).map (·.type) = some t) (ht : P.underlying t = some (.array n e)) (he : P.underlying e = some (.int k)) (hce : P.cellsOf e = 1) (hct : P.cellsOf t = n)
    (h : DataW.LaidVars P W ((name, Lib.tabData k zs) :: rest) ps) : Lib.TabIs P W name k zs ∧ ∃ q, DataW.LaidVars P W rest q := by
  obtain ⟨g', t', cs, fuel, p, q, hg', ht', hvar, hd, hr, _⟩ := h
  obtain rfl := Option.some.inj (hg.symm.trans hg')
  obtain rfl := Option.some.inj (hty.symm.trans ht')
  refine ⟨?_, q, hr⟩
  unfold Lib.TabIs
  rw [hvar, ← Lib.cells_of_tab ht he hce hct hd]
theorem gLows : Tryd.prog.globalNamed "bourne/gram.lows" = some 1 := by kernel_rfl
theorem gHighs : Tryd.prog.globalNamed "bourne/gram.highs" = some 0 := by kernel_rfl
theorem gLowsT : (Tryd.prog.globals[1]?).map (·.type) = some 96 := by kernel_rfl
theorem gHighsT : (Tryd.prog.globals[0]?).map (·.type) = some 96 := by kernel_rfl
theorem c96 : Tryd.prog.cellsOf 96 = 4 := by kernel_rfl
theorem c3 : Tryd.prog.cellsOf 3 = 1 := by kernel_rfl
theorem gl_of (h : laidMet Tryd.prog [("bourne/gram.lows", Lib.tabData .i64 [0, 0, 0, -1099511627776]), ("bourne/gram.highs", Lib.tabData .i64 [127, 1099511627776, 1006633019, 1099511627776])] W) : Gl W := by
  obtain ⟨ps, hv, _⟩ := h
  obtain ⟨hl, q, hr⟩ := tab_of gLows gLowsT Tryd.underlying96 Tryd.underlying3 c3 c96 hv
  obtain ⟨hh, _⟩ := tab_of gHighs gHighsT Tryd.underlying96 Tryd.underlying3 c3 c96 hr
  exact ⟨hh.cell gHighs 0 (by decide), hh.cell gHighs 1 (by decide), hh.cell gHighs 2 (by decide), hh.cell gHighs 3 (by decide), hl.cell gLows 0 (by decide), hl.cell gLows 1 (by decide), hl.cell gLows 2 (by decide), hl.cell gLows 3 (by decide)⟩
end Go.Proofs.YtioekkdodggakaaDoor.G
