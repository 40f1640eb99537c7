import Derived.Test.YtioekkdodggakaaDoorK0
import Derived.Lib.LaidTab
import Derived.Shelf.RegionOpenPlain
import Derived.Shelf.SlSortCmp.QuietGrown
import Derived.ChangeKeysEq
import Derived.Laws.StructEq
import Derived.Deep.DeepCutAuto
/-
  gram.of, clamp, formed, Right.
-/
namespace Go.Proofs.YtioekkdodggakaaDoor.G
open Go.RowKit Go.Proofs.YtioekkdodggakaaDoorW.PrintWords Go.Proofs.YtioekkdodggakaaDoorW.PrintLast Go.Proofs.YtioekkdodggakaaDoorW.PrintMore
attribute [local go_sem] max2_int min2_int max_two min_two
set_option linter.unusedVariables false
set_option linter.unusedSimpArgs false

/-- The two tables of limits. -/
structure Gl (w : World) : Prop where
  h0 : w.cell? ⟨0, 0, none⟩ = some (.int .i64 127)
  h1 : w.cell? ⟨0, 1, none⟩ = some (.int .i64 1099511627776)
  h2 : w.cell? ⟨0, 2, none⟩ = some (.int .i64 1006633019)
  h3 : w.cell? ⟨0, 3, none⟩ = some (.int .i64 1099511627776)
  l0 : w.cell? ⟨1, 0, none⟩ = some (.int .i64 0)
  l1 : w.cell? ⟨1, 1, none⟩ = some (.int .i64 0)
  l2 : w.cell? ⟨1, 2, none⟩ = some (.int .i64 0)
  l3 : w.cell? ⟨1, 3, none⟩ = some (.int .i64 (-1099511627776))
theorem Gl.below {w w' : World} (h : Gl w) (hb : Below w.heap.size w w') : Gl w' := by
  have mv : ∀ (a : Addr) (v : Value), w.cell? a = some v → w'.cell? a = some v := fun a v ha => (hb.cell (World.block_lt_of_cell? w a ha)).trans ha
  exact ⟨mv _ _ h.h0, mv _ _ h.h1, mv _ _ h.h2, mv _ _ h.h3, mv _ _ h.l0, mv _ _ h.l1, mv _ _ h.l2, mv _ _ h.l3⟩

theorem al0 (w : World) (o : Obj) : (w.alloc o).heap[w.heap.size]? = some o := by
  show (w.heap.push o)[w.heap.size]? = some o
  simp
theorem al1 (w : World) (o o' : Obj) : ((w.alloc o).alloc o').heap[w.heap.size + 1]? = some o' := by
  have := al0 (w.alloc o) o'
  rwa [show (w.alloc o).heap.size = w.heap.size + 1 by simp] at this
theorem of_calls (a b c d : Int) (s : ByteArray) (w : World) :
    Calls Tryd.prog 42 #[.agg #[.int .i64 a, .int .i64 b, .int .i64 c, .int .i64 d, .string s]] w fun e w' => e = .returned (.agg #[.int .i64 a, .int .i64 b, .int .i64 c, .int .i64 d]) ∧ Below w.heap.size w w' := by
  have hu29 := Tryd.underlying29
  have hu96 := Tryd.underlying96
  go_enter Tryd.func42, Tryd.ntmps42
  go_wp2
  refine bodyPost_ret (results_cell_row rfl _ _ (w.heap.size + 1) 96 #[.int .i64 a, .int .i64 b, .int .i64 c, .int .i64 d] (0, 0) _ rfl (al1 _ _ _) hu96 rfl (by kernel_rfl)) rfl ?_
  exact ⟨rfl, ((Below.refl _ _).alloc (Nat.le_refl _) _).alloc (by simp) _⟩

set_option maxHeartbeats 4000000 in
set_option maxRecDepth 100000 in
theorem clamp_calls (a b c d : Int) (w : World) (hg : Gl w) :
    Calls Tryd.prog 43 #[.agg #[.int .i64 a, .int .i64 b, .int .i64 c, .int .i64 d]] w fun e w' => e = .returned (.agg #[.int .i64 (mx (mn a 127) 0), .int .i64 (mx (mn b 1099511627776) 0), .int .i64 (mx (mn c 1006633019) 0), .int .i64 (mx (mn d 1099511627776) (-1099511627776))]) ∧ Below w.heap.size w w' := by
  have hu96 := Tryd.underlying96
  have mixed : Tryd.prog.follows .mixedOrders = true := by kernel_rfl
  have HG := Aside0.mk hg
  clear hg
  go_enter Tryd.func43, Tryd.ntmps43
  go_wp2
  go_loopg [4] 4 (fun kx s4 wr => ∃ i : Nat, i + kx = 4 ∧ s4 = .int .i64 i ∧ ∃ cs : Array Value, Aside0 (wr.heap[w.heap.size]? = some (.cells cs 96 (0, 0))) ∧ Aside0 (∃ v, wr.heap[w.heap.size + 1]? = some (.cells #[v, .int .i64 0, .int .i64 0, .int .i64 0] 96 (0, 0))) ∧ Aside0 (Below w.heap.size w wr) ∧ Aside0 ((i = 0 → cs = #[.int .i64 a, .int .i64 b, .int .i64 c, .int .i64 d]) ∧ (i = 1 → cs = #[.int .i64 (mx (mn a 127) 0), .int .i64 b, .int .i64 c, .int .i64 d]) ∧ (i = 2 → cs = #[.int .i64 (mx (mn a 127) 0), .int .i64 (mx (mn b 1099511627776) 0), .int .i64 c, .int .i64 d]) ∧ (i = 3 → cs = #[.int .i64 (mx (mn a 127) 0), .int .i64 (mx (mn b 1099511627776) 0), .int .i64 (mx (mn c 1006633019) 0), .int .i64 d]) ∧ (i = 4 → cs = #[.int .i64 (mx (mn a 127) 0), .int .i64 (mx (mn b 1099511627776) 0), .int .i64 (mx (mn c 1006633019) 0), .int .i64 (mx (mn d 1099511627776) (-1099511627776))])))
  case atStart => exact ⟨0, by omega, rfl, _, ⟨blk_alloc (al0 _ _) _⟩, ⟨⟨.int .i64 0, al1 _ _ _⟩⟩, ⟨((Below.refl _ _).alloc (Nat.le_refl _) _).alloc (by simp) _⟩, ⟨fun _ => rfl, fun h => by omega, fun h => by omega, fun h => by omega, fun h => by omega⟩⟩
  case round =>
    obtain ⟨i, hik, rfl, cs, BK, BR, HB, HX⟩ := hrel
    rcases (show i = 0 ∨ i = 1 ∨ i = 2 ∨ i = 3 ∨ i = 4 by omega) with hi | hi | hi | hi | hi
    · subst hi
      obtain rfl : cs = #[.int .i64 a, .int .i64 b, .int .i64 c, .int .i64 d] := HX.out.1 rfl
      have G := HG.out.below HB.out
      have g0 : wr.cell? ⟨0, 0, none⟩ = some (.int .i64 127) := G.h0
      have g1 : wr.cell? ⟨1, 0, none⟩ = some (.int .i64 0) := G.l0
      have c0 : wr.cell? ⟨w.heap.size, 0, none⟩ = some (.int .i64 a) := (blk_cell BK.out 0).trans rfl
      have f0 := blk_frozen BK.out 0
      obtain ⟨u, hu⟩ : ∃ u, mn a 127 = u := ⟨_, rfl⟩
      have hu_ : (if 127 < a then 127 else a) = u := hu
      obtain ⟨v, hv⟩ : ∃ v, mx u 0 = v := ⟨_, rfl⟩
      have hv_ : (if u < 0 then 0 else u) = v := hv
      have HV := Aside0.mk hv
      have HU := Aside0.mk hu
      clear G hu hv HX
      go_wp2_with fail
      go_big_region_o
      all_goals go_wp2
      go_roundg 3
      case measure => omega
      case rel =>
        have e : v = (mx (mn a 127) 0) := by rw [← HV.out, ← HU.out]
        refine ⟨1, by omega, by simp, #[.int .i64 (mx (mn a 127) 0), .int .i64 b, .int .i64 c, .int .i64 d], ⟨blk_put (cs := #[.int .i64 a, .int .i64 b, .int .i64 c, .int .i64 d]) (blk_drew BK.out) 0 _ (by rw [e]; rfl)⟩, ?_, ?_, ⟨fun h => by omega, fun _ => rfl, fun h => by omega, fun h => by omega, fun h => by omega⟩⟩
        · exact ⟨by obtain ⟨v0, h0⟩ := BR.out; exact ⟨v0, (Below.heap_setCell _ _ _ _ (by simp)).trans h0⟩⟩
        · exact ⟨HB.out.drew.setCell (Nat.le_refl _) _⟩
    · subst hi
      obtain rfl : cs = #[.int .i64 (mx (mn a 127) 0), .int .i64 b, .int .i64 c, .int .i64 d] := HX.out.2.1 rfl
      have G := HG.out.below HB.out
      have g0 : wr.cell? ⟨0, 1, none⟩ = some (.int .i64 1099511627776) := G.h1
      have g1 : wr.cell? ⟨1, 1, none⟩ = some (.int .i64 0) := G.l1
      have c0 : wr.cell? ⟨w.heap.size, 1, none⟩ = some (.int .i64 b) := (blk_cell BK.out 1).trans rfl
      have f0 := blk_frozen BK.out 1
      obtain ⟨u, hu⟩ : ∃ u, mn b 1099511627776 = u := ⟨_, rfl⟩
      have hu_ : (if 1099511627776 < b then 1099511627776 else b) = u := hu
      obtain ⟨v, hv⟩ : ∃ v, mx u 0 = v := ⟨_, rfl⟩
      have hv_ : (if u < 0 then 0 else u) = v := hv
      have HV := Aside0.mk hv
      have HU := Aside0.mk hu
      clear G hu hv HX
      go_wp2_with fail
      go_big_region_o
      all_goals go_wp2
      go_roundg 2
      case measure => omega
      case rel =>
        have e : v = (mx (mn b 1099511627776) 0) := by rw [← HV.out, ← HU.out]
        refine ⟨2, by omega, by simp, #[.int .i64 (mx (mn a 127) 0), .int .i64 (mx (mn b 1099511627776) 0), .int .i64 c, .int .i64 d], ⟨blk_put (cs := #[.int .i64 (mx (mn a 127) 0), .int .i64 b, .int .i64 c, .int .i64 d]) (blk_drew BK.out) 1 _ (by rw [e]; rfl)⟩, ?_, ?_, ⟨fun h => by omega, fun h => by omega, fun _ => rfl, fun h => by omega, fun h => by omega⟩⟩
        · exact ⟨by obtain ⟨v0, h0⟩ := BR.out; exact ⟨v0, (Below.heap_setCell _ _ _ _ (by simp)).trans h0⟩⟩
        · exact ⟨HB.out.drew.setCell (Nat.le_refl _) _⟩
    · subst hi
      obtain rfl : cs = #[.int .i64 (mx (mn a 127) 0), .int .i64 (mx (mn b 1099511627776) 0), .int .i64 c, .int .i64 d] := HX.out.2.2.1 rfl
      have G := HG.out.below HB.out
      have g0 : wr.cell? ⟨0, 2, none⟩ = some (.int .i64 1006633019) := G.h2
      have g1 : wr.cell? ⟨1, 2, none⟩ = some (.int .i64 0) := G.l2
      have c0 : wr.cell? ⟨w.heap.size, 2, none⟩ = some (.int .i64 c) := (blk_cell BK.out 2).trans rfl
      have f0 := blk_frozen BK.out 2
      obtain ⟨u, hu⟩ : ∃ u, mn c 1006633019 = u := ⟨_, rfl⟩
      have hu_ : (if 1006633019 < c then 1006633019 else c) = u := hu
      obtain ⟨v, hv⟩ : ∃ v, mx u 0 = v := ⟨_, rfl⟩
      have hv_ : (if u < 0 then 0 else u) = v := hv
      have HV := Aside0.mk hv
      have HU := Aside0.mk hu
      clear G hu hv HX
      go_wp2_with fail
      go_big_region_o
      all_goals go_wp2
      go_roundg 1
      case measure => omega
      case rel =>
        have e : v = (mx (mn c 1006633019) 0) := by rw [← HV.out, ← HU.out]
        refine ⟨3, by omega, by simp, #[.int .i64 (mx (mn a 127) 0), .int .i64 (mx (mn b 1099511627776) 0), .int .i64 (mx (mn c 1006633019) 0), .int .i64 d], ⟨blk_put (cs := #[.int .i64 (mx (mn a 127) 0), .int .i64 (mx (mn b 1099511627776) 0), .int .i64 c, .int .i64 d]) (blk_drew BK.out) 2 _ (by rw [e]; rfl)⟩, ?_, ?_, ⟨fun h => by omega, fun h => by omega, fun h => by omega, fun _ => rfl, fun h => by omega⟩⟩
        · exact ⟨by obtain ⟨v0, h0⟩ := BR.out; exact ⟨v0, (Below.heap_setCell _ _ _ _ (by simp)).trans h0⟩⟩
        · exact ⟨HB.out.drew.setCell (Nat.le_refl _) _⟩
    · subst hi
      obtain rfl : cs = #[.int .i64 (mx (mn a 127) 0), .int .i64 (mx (mn b 1099511627776) 0), .int .i64 (mx (mn c 1006633019) 0), .int .i64 d] := HX.out.2.2.2.1 rfl
      have G := HG.out.below HB.out
      have g0 : wr.cell? ⟨0, 3, none⟩ = some (.int .i64 1099511627776) := G.h3
      have g1 : wr.cell? ⟨1, 3, none⟩ = some (.int .i64 (-1099511627776)) := G.l3
      have c0 : wr.cell? ⟨w.heap.size, 3, none⟩ = some (.int .i64 d) := (blk_cell BK.out 3).trans rfl
      have f0 := blk_frozen BK.out 3
      obtain ⟨u, hu⟩ : ∃ u, mn d 1099511627776 = u := ⟨_, rfl⟩
      have hu_ : (if 1099511627776 < d then 1099511627776 else d) = u := hu
      obtain ⟨v, hv⟩ : ∃ v, mx u (-1099511627776) = v := ⟨_, rfl⟩
      have hv_ : (if u < (-1099511627776) then (-1099511627776) else u) = v := hv
      have HV := Aside0.mk hv
      have HU := Aside0.mk hu
      clear G hu hv HX
      go_wp2_with fail
      go_big_region_o
      all_goals go_wp2
      go_roundg 0
      case measure => omega
      case rel =>
        have e : v = (mx (mn d 1099511627776) (-1099511627776)) := by rw [← HV.out, ← HU.out]
        refine ⟨4, by omega, by simp, #[.int .i64 (mx (mn a 127) 0), .int .i64 (mx (mn b 1099511627776) 0), .int .i64 (mx (mn c 1006633019) 0), .int .i64 (mx (mn d 1099511627776) (-1099511627776))], ⟨blk_put (cs := #[.int .i64 (mx (mn a 127) 0), .int .i64 (mx (mn b 1099511627776) 0), .int .i64 (mx (mn c 1006633019) 0), .int .i64 d]) (blk_drew BK.out) 3 _ (by rw [e]; rfl)⟩, ?_, ?_, ⟨fun h => by omega, fun h => by omega, fun h => by omega, fun h => by omega, fun _ => rfl⟩⟩
        · exact ⟨by obtain ⟨v0, h0⟩ := BR.out; exact ⟨v0, (Below.heap_setCell _ _ _ _ (by simp)).trans h0⟩⟩
        · exact ⟨HB.out.drew.setCell (Nat.le_refl _) _⟩
    · subst hi
      obtain rfl : cs = #[.int .i64 (mx (mn a 127) 0), .int .i64 (mx (mn b 1099511627776) 0), .int .i64 (mx (mn c 1006633019) 0), .int .i64 (mx (mn d 1099511627776) (-1099511627776))] := HX.out.2.2.2.2 rfl
      obtain ⟨v0, h0⟩ := BR.out
      have c0 : wr.cell? ⟨w.heap.size, 0, none⟩ = some (.int .i64 (mx (mn a 127) 0)) := (blk_cell BK.out 0).trans rfl
      have c1 : wr.cell? ⟨w.heap.size, 1, none⟩ = some (.int .i64 (mx (mn b 1099511627776) 0)) := (blk_cell BK.out 1).trans rfl
      have c2 : wr.cell? ⟨w.heap.size, 2, none⟩ = some (.int .i64 (mx (mn c 1006633019) 0)) := (blk_cell BK.out 2).trans rfl
      have c3 : wr.cell? ⟨w.heap.size, 3, none⟩ = some (.int .i64 (mx (mn d 1099511627776) (-1099511627776))) := (blk_cell BK.out 3).trans rfl
      have f0 := blk_frozen h0 0
      have f1 := blk_frozen h0 1
      have f2 := blk_frozen h0 2
      have f3 := blk_frozen h0 3
      have d0 := blk_cell h0 0
      have d1 := blk_cell h0 1
      have d2 := blk_cell h0 2
      have d3 := blk_cell h0 3
      have H0 := Aside0.mk h0
      clear h0 HX
      go_wp2
      refine bodyPost_ret (results_cell_row rfl _ _ (w.heap.size + 1) 96 #[.int .i64 (mx (mn a 127) 0), .int .i64 (mx (mn b 1099511627776) 0), .int .i64 (mx (mn c 1006633019) 0), .int .i64 (mx (mn d 1099511627776) (-1099511627776))] (0, 0) _ rfl (blk_put (cs := #[.int .i64 (mx (mn a 127) 0), .int .i64 (mx (mn b 1099511627776) 0), .int .i64 (mx (mn c 1006633019) 0), .int .i64 0]) (blk_put (cs := #[.int .i64 (mx (mn a 127) 0), .int .i64 (mx (mn b 1099511627776) 0), .int .i64 0, .int .i64 0]) (blk_put (cs := #[.int .i64 (mx (mn a 127) 0), .int .i64 0, .int .i64 0, .int .i64 0]) (blk_put (cs := #[v0, .int .i64 0, .int .i64 0, .int .i64 0]) H0.out 0 _ rfl) 1 _ rfl) 2 _ rfl) 3 _ rfl) hu96 rfl (by kernel_rfl)) rfl ?_
      exact ⟨rfl, (((HB.out.setCell (Nat.le_succ _) _).setCell (Nat.le_succ _) _).setCell (Nat.le_succ _) _).setCell (Nat.le_succ _) _⟩

theorem eqI96 (a b c d a' b' c' d' : Int) (w : World) :
    (Op.equalIn 10000 96 (.agg #[.int .i64 a, .int .i64 b, .int .i64 c, .int .i64 d]) (.agg #[.int .i64 a', .int .i64 b', .int .i64 c', .int .i64 d'])).run Tryd.prog w = .ok (decide (a = a' ∧ b = b' ∧ c = c' ∧ d = d')) w := by
  have hu := Tryd.underlying96
  have h3 := Tryd.underlying3
  have hc : Tryd.prog.cellsOf 3 = 1 := by kernel_rfl
  obtain ⟨i3, hi3⟩ : ∃ i, Tryd.prog.info? 3 = some i := by
    cases h : Tryd.prog.info? 3 with
    | some i => exact ⟨i, rfl⟩
    | none => exact absurd (show (Tryd.prog.info? 3).isSome = true by kernel_rfl) (by rw [h]; simp)
  have pt : ∀ (xs : Array Value) (i : Nat) (x : Int) (w' : World), xs[i]? = some (.int .i64 x) → (part 3 xs i).run Tryd.prog w' = .ok (.int .i64 x) w' := fun xs i x w' hx => by
    simp [part, Tryd.isAgg3, hx]
  have eq3 : ∀ (x y : Int) (w' : World), (Op.equalIn 9999 3 (.int .i64 x) (.int .i64 y)).run Tryd.prog w' = .ok (x == y) w' := fun x y w' => run_equalIn_int w' 9998 3 .i64 .i64 x y h3
  have ha : ∀ xs ys : Array Value, (Op.equalIn 10000 96 (.agg xs) (.agg ys)).run Tryd.prog w = (Op.eqItems 9999 3 1 xs ys [0, 1, 2, 3]).run Tryd.prog w := fun xs ys => (run_equalIn_array w 9999 xs ys hu hi3).trans (by rw [hc]; rfl)
  rw [ha]
  simp only [Op.eqItems, Sem.run_bind, Nat.mul_one]
  rw [pt _ 0 a w rfl]; simp only [Result.andThen_ok]; rw [pt _ 0 a' w rfl]
  simp only [Result.andThen_ok, eq3]
  cases h0 : a == a' with
  | false => simp [beq_eq_false_iff_ne.1 h0]
  | true =>
    obtain rfl := beq_iff_eq.1 h0
    simp only [Bool.not_true, Bool.false_eq_true, if_false, Sem.run_bind]
    rw [pt _ 1 b w rfl]; simp only [Result.andThen_ok]; rw [pt _ 1 b' w rfl]
    simp only [Result.andThen_ok, eq3]
    cases h1 : b == b' with
    | false => simp [beq_eq_false_iff_ne.1 h1]
    | true =>
      obtain rfl := beq_iff_eq.1 h1
      simp only [Bool.not_true, Bool.false_eq_true, if_false, Sem.run_bind]
      rw [pt _ 2 c w rfl]; simp only [Result.andThen_ok]; rw [pt _ 2 c' w rfl]
      simp only [Result.andThen_ok, eq3]
      cases h2 : c == c' with
      | false => simp [beq_eq_false_iff_ne.1 h2]
      | true =>
        obtain rfl := beq_iff_eq.1 h2
        simp only [Bool.not_true, Bool.false_eq_true, if_false, Sem.run_bind]
        rw [pt _ 3 d w rfl]; simp only [Result.andThen_ok]; rw [pt _ 3 d' w rfl]
        simp only [Result.andThen_ok, eq3]
        cases h3 : d == d' with
        | false => simp [beq_eq_false_iff_ne.1 h3]
        | true => simp [beq_iff_eq.1 h3]

/-- A telegram's numbers lie within their limits, its tag is of 8 bytes. -/
def formedB (x : S29) : Bool := decide (0 ≤ x.f0 ∧ x.f0 ≤ 127 ∧ 0 ≤ x.f1 ∧ x.f1 ≤ 1099511627776 ∧ 0 ≤ x.f2 ∧ x.f2 ≤ 1006633019 ∧ -1099511627776 ≤ x.f3 ∧ x.f3 ≤ 1099511627776 ∧ x.f4.size = 8)
theorem clamp_iff (x : S29) : (x.f0 = mx (mn x.f0 127) 0 ∧ x.f1 = mx (mn x.f1 1099511627776) 0 ∧ x.f2 = mx (mn x.f2 1006633019) 0 ∧ x.f3 = mx (mn x.f3 1099511627776) (-1099511627776)) ↔ (0 ≤ x.f0 ∧ x.f0 ≤ 127 ∧ 0 ≤ x.f1 ∧ x.f1 ≤ 1099511627776 ∧ 0 ≤ x.f2 ∧ x.f2 ≤ 1006633019 ∧ -1099511627776 ≤ x.f3 ∧ x.f3 ≤ 1099511627776) := by
  unfold mx mn
  constructor
  · rintro ⟨h1, h2, h3, h4⟩
    (repeat' split at *) <;> omega
  · rintro ⟨h1, h2, h3, h4, h5, h6, h7, h8⟩
    (repeat' split) <;> omega
def sd (w : World) (n : Nat) : World := { w with drawn := n }
theorem below_sd (w : World) (n : Nat) (os : Array Obj) : Below w.heap.size w (Go.Sort.grow (sd w n) os) := ⟨rfl, rfl, rfl, by simp [Go.Sort.grow, sd], fun k hk => Go.Sort.heap_grow_old (sd w n) os hk⟩
theorem grow_of_below {W W' : World} (h : Below W.heap.size W W') : ∃ p : GrownBy, W' = Go.Sort.grow (sd W p.n) p.os := by
  refine ⟨⟨W'.drawn, W'.heap.extract W.heap.size W'.heap.size⟩, ?_⟩
  have e : W.heap ++ W'.heap.extract W.heap.size W'.heap.size = W'.heap := by
    apply Array.ext_getElem?
    intro i
    rw [Array.getElem?_append]
    split
    · rename_i hi; exact (h.block i hi).symm
    · rename_i hi
      rw [Array.getElem?_extract]
      have hs := h.size
      split
      · congr 1; omega
      · rw [Array.getElem?_eq_none (by omega)]
  show W' = { W with heap := W.heap ++ _, drawn := W'.drawn }
  rw [e, ← h.os, ← h.tape, ← h.output]
theorem grown_sd {W w' : World} {n : Nat} {os : Array Obj} (h : Below (Go.Sort.grow (sd W n) os).heap.size (Go.Sort.grow (sd W n) os) w') : ∃ p : GrownBy, w' = Go.Sort.grow (sd W p.n) p.os :=
  grow_of_below ((below_sd W n os).trans (h.mono (below_sd W n os).size))
theorem region_sd {P : Program} {id : Nat} {Q : Exit → Act → World → Prop} {a : Act} {w : World} {l : List Oper} (hm : P.follows .mixedOrders = true) (hB : Region.lexB .any l.toArray = true)
    (h : wpQuiet P l.toArray (fun w' => ∃ p : GrownBy, w' = Go.Sort.grow (sd w p.n) p.os) (fun a' => ∀ w', (∃ p : GrownBy, w' = Go.Sort.grow (sd w p.n) p.os) → Q .normal a' w') l a) : (Code.region id l.toArray true).wp P Q a w :=
  wp_region_quiet (C := fun w' => ∃ p : GrownBy, w' = Go.Sort.grow (sd w p.n) p.os) hm hB ⟨⟨w.drawn + 1, #[]⟩, by rw [Go.Sort.grow_empty]; rfl⟩ (by simpa using h)
/-- Five cells of a block, in a world later than W. -/
def FiveAt (W w : World) (b : Nat) (x0 x1 x2 x3 x4 : Value) : Prop :=
  Below W.heap.size W w ∧ w.cell? ⟨b, 0, none⟩ = some x0 ∧ w.cell? ⟨b, 1, none⟩ = some x1 ∧ w.cell? ⟨b, 2, none⟩ = some x2 ∧ w.cell? ⟨b, 3, none⟩ = some x3 ∧ w.cell? ⟨b, 4, none⟩ = some x4
theorem FiveAt.step {W w w2 : World} {b : Nat} {x0 x1 x2 x3 x4 : Value} (hb : Below w.heap.size w w2) (h : FiveAt W w b x0 x1 x2 x3 x4) : FiveAt W w2 b x0 x1 x2 x3 x4 := by
  obtain ⟨h0, a0, a1, a2, a3, a4⟩ := h
  have mv : ∀ (a : Addr) (v : Value), w.cell? a = some v → w2.cell? a = some v := fun a v ha => (hb.cell (World.block_lt_of_cell? w a ha)).trans ha
  exact ⟨h0.trans (hb.mono h0.size), mv _ _ a0, mv _ _ a1, mv _ _ a2, mv _ _ a3, mv _ _ a4⟩
theorem fiveBelow {W w : World} {R : Prop} (h : Below W.heap.size W w ∧ R) : Below W.heap.size W w := h.1
set_option maxHeartbeats 8000000 in
set_option maxRecDepth 100000 in
theorem formed_calls (x : S29) (w : World) (hg : Gl w) :
    Calls Tryd.prog 26 #[.agg #[.int .i64 x.f0, .int .i64 x.f1, .int .i64 x.f2, .int .i64 x.f3, .string x.f4]] w fun e w' => e = .returned (.bool (formedB x)) ∧ Below w.heap.size w w' := by
  have hu29 := Tryd.underlying29
  have hu96 := Tryd.underlying96
  have mixed : Tryd.prog.follows .mixedOrders = true := by kernel_rfl
  have HG := Aside0.mk hg
  clear hg
  go_enter Tryd.func26, Tryd.ntmps26
  obtain ⟨W1, hW1⟩ : ∃ W1 : World, W1 = w.alloc (.cells #[.int .i64 x.f0, .int .i64 x.f1, .int .i64 x.f2, .int .i64 x.f3, .string x.f4] 29) := ⟨_, rfl⟩
  have hT0 : FiveAt W1 W1 w.heap.size (.int .i64 x.f0) (.int .i64 x.f1) (.int .i64 x.f2) (.int .i64 x.f3) (.string x.f4) := by
    rw [hW1]
    exact ⟨Below.refl _ _, (blk_cell (al0 _ _) 0).trans rfl, (blk_cell (al0 _ _) 1).trans rfl, (blk_cell (al0 _ _) 2).trans rfl, (blk_cell (al0 _ _) 3).trans rfl, (blk_cell (al0 _ _) 4).trans rfl⟩
  have HB1 : Aside0 (Below w.heap.size w W1) := ⟨by rw [hW1]; exact (Below.refl _ _).alloc (Nat.le_refl _) _⟩
  have HG1 : Aside0 (Gl W1) := ⟨HG.out.below HB1.out⟩
  have HT0 := Aside0.mk hT0
  have HW1 := Aside0.mk hW1
  clear hW1 hT0
  go_upto_region 1 with fail
  rw [← HW1.out]
  have heq : ∀ w' : World, (Op.equalIn 10000 96 (.agg #[.int .i64 x.f0, .int .i64 x.f1, .int .i64 x.f2, .int .i64 x.f3]) (.agg #[.int .i64 (mx (mn x.f0 127) 0), .int .i64 (mx (mn x.f1 1099511627776) 0), .int .i64 (mx (mn x.f2 1006633019) 0), .int .i64 (mx (mn x.f3 1099511627776) (-1099511627776))])).run Tryd.prog w' = .ok (decide (x.f0 = mx (mn x.f0 127) 0 ∧ x.f1 = mx (mn x.f1 1099511627776) 0 ∧ x.f2 = mx (mn x.f2 1006633019) 0 ∧ x.f3 = mx (mn x.f3 1099511627776) (-1099511627776))) w' := fun w' => eqI96 _ _ _ _ _ _ _ _ w'
  have HC := Aside0.mk (clamp_iff x)
  obtain ⟨y0, hy0⟩ : ∃ y, y = mx (mn x.f0 127) 0 := ⟨_, rfl⟩
  obtain ⟨y1, hy1⟩ : ∃ y, y = mx (mn x.f1 1099511627776) 0 := ⟨_, rfl⟩
  obtain ⟨y2, hy2⟩ : ∃ y, y = mx (mn x.f2 1006633019) 0 := ⟨_, rfl⟩
  obtain ⟨y3, hy3⟩ : ∃ y, y = mx (mn x.f3 1099511627776) (-1099511627776) := ⟨_, rfl⟩
  have HCL : Aside0 (∀ W : World, Gl W → Calls Tryd.prog 43 #[.agg #[.int .i64 x.f0, .int .i64 x.f1, .int .i64 x.f2, .int .i64 x.f3]] W fun e w' => e = .returned (.agg #[.int .i64 y0, .int .i64 y1, .int .i64 y2, .int .i64 y3]) ∧ Below W.heap.size W w') := ⟨fun W hW => by rw [hy0, hy1, hy2, hy3]; exact clamp_calls _ _ _ _ W hW⟩
  rw [← hy0, ← hy1, ← hy2, ← hy3] at heq HC
  clear hy0 hy1 hy2 hy3
  by_cases hP : x.f0 = y0 ∧ x.f1 = y1 ∧ x.f2 = y2 ∧ x.f3 = y3
  · rw [decide_eq_true hP] at heq
    have HF : Aside0 (formedB x = (decide (x.f4.size = 8))) := ⟨by
      obtain ⟨h1, h2, h3, h4, h5, h6, h7, h8⟩ := HC.out.1 hP
      unfold formedB
      by_cases h9 : x.f4.size = 8
      · rw [decide_eq_true h9, decide_eq_true ⟨h1, h2, h3, h4, h5, h6, h7, h8, h9⟩]
      · rw [decide_eq_false h9, decide_eq_false (fun h => h9 h.2.2.2.2.2.2.2.2)]⟩
    clear hP
    by_cases h9 : x.f4.size = 8
    · have h9z : ((x.f4.size : Int) == 8) = true := by rw [beq_iff_eq]; omega
      have HF := Aside0.mk (HF.out.trans (decide_eq_true h9))
      clear h9
      go_region_held3 (fun w' => Below W1.heap.size W1 w' ∧ w'.cell? ⟨w.heap.size, 0, none⟩ = some (.int .i64 x.f0) ∧ w'.cell? ⟨w.heap.size, 1, none⟩ = some (.int .i64 x.f1) ∧ w'.cell? ⟨w.heap.size, 2, none⟩ = some (.int .i64 x.f2) ∧ w'.cell? ⟨w.heap.size, 3, none⟩ = some (.int .i64 x.f3) ∧ w'.cell? ⟨w.heap.size, 4, none⟩ = some (.string x.f4)) (first | assumption | exact FiveAt.step (below_drew1 (Below.refl _ _)) HT0.out | exact FiveAt.step hb (by assumption))
        (first | (go_at_call 42; (with_reducible refine (of_calls x.f0 x.f1 x.f2 x.f3 x.f4 _).mono ?_); rintro e w' ⟨rfl, hb⟩) | (go_at_call 43; (with_reducible refine (HCL.out _ (HG1.out.below (fiveBelow (by assumption)))).mono ?_); rintro e w' ⟨rfl, hb⟩))
      all_goals
        rename_i hHeld
        have HBS := Aside0.mk (HB1.out.trans ((fiveBelow hHeld).mono HB1.out.size))
        clear hHeld
        go_wp2
        go_ret
        exact ⟨by rw [HF.out]; first | done | rfl | (simp; done) | (simp [*]; done), HBS.out⟩
    · have h9z : ((x.f4.size : Int) == 8) = false := by rw [beq_eq_false_iff_ne]; omega
      have HF := Aside0.mk (HF.out.trans (decide_eq_false h9))
      clear h9
      go_region_held3 (fun w' => Below W1.heap.size W1 w' ∧ w'.cell? ⟨w.heap.size, 0, none⟩ = some (.int .i64 x.f0) ∧ w'.cell? ⟨w.heap.size, 1, none⟩ = some (.int .i64 x.f1) ∧ w'.cell? ⟨w.heap.size, 2, none⟩ = some (.int .i64 x.f2) ∧ w'.cell? ⟨w.heap.size, 3, none⟩ = some (.int .i64 x.f3) ∧ w'.cell? ⟨w.heap.size, 4, none⟩ = some (.string x.f4)) (first | assumption | exact FiveAt.step (below_drew1 (Below.refl _ _)) HT0.out | exact FiveAt.step hb (by assumption))
        (first | (go_at_call 42; (with_reducible refine (of_calls x.f0 x.f1 x.f2 x.f3 x.f4 _).mono ?_); rintro e w' ⟨rfl, hb⟩) | (go_at_call 43; (with_reducible refine (HCL.out _ (HG1.out.below (fiveBelow (by assumption)))).mono ?_); rintro e w' ⟨rfl, hb⟩))
      all_goals
        rename_i hHeld
        have HBS := Aside0.mk (HB1.out.trans ((fiveBelow hHeld).mono HB1.out.size))
        clear hHeld
        go_wp2
        go_ret
        exact ⟨by rw [HF.out]; first | done | rfl | (simp; done) | (simp [*]; done), HBS.out⟩
  · rw [decide_eq_false hP] at heq
    have HF : Aside0 (formedB x = false) := ⟨decide_eq_false (fun h => hP (HC.out.2 ⟨h.1, h.2.1, h.2.2.1, h.2.2.2.1, h.2.2.2.2.1, h.2.2.2.2.2.1, h.2.2.2.2.2.2.1, h.2.2.2.2.2.2.2.1⟩))⟩
    clear hP
    have mv : ∀ (n : Nat) (os : Array Obj) (b i : Nat) (v : Value), W1.cell? ⟨b, i, none⟩ = some v → (Go.Sort.grow (sd W1 n) os).cell? ⟨b, i, none⟩ = some v := fun n os b i v h => ((below_sd W1 n os).cell (World.block_lt_of_cell? W1 _ h)).trans h
    obtain ⟨_, t0, t1, t2, t3, t4⟩ := HT0.out
    have c0 := fun n os => mv n os _ _ _ t0
    have c1 := fun n os => mv n os _ _ _ t1
    have c2 := fun n os => mv n os _ _ _ t2
    have c3 := fun n os => mv n os _ _ _ t3
    have c4 := fun n os => mv n os _ _ _ t4
    have k42 : ∀ (n : Nat) (os : Array Obj), Calls Tryd.prog 42 #[.agg #[.int .i64 x.f0, .int .i64 x.f1, .int .i64 x.f2, .int .i64 x.f3, .string x.f4]] (Go.Sort.grow (sd W1 n) os) fun e w' => e = .returned (.agg #[.int .i64 x.f0, .int .i64 x.f1, .int .i64 x.f2, .int .i64 x.f3]) ∧ ∃ p : GrownBy, w' = Go.Sort.grow (sd W1 p.n) p.os := fun n os => (of_calls _ _ _ _ _ _).mono fun e w' h => ⟨h.1, grown_sd h.2⟩
    have k43 : ∀ (n : Nat) (os : Array Obj), Calls Tryd.prog 43 #[.agg #[.int .i64 x.f0, .int .i64 x.f1, .int .i64 x.f2, .int .i64 x.f3]] (Go.Sort.grow (sd W1 n) os) fun e w' => e = .returned (.agg #[.int .i64 y0, .int .i64 y1, .int .i64 y2, .int .i64 y3]) ∧ ∃ p : GrownBy, w' = Go.Sort.grow (sd W1 p.n) p.os := fun n os => (HCL.out _ (HG1.out.below (below_sd W1 n os))).mono fun e w' h => ⟨h.1, grown_sd h.2⟩
    clear mv t0 t1 t2 t3 t4
    refine region_sd (by assumption) (by kernel_rfl) ?_
    repeat (quiet_step (first | (go_at_call 42; refine k42 _ _) | (go_at_call 43; refine k43 _ _)))
    refine wpQuiet_nil ?_
    intro _ hw'
    obtain ⟨⟨nq, osq⟩, hw''⟩ := hw'
    subst hw''
    have HBS := Aside0.mk (HB1.out.trans ((below_sd W1 nq osq).mono HB1.out.size))
    clear k42 k43 c0 c1 c2 c3 c4
    go_wp2
    go_ret
    exact ⟨by rw [HF.out]; first | done | rfl | (simp; done) | (simp [*]; done), HBS.out⟩
end Go.Proofs.YtioekkdodggakaaDoor.G
