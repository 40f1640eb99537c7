/-
  bournelaw29.small: the fixed example.
-/
import Derived.Test.YtehieahpocbboaaHAdmitted
import Derived.Test.YtehieahpocbboaaK27
import Derived.Test.YtehieahpocbboaaK22
namespace Go.Proofs.Ytehieahpocbboaa.G
open Go.RowKit Go.Proofs.YtehieahpocbboaaW.PrintWords Go.Proofs.YtehieahpocbboaaW.PrintLast Go.Proofs.YtehieahpocbboaaW.PrintMore
set_option linter.unusedVariables false
set_option linter.unusedSimpArgs false
def aN : S29 := ⟨0, 1, ⟨7, 3, [[⟨1, 4⟩]]⟩⟩
def bN : S29 := ⟨2, 5, ⟨7, 0, []⟩⟩
theorem small0 : admitted 0 [bN, aN] = [] := by decide +kernel
instance : DecidableEq S54 := fun a b => if h : a.f0 = b.f0 ∧ a.f1 = b.f1 then isTrue (by cases a; cases b; simp_all) else isFalse (by rintro rfl; exact h ⟨rfl, rfl⟩)
instance : DecidableEq S27 := fun a b => if h : a.f0 = b.f0 ∧ a.f1 = b.f1 ∧ a.f2 = b.f2 then isTrue (by cases a; cases b; simp_all) else isFalse (by rintro rfl; exact h ⟨rfl, rfl, rfl⟩)
theorem small4 : admitted 4 [bN, aN] = [aN.f2] := by decide +kernel
theorem small5 : admitted 5 [bN, aN] = [] := by decide +kernel
theorem smallC1 : cast_Covers.f 100 7 3 aN.f2.f2 3 [2] = some true := by decide +kernel
theorem smallC2 : cast_Covers.f 100 7 3 aN.f2.f2 3 [5] = some false := by decide +kernel
theorem smallC3 : cast_Covers.f 100 7 3 aN.f2.f2 4 [2] = some false := by decide +kernel
theorem smallOk : OkN [bN, aN] := by decide +kernel
theorem C_span {W : World} {p : Nat} {x y : Int} (h0 : W.cell? ⟨p, 0, none⟩ = some (.int .i64 x)) (h1 : W.cell? ⟨p, 1, none⟩ = some (.int .i64 y)) : Kd.C k54 W (some ⟨p, 0, none⟩) 1 [⟨x, y⟩] := by
  refine ⟨rfl, by omega, fun _ => ⟨_, rfl, fun j s hj => ?_⟩⟩
  match j, hj with
  | 0, hj =>
    simp at hj; subst hj
    refine ⟨[.int .i64 x, .int .i64 y], rfl, k54_mk W ⟨x, y⟩, fun i u hu => ?_⟩
    match i, hu with
    | 0, hu => simp at hu; subst hu; simpa [Addr.add] using h0
    | 1, hu => simp at hu; subst hu; simpa [Addr.add, k54, Kd.iso, Kd.pair, Kd.int, Kd.scalar] using h1
theorem C_row {W : World} {p q : Nat} {r : List S54} (h0 : W.cell? ⟨q, 0, none⟩ = some (.slice (some ⟨p, 0, none⟩) r.length r.length)) (hC : Kd.C k54 W (some ⟨p, 0, none⟩) r.length r) : Kd.C (Kd.slice 54 k54) W (some ⟨q, 0, none⟩) 1 [r] := by
  refine ⟨rfl, by omega, fun _ => ⟨_, rfl, fun j s hj => ?_⟩⟩
  match j, hj with
  | 0, hj =>
    simp at hj; subst hj
    refine ⟨[.slice (some ⟨p, 0, none⟩) r.length r.length], rfl, ⟨_, _, rfl, Nat.le_refl _, hC⟩, fun i u hu => ?_⟩
    match i, hu with
    | 0, hu => simp at hu; subst hu; simpa [Addr.add] using h0
theorem C_nilrow (W : World) : Kd.C (Kd.slice 54 k54) W none 0 [] := ⟨rfl, by omega, fun h => absurd h (by omega)⟩
theorem C_ints {W : World} {p : Nat} {x : Int} (h0 : W.cell? ⟨p, 0, none⟩ = some (.int .i64 x)) : Kd.C (Kd.int .i64) W (some ⟨p, 0, none⟩) 1 [x] := by
  refine ⟨rfl, by omega, fun _ => ⟨_, rfl, fun j s hj => ?_⟩⟩
  match j, hj with
  | 0, hj =>
    simp at hj; subst hj
    refine ⟨[.int .i64 x], rfl, rfl, fun i u hu => ?_⟩
    match i, hu with
    | 0, hu => simp at hu; subst hu; simpa [Addr.add] using h0
/-- Two news in a row. -/
theorem C_two {W : World} {q : Nat} {a b : S29} {A B : Option Addr} {ca cb : Nat}
    (ha : Kd.C (Kd.slice 54 k54) W A a.f2.f2.length a.f2.f2) (hca : a.f2.f2.length ≤ ca) (hb : Kd.C (Kd.slice 54 k54) W B b.f2.f2.length b.f2.f2) (hcb : b.f2.f2.length ≤ cb)
    (h : ∀ i u, ([.int .i64 a.f0, .int .i64 a.f1, .int .i64 a.f2.f0, .int .i64 a.f2.f1, .slice A a.f2.f2.length ca, .int .i64 b.f0, .int .i64 b.f1, .int .i64 b.f2.f0, .int .i64 b.f2.f1, .slice B b.f2.f2.length cb] : List Value)[i]? = some u → W.cell? ⟨q, i, none⟩ = some u) :
    Kd.C k29 W (some ⟨q, 0, none⟩) 2 [a, b] := by
  have had : ∀ m, (⟨q, 0, none⟩ : Addr).add m = ⟨q, m, none⟩ := fun m => by unfold Addr.add; split <;> simp_all
  refine ⟨rfl, by omega, fun _ => ⟨_, rfl, fun j s hj => ?_⟩⟩
  match j, hj with
  | 0, hj =>
    simp at hj; subst hj
    refine ⟨_, rfl, k29_mk W a hca ha, fun i u hu => ?_⟩
    rw [had]
    refine h _ u ?_
    rw [show 0 * k29.sz + i = i by omega]
    have hlt := (List.getElem?_eq_some_iff.1 hu).1
    match i, hlt, hu with
    | 0, _, hu => exact hu
    | 1, _, hu => exact hu
    | 2, _, hu => exact hu
    | 3, _, hu => exact hu
    | 4, _, hu => exact hu
  | 1, hj =>
    simp at hj; subst hj
    refine ⟨_, rfl, k29_mk W b hcb hb, fun i u hu => ?_⟩
    rw [had]
    refine h _ u ?_
    rw [show 1 * k29.sz + i = 5 + i by show 1 * 5 + i = _; omega]
    have hlt := (List.getElem?_eq_some_iff.1 hu).1
    match i, hlt, hu with
    | 0, _, hu => exact hu
    | 1, _, hu => exact hu
    | 2, _, hu => exact hu
    | 3, _, hu => exact hu
    | 4, _, hu => exact hu
theorem smallAdm {W w : World} {A : Option Addr} (hb : Below W.heap.size W w) (hC : Kd.C k29 W A 2 [bN, aN]) (h : Int) (hh : IsI h) (r : List S27) (hr : admitted h [bN, aN] = r) :
    Calls Try.prog 11 #[.slice A 2 2, .int .i64 h] w fun e w' => ∃ B c, e = .returned (.slice B r.length c) ∧ r.length ≤ c ∧ Kd.C k27 w' B r.length r ∧ Below w.heap.size w w' := by
  subst hr
  exact Admitted_calls A 2 [bN, aN] h w (Kd.C_below hC hb) (Nat.le_refl _) smallOk hh
theorem smallCov {W w : World} {q p : Nat} (hb : Below W.heap.size W w) (hC : Kd.C (Kd.slice 54 k54) W (some ⟨q, 0, none⟩) 1 [[⟨1, 4⟩]]) (hour x : Int) (r : Bool) (hr : cast_Covers.f 100 7 3 aN.f2.f2 hour [x] = some r) (hx : w.cell? ⟨p, 0, none⟩ = some (.int .i64 x)) :
    Calls Try.prog 19 #[.agg #[.int .i64 7, .int .i64 3, .slice (some ⟨q, 0, none⟩) 1 1], .int .i64 hour, .slice (some ⟨p, 0, none⟩) 1 1] w fun e w' => e = .returned (.bool r) ∧ Below w.heap.size w w' :=
  cast_Covers.calls 100 7 3 (some ⟨q, 0, none⟩) 1 aN.f2.f2 hour (some ⟨p, 0, none⟩) 1 [x] r w (Kd.C_below hC hb) (Nat.le_refl _) (C_ints hx) (Nat.le_refl _) hr
theorem cell_new (w : World) (x : Int) : (w.alloc (.cells #[.int .i64 x] 3)).cell? ⟨w.heap.size, 0, none⟩ = some (.int .i64 x) := by simp [go_sem]
theorem mk138 (w : World) : (Instr.makeSlice 41 (.int .i64 1) (.int .i64 1)).run Try.prog w = .ok (.slice (some ⟨w.heap.size, 0, none⟩) 1 1) (w.alloc (.cells #[.string ⟨#[]⟩, .int .i64 0, .int .i64 0, .int .i64 0, .slice none 0 0, .slice none 0 0, .int .i64 0, .int .i64 0, .int .i64 0, .int .i64 0, .int .i64 0, .slice none 0 0] 138)) := by kernel_rfl
theorem smallRf : cast_Right.f 100 (⟨#[]⟩ : ByteArray) [] 0 [z138] [] [] [] [] [] [] 0 7 3 aN.f2.f2 = some true := by decide +kernel
theorem C138_one (w : World) : Kd.C k138 (w.alloc (.cells #[.string ⟨#[]⟩, .int .i64 0, .int .i64 0, .int .i64 0, .slice none 0 0, .slice none 0 0, .int .i64 0, .int .i64 0, .int .i64 0, .int .i64 0, .int .i64 0, .slice none 0 0] 138)) (some ⟨w.heap.size, 0, none⟩) 1 [z138] := by
  refine ⟨rfl, by omega, fun _ => ⟨_, rfl, fun j s hj => ?_⟩⟩
  match j, hj with
  | 0, hj =>
    simp at hj; subst hj
    refine ⟨_, rfl, k138_mk _ z138 (A4 := none) (c4 := 0) (Nat.le_refl _) (Kd.C_nil _ _) (A5 := none) (c5 := 0) (Nat.le_refl _) (Kd.C_nil _ _) (A11 := none) (c11 := 0) (Nat.le_refl _) (Kd.C_nil _ _), fun i u hu => ?_⟩
    have hlt := (List.getElem?_eq_some_iff.1 hu).1
    have had : ∀ m, (⟨w.heap.size, 0, none⟩ : Addr).add m = ⟨w.heap.size, m, none⟩ := fun m => by unfold Addr.add; split <;> simp_all
    rw [had, show 0 * k138.sz + i = i by omega, Lib.cell_of_heap (heap_alloc_new w _)]
    rw [List.getElem?_toArray]
    exact hu
theorem smallRight {W w : World} {q : Nat} (hb : Below W.heap.size W (w.alloc (.cells #[.string ⟨#[]⟩, .int .i64 0, .int .i64 0, .int .i64 0, .slice none 0 0, .slice none 0 0, .int .i64 0, .int .i64 0, .int .i64 0, .int .i64 0, .int .i64 0, .slice none 0 0] 138))) (hC : Kd.C (Kd.slice 54 k54) W (some ⟨q, 0, none⟩) 1 [[⟨1, 4⟩]]) :
    Calls Try.prog 16 #[.agg #[.string ⟨#[]⟩, .slice none 0 0, .int .i64 0, .slice (some ⟨w.heap.size, 0, none⟩) 1 1, .slice none 0 0, .slice none 0 0, .slice none 0 0, .slice none 0 0, .slice none 0 0, .slice none 0 0, .int .i64 0], .agg #[.int .i64 7, .int .i64 3, .slice (some ⟨q, 0, none⟩) 1 1]]
      (w.alloc (.cells #[.string ⟨#[]⟩, .int .i64 0, .int .i64 0, .int .i64 0, .slice none 0 0, .slice none 0 0, .int .i64 0, .int .i64 0, .int .i64 0, .int .i64 0, .int .i64 0, .slice none 0 0] 138)) fun e w' => e = .returned (.bool true) ∧ Below (w.alloc (.cells #[.string ⟨#[]⟩, .int .i64 0, .int .i64 0, .int .i64 0, .slice none 0 0, .slice none 0 0, .int .i64 0, .int .i64 0, .int .i64 0, .int .i64 0, .int .i64 0, .slice none 0 0] 138)).heap.size (w.alloc (.cells #[.string ⟨#[]⟩, .int .i64 0, .int .i64 0, .int .i64 0, .slice none 0 0, .slice none 0 0, .int .i64 0, .int .i64 0, .int .i64 0, .int .i64 0, .int .i64 0, .slice none 0 0] 138)) w' :=
  cast_Right.calls 100 ⟨#[]⟩ none 0 [] 0 (some ⟨w.heap.size, 0, none⟩) 1 [z138] none 0 [] none 0 [] none 0 [] none 0 [] none 0 [] none 0 [] 0 7 3 (some ⟨q, 0, none⟩) 1 aN.f2.f2 true _ (Kd.C_nil _ _) (Nat.le_refl _) (C138_one w) (Nat.le_refl _) (Kd.C_nil _ _) (Nat.le_refl _) (Kd.C_nil _ _) (Nat.le_refl _) (Kd.C_nil _ _) (Nat.le_refl _) (Kd.C_nil _ _) (Nat.le_refl _) (Kd.C_nil _ _) (Nat.le_refl _) (Kd.C_nil _ _) (Nat.le_refl _) (Kd.C_below hC hb) (Nat.le_refl _) smallRf
theorem smallKeep {w1 w w2 : World} {ad : Addr} {q : Nat} {x y z u : Value} (hb : Below w.heap.size w w2) (h : Below w1.heap.size w1 w ∧ w.cell? ad = some x ∧ w.cell? ⟨q, 2, none⟩ = some y ∧ w.cell? ⟨q, 3, none⟩ = some z ∧ w.cell? ⟨q, 4, none⟩ = some u) :
    Below w1.heap.size w1 w2 ∧ w2.cell? ad = some x ∧ w2.cell? ⟨q, 2, none⟩ = some y ∧ w2.cell? ⟨q, 3, none⟩ = some z ∧ w2.cell? ⟨q, 4, none⟩ = some u := by
  obtain ⟨h0, a0, a1, a2, a3⟩ := h
  have key : ∀ {a : Addr} {v : Value}, w.cell? a = some v → w2.cell? a = some v := fun hc => (hb.cell (World.block_lt_of_cell? w _ hc)).trans hc
  exact ⟨h0.trans (hb.mono h0.size), key a0, key a1, key a2, key a3⟩
theorem smallB {W w1 w : World} {ad : Addr} {q : Nat} {x y z u : Value} (hb : Below W.heap.size W w1) (h : Below w1.heap.size w1 w ∧ w.cell? ad = some x ∧ w.cell? ⟨q, 2, none⟩ = some y ∧ w.cell? ⟨q, 3, none⟩ = some z ∧ w.cell? ⟨q, 4, none⟩ = some u) : Below W.heap.size W w := hb.trans (h.1.mono hb.size)
set_option maxHeartbeats 8000000 in
set_option maxRecDepth 100000 in
theorem small_calls (w : World) :
    Calls Try.prog 9 #[] w fun e w' => e = .returned (.bool true) ∧ Below w.heap.size w w' := by
  have hu29 := Try.underlying29
  have hu27 := Try.underlying27
  have hu48 := Try.underlying48
  go_enter Try.func9, Try.ntmps9
  go_wp2_with fail
  obtain ⟨W0, hW0⟩ : ∃ W0 : World, W0 = (((((w.alloc (Obj.cells #[Value.int IntKind.i64 1, Value.int IntKind.i64 4] 54)).alloc (Obj.cells #[Value.slice (some { block := w.heap.size, off := 0 }) 1 1] 50)).alloc (Obj.cells #[Value.int IntKind.i64 0, Value.int IntKind.i64 1, Value.int IntKind.i64 7, Value.int IntKind.i64 3, Value.slice (some { block := w.heap.size + 1, off := 0 }) 1 1] 29)).alloc
          (Obj.cells #[Value.int IntKind.i64 2, Value.int IntKind.i64 5, Value.int IntKind.i64 7, Value.int IntKind.i64 0, Value.slice none 0 0] 29)).alloc
      (Obj.cells #[Value.int IntKind.i64 2, Value.int IntKind.i64 5, Value.int IntKind.i64 7, Value.int IntKind.i64 0, Value.slice none 0 0, Value.int IntKind.i64 0, Value.int IntKind.i64 1, Value.int IntKind.i64 7, Value.int IntKind.i64 3, Value.slice (some { block := w.heap.size + 1, off := 0 }) 1 1] 29)) := ⟨_, rfl⟩
  have hB0 : Below w.heap.size w W0 := by
    rw [hW0]
    exact (((((Below.refl _ _).alloc (Nat.le_refl _) _).alloc (by simp) _).alloc (by simp; omega) _).alloc (by simp; omega) _).alloc (by simp; omega) _
  have hp0 : W0.cell? ⟨w.heap.size, 0, none⟩ = some (.int .i64 1) := by rw [hW0]; simp [go_sem]
  have hp1 : W0.cell? ⟨w.heap.size, 1, none⟩ = some (.int .i64 4) := by rw [hW0]; simp [go_sem]
  have hq0 : W0.cell? ⟨w.heap.size + 1, 0, none⟩ = some (.slice (some ⟨w.heap.size, 0, none⟩) 1 1) := by rw [hW0]; simp [go_sem]
  have hrow : Kd.C (Kd.slice 54 k54) W0 (some ⟨w.heap.size + 1, 0, none⟩) 1 [[⟨1, 4⟩]] := C_row hq0 (C_span hp0 hp1)
  have hbox : ∀ i u, ([.int .i64 0, .int .i64 1, .int .i64 7, .int .i64 3, .slice (some ⟨w.heap.size + 1, 0, none⟩) 1 1] : List Value)[i]? = some u → W0.cell? ⟨w.heap.size + 1 + 1, i, none⟩ = some u := by
    intro i u hu
    rw [hW0]
    match i, hu with
    | 0, hu => simp at hu; subst hu; simp [go_sem]
    | 1, hu => simp at hu; subst hu; simp [go_sem]
    | 2, hu => simp at hu; subst hu; simp [go_sem]
    | 3, hu => simp at hu; subst hu; simp [go_sem]
    | 4, hu => simp at hu; subst hu; simp [go_sem]
  have hnews : Kd.C k29 W0 (some ⟨w.heap.size + 1 + 1 + 1 + 1, 0, none⟩) 2 [bN, aN] := by
    refine C_two (a := bN) (b := aN) (A := none) (ca := 0) (B := some ⟨w.heap.size + 1, 0, none⟩) (cb := 1) (C_nilrow W0) (Nat.le_refl _) hrow (Nat.le_refl _) ?_
    intro i u hu
    rw [hW0]
    match i, hu with
    | 0, hu => simp [bN, aN] at hu; subst hu; simp [go_sem]
    | 1, hu => simp [bN, aN] at hu; subst hu; simp [go_sem]
    | 2, hu => simp [bN, aN] at hu; subst hu; simp [go_sem]
    | 3, hu => simp [bN, aN] at hu; subst hu; simp [go_sem]
    | 4, hu => simp [bN, aN] at hu; subst hu; simp [go_sem]
    | 5, hu => simp [bN, aN] at hu; subst hu; simp [go_sem]
    | 6, hu => simp [bN, aN] at hu; subst hu; simp [go_sem]
    | 7, hu => simp [bN, aN] at hu; subst hu; simp [go_sem]
    | 8, hu => simp [bN, aN] at hu; subst hu; simp [go_sem]
    | 9, hu => simp [bN, aN] at hu; subst hu; simp [go_sem]
  rw [← hW0]
  clear hp0 hp1 hq0
  have HB0 := Aside0.mk hB0
  have HRow := Aside0.mk hrow
  have HNews := Aside0.mk hnews
  have HBox := Aside0.mk hbox
  clear hW0 hB0 hrow hnews hbox
  refine (smallAdm (Below.refl _ _) HNews.out 4 (by unfold IsI; omega) [aN.f2] small4).mono ?_
  rintro e w1 ⟨B, c1, rfl, hc1, hC1, hb1⟩
  obtain ⟨ad, _, _, hB, x0, _⟩ := at_T27 hC1 0 (by omega) (by simp)
  subst hB
  have x0' : w1.cell? ad = some (.int .i64 7) := by
    rw [show ad.add ((0 : Int).toNat * 3) = ad by simp [Addr.add]] at x0
    exact x0
  have y0 := (hb1.cell (World.block_lt_of_cell? W0 _ (HBox.out 2 _ rfl))).trans (HBox.out 2 _ rfl)
  have y1 := (hb1.cell (World.block_lt_of_cell? W0 _ (HBox.out 3 _ rfl))).trans (HBox.out 3 _ rfl)
  have y2 := (hb1.cell (World.block_lt_of_cell? W0 _ (HBox.out 4 _ rfl))).trans (HBox.out 4 _ rfl)
  have HB1 := Aside0.mk hb1
  have HS0 : Aside0 (Below w1.heap.size w1 w1 ∧ w1.cell? ad = some (.int .i64 7) ∧ w1.cell? ⟨w.heap.size + 1 + 1, 2, none⟩ = some (.int .i64 7) ∧ w1.cell? ⟨w.heap.size + 1 + 1, 3, none⟩ = some (.int .i64 3) ∧ w1.cell? ⟨w.heap.size + 1 + 1, 4, none⟩ = some (.slice (some ⟨w.heap.size + 1, 0, none⟩) 1 1)) := ⟨⟨Below.refl _ _, x0', y0, y1, y2⟩⟩
  clear hb1 x0 x0' y0 y1 y2 hC1
  go_wp2
  have hmk := mk138
  go_region_held3 (fun w' => Below w1.heap.size w1 w' ∧ w'.cell? ad = some (.int .i64 7) ∧ w'.cell? ⟨w.heap.size + 1 + 1, 2, none⟩ = some (.int .i64 7) ∧ w'.cell? ⟨w.heap.size + 1 + 1, 3, none⟩ = some (.int .i64 3) ∧ w'.cell? ⟨w.heap.size + 1 + 1, 4, none⟩ = some (.slice (some ⟨w.heap.size + 1, 0, none⟩) 1 1))
    (first | exact smallKeep (below_drew1 (Below.refl _ _)) HS0.out | exact smallKeep hb (by assumption) | exact smallKeep ((Below.refl _ _).alloc (Nat.le_refl _) _) (by assumption))
    (first
      | (go_at_call 11; (with_reducible refine (smallAdm (smallB HB1.out (by assumption)) HNews.out 0 (by unfold IsI; omega) [] small0).mono ?_); rintro e w' ⟨B2, c2, rfl, _, _, hb⟩)
      | (go_at_call 11; (with_reducible refine (smallAdm (smallB HB1.out (by assumption)) HNews.out 5 (by unfold IsI; omega) [] small5).mono ?_); rintro e w' ⟨B2, c2, rfl, _, _, hb⟩)
      | (go_at_call 19; (with_reducible refine (smallCov (smallB HB1.out (by assumption)) HRow.out 3 2 true smallC1 (cell_new _ _)).mono ?_); rintro e w' ⟨rfl, hb⟩)
      | (go_at_call 19; (with_reducible refine (smallCov (smallB HB1.out (by assumption)) HRow.out 3 5 false smallC2 (cell_new _ _)).mono ?_); rintro e w' ⟨rfl, hb⟩)
      | (go_at_call 19; (with_reducible refine (smallCov (smallB HB1.out (by assumption)) HRow.out 4 2 false smallC3 (cell_new _ _)).mono ?_); rintro e w' ⟨rfl, hb⟩)
      | (go_at_call 16; (with_reducible refine (smallRight (smallB HB1.out (by assumption)) HRow.out).mono ?_); rintro e w' ⟨rfl, hb⟩))
  all_goals
    rename_i hHeld
    have HE := Aside0.mk (HB0.out.trans ((smallB HB1.out hHeld).mono HB0.out.size))
    go_wp2
    go_ret
    exact ⟨rfl, HE.out⟩
def bournelaw29_small.f (k : Nat) : Option Bool := some true
theorem bournelaw29_small.calls (k : Nat) (r : Bool) (w : World) (h : bournelaw29_small.f k = some r) :
    Calls Try.prog 9 #[] w fun e w' => e = .returned (.bool r) ∧ Below w.heap.size w w' := by
  obtain rfl := Option.some.inj h
  exact small_calls w
theorem bournelaw29_small.mono : ∀ k, LeO (bournelaw29_small.f k) (bournelaw29_small.f (k + 1)) := fun k => LeO.refl _
end Go.Proofs.Ytehieahpocbboaa.G
