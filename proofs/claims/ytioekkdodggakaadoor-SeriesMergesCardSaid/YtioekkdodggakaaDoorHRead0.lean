import Derived.Test.YtioekkdodggakaaDoorHSortR
import Derived.Deep.LoopGhost
import Derived.Deep.QuietTactic
import Derived.BigQuiet
/-
  series.Readings: what a round of its first loop does to the map of spans.
-/
namespace Go.Proofs.YtioekkdodggakaaDoor.G
open Go.RowKit Go.Proofs.YtioekkdodggakaaDoorW.PrintWords Go.Proofs.YtioekkdodggakaaDoorW.PrintLast Go.Proofs.YtioekkdodggakaaDoorW.PrintMore
open Go.ChangeMaps (setBlock)
set_option linter.unusedVariables false
set_option linter.unusedSimpArgs false
theorem hourI_isI {x : Int} (h : IsI x) : IsI (hourI x) := by unfold IsI hourI at *; omega
theorem lowH_isI (gs : List S63) (x : S29) : IsI (lowH gs x) := hourI_isI (satI_isI _)
theorem isI_sub {a b : Int} : IsI (satI (a - b)) := satI_isI _
/-- append(v, ys...) as a step of a region that draws. -/
theorem step_append_at {α : Type} [Inhabited α] {enc : α → List Value} {w : World} {o : Oper} {a : Act} {K : Act → World → Prop} {Q : Exit → Act → World → Prop} {ops : Array Oper} (hw : Region.wanted o (yielded ops a.tmps) = true) (s x : Operand) (t : TypeId) (ho : o.op = .call { callee := .builtin .append, args := #[s, x], argTypes := #[t, t] })
    (base : Nat) (e : TypeId) (z : Value) (k bytes : Nat) (ht : Tryd.prog.underlying t = some (.slice e)) (hinfo : (Tryd.prog.info? e).map (fun i => (i.zero, i.size, i.bytes)) = some (some z, k, bytes)) (hzs : z.cells.size = k) (hsz : 0 < k)
    (v : Value) (xs ys : List α) (hk : ∀ x, (enc x).length = k) (hs : a.eval s = v) (hown : Row enc e k w base v xs) (h1 : ∀ x, ∀ u ∈ enc x, u.oneCell' = true)
    (ad : Addr) (m c : Nat) (hx : a.eval x = .slice (some ad) m c) (hm : m = ys.length) (hy : ∀ j u, (ys.flatMap enc)[j]? = some u → w.cell? (ad.add j) = some u)
    (hmx : xs.length + ys.length ≤ maxLen) (hbytes : (xs.length + ys.length) * bytes ≤ 140737488355328) (hbase : base ≤ w.heap.size)
    (h : ∀ v' w', Row enc e k w' base v' (xs ++ ys) → w.grownBy w' v.ownBlock → (v'.ownBlock = v.ownBlock ∨ ∃ b, v'.ownBlock = some b ∧ w.heap.size ≤ b) → K (a.put o.dst v') w') :
    if Region.wanted o (yielded ops a.tmps) = true then Oper.wp Tryd.prog o a w K Q else K (a.put o.dst undef) w := by
  rw [if_pos hw]
  subst hm
  obtain ⟨i0, hi, hz0, hz1, hz2⟩ := info_parts hinfo
  obtain ⟨v', w', hrun, h2, h3, _, h5⟩ := run_append_own_at (P := Tryd.prog) w base t o.type e i0 z k bytes ht hi hz0 hz1 hz2 hzs hsz v xs.length (xs.flatMap enc) hown ad ys.length c (ys.flatMap enc) (ST.flat_length hk ys) hy (fun u hu => by
    obtain ⟨x, _, hx⟩ := List.mem_flatMap.1 hu
    exact h1 x u hx) hmx hbytes hbase
  unfold Oper.wp execOp
  simp only [ho, resolve, invoke, builtin, Sem.run_bind, Sem.run_pure, Result.andThen_ok, List.map_toArray, List.map_cons, List.map_nil, hs, hx, hrun]
  refine h v' w' ?_ h3 (h5.imp id (fun e => ⟨_, e, Nat.le_refl _⟩))
  unfold Row
  rw [List.length_append, List.flatMap_append]
  exact h2
theorem rightB_range {n : Nat} {x : S29} (h : rightB n x = true) : 0 ≤ x.f0 ∧ x.f0 < n := by
  unfold rightB formedB at h
  simp only [Bool.and_eq_true, decide_eq_true_eq] at h
  exact ⟨h.1.1, h.2⟩
theorem info47 : (Tryd.prog.info? 47).map (fun i => (i.zero, i.size, i.bytes)) = some (some (.agg #[.int .i64 0, .int .i64 0]), 2, 16) := by kernel_rfl
theorem zero77 (w : World) : (zeroValue 77).run Tryd.prog w = .ok (.slice none 0 0) w := Tryd.zeroValue77 w
/-- The boxes that the region reads. -/
structure BoxAt (kb xb gb : Nat) (lo : Int) (x : S29) (gz : S63) (W : World) : Prop where
  k : W.heap[kb]? = some (.cells #[.int .i64 lo, .int .i64 x.f0] 76 (0, 0))
  x : W.heap[xb]? = some (.cells #[.int .i64 x.f0, .int .i64 x.f1, .int .i64 x.f2, .int .i64 x.f3, .string x.f4] 29 (0, 0))
  g : W.heap[gb]? = some (.cells #[.string gz.f0, .int .i64 gz.f1, .int .i64 gz.f2, .int .i64 gz.f3, .int .i64 gz.f4] 63 (0, 0))
theorem BoxAt.key {kb xb gb : Nat} {lo : Int} {x : S29} {gz : S63} {W : World} (h : BoxAt kb xb gb lo x gz W) : W.cell? ⟨kb, 0, none⟩ = some (.int .i64 lo) ∧ W.cell? ⟨kb, 1, none⟩ = some (.int .i64 x.f0) ∧ W.cell? ⟨xb, 3, none⟩ = some (.int .i64 x.f3) ∧ W.cell? ⟨gb, 3, none⟩ = some (.int .i64 gz.f3) :=
  ⟨(blk_cell h.k 0).trans rfl, (blk_cell h.k 1).trans rfl, (blk_cell h.x 3).trans rfl, (blk_cell h.g 3).trans rfl⟩
/-- Whatever is no row of spans, nor the map. -/
def Others (bm : Nat) (W W' : World) : Prop := ∀ (b : Nat) (o : Obj), b ≠ bm → W.heap[b]? = some o → (∀ cs ro, o ≠ .cells cs 47 ro) → W'.heap[b]? = some o
theorem Others.box {bm kb xb gb : Nat} {lo : Int} {x : S29} {gz : S63} {W W' : World} (h : Others bm W W') (hk : kb ≠ bm) (hx : xb ≠ bm) (hg : gb ≠ bm) (hb : BoxAt kb xb gb lo x gz W) : BoxAt kb xb gb lo x gz W' :=
  ⟨h _ _ hk hb.k (fun _ _ e => by cases e), h _ _ hx hb.x (fun _ _ e => by cases e), h _ _ hg hb.g (fun _ _ e => by cases e)⟩
theorem HoldsR.obj {k b n : Nat} {W : World} {M : Value → Value → Prop} (h : HoldsR k W b n M) : ∃ es clock, W.heap[b]? = some (.map es clock) := by
  obtain ⟨D, ⟨es, clock, hb, _⟩, _⟩ := h
  exact ⟨es, clock, hb⟩
theorem HoldsR.others {k b bm n : Nat} {W W' : World} {M : Value → Value → Prop} (h : HoldsR k W b n M) (hne : b ≠ bm) (ho : Others bm W W') : HoldsR k W' b n M := by
  obtain ⟨D, ⟨es, clock, hb, r⟩, hs⟩ := h
  exact ⟨D, ⟨es, clock, ho _ _ hne hb (fun _ _ e => by cases e), r⟩, hs⟩
theorem val_entry {gs : List S63} {ok : S29 → Bool} {p : List S29} {base k bm lb : Nat} {WL : World} {M : Value → Value → Prop} {x : S29} (hM : HoldsR 76 WL bm k M) (hV : ValI gs ok p base WL M) (hx : ok x = true) (hg0 : IsI x.f0) (hk : k < 1000000)
    (hlb : WL.heap[lb]? = some (.cells #[.int .i64 (spanG gs x).f0, .int .i64 (spanG gs x).f1] 47 (0, 0))) (hlbm : lb ≠ bm) (hbm : base ≤ bm) (hbW : base ≤ WL.heap.size) :
    ∃ v0 st WE, (Instr.mapEntry 72 (.map (some bm)) (k2 (lowH gs x) x.f0)).run Tryd.prog WL = .ok (.tuple #[v0, .int .i64 st]) WE ∧ Row encS 47 2 WE base v0 (spansOf gs ok p (lowH gs x) x.f0) ∧
      (∀ j u, ([spanG gs x].flatMap encS)[j]? = some u → WE.cell? ((⟨lb, 0, none⟩ : Addr).add j) = some u) ∧ base ≤ WE.heap.size ∧ Others bm WL WE ∧
      ∀ v1 w3, Row encS 47 2 w3 base v1 (spansOf gs ok p (lowH gs x) x.f0 ++ [spanG gs x]) → WE.grownBy w3 v0.ownBlock → (v1.ownBlock = v0.ownBlock ∨ ∃ b, v1.ownBlock = some b ∧ WE.heap.size ≤ b) →
        Others bm WL w3 ∧ ∃ w4, (Instr.entryStore 72 (.map (some bm)) (.int .i64 st) v1).run Tryd.prog w3 = .ok () w4 ∧ HoldsR 76 w4 bm (k + 1) (setM M (k2 (lowH gs x) x.f0) v1) ∧ ValI gs ok (p ++ [x]) base w4 (setM M (k2 (lowH gs x) x.f0) v1) ∧ Others bm WL w4 ∧ WL.heap.size ≤ w4.heap.size ∧ ∀ w : World, w.heap.size ≤ base → Below w.heap.size w WL → Below w.heap.size w w4 := by
  obtain ⟨v0, st, ob0, ob1, hb0, hcase, hnc, hE, hS⟩ := hM.entry law76 Tryd.underlying72 zero77 hk (keyOf76 (lowH_isI gs x) hg0)
  obtain ⟨hrun, hb1, hgE, hszE⟩ := hE WL hb0
  have hn0 : ∀ cells t ro, ob0 ≠ .cells cells t ro := by
    obtain ⟨es, clock, he⟩ := hM.obj
    rw [he] at hb0
    intro cells t ro e
    rw [← Option.some.inj hb0] at e
    cases e
  have hVE : ValI gs ok p base (setBlock WL bm ob1) M := hV.obj hb0 hn0 hgE
  have hR0 : Row encS 47 2 (setBlock WL bm ob1) base v0 (spansOf gs ok p (lowH gs x) x.f0) := by
    rcases hcase with h | ⟨h, rfl⟩
    · obtain ⟨a, b, _, _, hke, _, h5⟩ := hVE.key _ _ h
      obtain ⟨e1, e2⟩ := k2_inj hke
      rw [e1, e2]; exact h5
    · have : spansOf gs ok p (lowH gs x) x.f0 = [] := by
        by_cases e : spansOf gs ok p (lowH gs x) x.f0 = []
        · exact e
        · obtain ⟨v, hv⟩ := hV.all _ _ e
          exact absurd hv (h v)
      rw [this]
      exact Row.nil _ _ _ _ _
  have hOE : Others bm WL (setBlock WL bm ob1) := fun b o hb ho _ => (hgE.block b (Array.getElem?_eq_some_iff.1 ho).1 (fun e => hb (Option.some.inj e))).trans ho
  have hv0 : ∀ b o, (setBlock WL bm ob1).heap[b]? = some o → (∀ cs ro, o ≠ .cells cs 47 ro) → some b ≠ v0.ownBlock := by
    intro b o ho hn e
    obtain ⟨cells, hc⟩ := own_typed hR0 b e.symm
    rw [hc] at ho
    exact hn _ _ (Option.some.inj ho).symm
  refine ⟨v0, st, setBlock WL bm ob1, hrun, hR0, ?_, by rw [hszE]; exact hbW, hOE, ?_⟩
  · have hlbE : (setBlock WL bm ob1).heap[lb]? = some (.cells #[.int .i64 (spanG gs x).f0, .int .i64 (spanG gs x).f1] 47 (0, 0)) := (hgE.block lb (Array.getElem?_eq_some_iff.1 hlb).1 (fun e => hlbm (Option.some.inj e))).trans hlb
    intro j u hj
    have hadd : (⟨lb, 0, none⟩ : Addr).add j = ⟨lb, j, none⟩ := by unfold Addr.add; split <;> simp_all
    rw [hadd, cell_of_row _ _ _ _ _ _ hlbE, List.getElem?_toArray]
    simpa [encS] using hj
  · intro v1 w3 ho3 hg3 hat
    have hO3 : Others bm WL w3 := fun b o hb ho hn => (hg3.block b (by rw [hszE]; exact (Array.getElem?_eq_some_iff.1 ho).1) (hv0 b o (hOE b o hb ho hn) hn)).trans (hOE b o hb ho hn)
    have hb3 : w3.heap[bm]? = some ob1 := (hg3.block bm (Array.getElem?_eq_some_iff.1 hb1).1 (hv0 bm ob1 hb1 (fun cs ro e => hnc _ _ _ e))).trans hb1
    obtain ⟨w4, hrun4, hM4, hg4⟩ := hS w3 v1 hb3
    refine ⟨hO3, w4, hrun4, hM4, (hVE.add hx (lowH_isI gs x) hg0 hcase hg3 ho3 hat).obj hb3 (fun cs t ro e => hnc _ _ _ e) hg4, fun b o hb ho hn => (hg4.block b (Array.getElem?_eq_some_iff.1 (hO3 b o hb ho hn)).1 (fun e => hb (Option.some.inj e))).trans (hO3 b o hb ho hn), ?_, fun w hw hBW => ?_⟩
    · have h1 := hg3.size
      have h2 := hg4.size
      omega
    · have hb1' := hBW.grown hgE hBW.size (fun j hj => by injection hj with hj; omega)
      have hb2' := hb1'.grown hg3 hb1'.size (fun j hj => by have := (hR0.at_base j hj).1; omega)
      exact hb2'.grown hg4 hb2'.size (fun j hj => by injection hj with hj; omega)
end Go.Proofs.YtioekkdodggakaaDoor.G
