/-
  graph.walk: from v on, again and again the first next node whose number is one less, until the number isn't greater than 0.
-/
import Derived.Laws.EntriesVeiled
import Derived.Test.YtibnodjlcaodeaaTHKit
import Derived.Test.YtibnodjlcaodeaaTShelf
namespace Go.Proofs.Ytibnodjlcaodeaa.G
open Go.RowKit Go.Proofs.YtibnodjlcaodeaaW.PrintWords Go.Proofs.YtibnodjlcaodeaaW.PrintLast Go.Proofs.YtibnodjlcaodeaaW.PrintMore
set_option linter.unusedVariables false
set_option linter.unusedSimpArgs false

def graph_walk.l0 : Nat → List (List Int) → List Int → Int → List Int → Option (List Int)
  | 0, _, _, _, _ => none
  | k + 1, nx, lf, v, out =>
    if 0 ≤ v ∧ v < (lf.length : Int) ∧ v < (nx.length : Int) then
      (if rd lf v > 0 then
        (if (rd_L4 nx v).all (fun x => decide (0 ≤ x) && decide (x < (lf.length : Int))) = true ∧ out.length < 1000000 then
          (((rd_L4 nx v).find? fun x => rd lf x == wrap64 (rd lf v - 1)).bind fun x => graph_walk.l0 k nx lf x (out ++ [x]))
        else none)
      else some out)
    else none
def graph_walk.f (k : Nat) (l0 : List (List Int)) (l1 : List Int) (a2 : Int) : Option (List Int) := graph_walk.l0 k l0 l1 a2 [a2]
theorem graph_walk.mono_l : ∀ k nx lf v out, LeO (graph_walk.l0 k nx lf v out) (graph_walk.l0 (k + 1) nx lf v out)
  | 0, _, _, _, _ => fun r h => by simp [graph_walk.l0] at h
  | k + 1, nx, lf, v, out => by
    unfold graph_walk.l0
    refine LeO.ite (LeO.ite (LeO.ite (LeO.bind (LeO.refl _) (fun x => graph_walk.mono_l k nx lf x _)) (LeO.none _)) (LeO.refl _)) (LeO.none _)
theorem graph_walk.mono : ∀ a0 a1 a2 k, LeO (graph_walk.f k a0 a1 a2) (graph_walk.f (k + 1) a0 a1 a2) := fun a0 a1 a2 k => graph_walk.mono_l k a0 a1 a2 [a2]

/-- The closure: left and v lie in the cells ⟨B4, 0⟩ and ⟨B5, 0⟩. -/
theorem closer_calls (A : Option Addr) (c : Nat) (lf : List Int) (v x : Int) (B4 B5 : Nat) (W : World) (hr : Kd.C (Kd.int .i64) W A lf.length lf) (h4 : W.cell? ⟨B4, 0, none⟩ = some (.slice A lf.length c)) (h5 : W.cell? ⟨B5, 0, none⟩ = some (.int .i64 v))
    (hv0 : 0 ≤ v) (hv1 : v < (lf.length : Int)) (hx0 : 0 ≤ x) (hx1 : x < (lf.length : Int)) :
    Calls Try.prog 41 #[.int .i64 x, .pointer (some ⟨B4, 0, none⟩), .pointer (some ⟨B5, 0, none⟩)] W fun e w' => e = .returned (.bool (rd lf x == wrap64 (rd lf v - 1))) ∧ ∃ q, w' = W.drewN q := by
  obtain ⟨ad, rfl, hcv⟩ := Kd.at_int hr v hv0 hv1
  obtain ⟨ad', e, hcx⟩ := Kd.at_int hr x hx0 hx1
  obtain rfl := Option.some.inj e
  clear e hr
  go_enter Try.func41, Try.ntmps41
  go_wp2
  go_quiet (fail)
  go_wp2
  go_ret
  exact ⟨by simp, _, rfl⟩

/-- slices.IndexFunc with that closure, at a row all of whose numbers are places of left. -/
theorem find_calls (A : Option Addr) (c : Nat) (lf : List Int) (v : Int) (B4 B5 : Nat) (W : World) (hr : Kd.C (Kd.int .i64) W A lf.length lf) (h4 : W.cell? ⟨B4, 0, none⟩ = some (.slice A lf.length c)) (h5 : W.cell? ⟨B5, 0, none⟩ = some (.int .i64 v))
    (hv0 : 0 ≤ v) (hv1 : v < (lf.length : Int)) (A' : Option Addr) (c' : Nat) (row : List Int) (hrow : Kd.C (Kd.int .i64) W A' row.length row) (hin : ∀ x ∈ row, 0 ≤ x ∧ x < (lf.length : Int)) (y : Int) (hf : row.find? (fun x => rd lf x == wrap64 (rd lf v - 1)) = some y) :
    ∃ i : Nat, i < row.length ∧ row.getD i 0 = y ∧ Calls Try.prog 40 #[.slice A' row.length c', .func (.func 41) #[] #[.pointer (some ⟨B4, 0, none⟩), .pointer (some ⟨B5, 0, none⟩)]] W fun e w' => e = .returned (.int .i64 i) ∧ ∃ q, w' = W.drewN q := by
  obtain ⟨i, hi, hy, hp, hno⟩ : ∃ i, ∃ h : i < row.length, row[i] = y ∧ (rd lf row[i] == wrap64 (rd lf v - 1)) = true ∧ ∀ j (hj : j < i), (rd lf (row[j]'(by omega)) == wrap64 (rd lf v - 1)) = false := by
    obtain ⟨hy, us, ws, rfl, hno⟩ := List.find?_eq_some_iff_append.1 hf
    refine ⟨us.length, by simp, by simp, by simpa using hy, fun j hj => ?_⟩
    rw [List.getElem_append_left hj]
    simpa using hno _ (List.getElem_mem hj)
  refine ⟨i, hi, by rw [List.getD_eq_getElem?_getD, List.getElem?_eq_getElem hi]; simpa using hy, ?_⟩
  have hpos : 0 < lf.length := by omega
  haveI : Inhabited (Fin lf.length) := ⟨⟨0, hpos⟩⟩
  have hmod : ∀ x : Int, 0 ≤ x → x < (lf.length : Int) → x.toNat % lf.length = x.toNat := fun x h0 h1 => Nat.mod_eq_of_lt (by omega)
  let zs : List (Fin lf.length) := row.map fun x => ⟨x.toNat % lf.length, Nat.mod_lt _ hpos⟩
  have hzl : zs.length = row.length := by simp [zs]
  have hzg : ∀ j (hj : j < row.length), ((zs[j]!).val : Int) = row[j] := fun j hj => by
    have hm := hin row[j] (List.getElem_mem hj)
    rw [getElem!_pos zs j (by omega)]
    simp only [zs, List.getElem_map]
    rw [hmod _ hm.1 hm.2]
    omega
  obtain ⟨b, off, rfl, hb, hc⟩ := C_int_addr hrow (by omega)
  have eg : ∀ args w, (callFunc 41 args).run Try.prog w = .ok (.enter 41 args) w := enters_of Try.func41 (by kernel_rfl) rfl
  have hp' : PredAt Try.prog 41 #[.pointer (some ⟨B4, 0, none⟩), .pointer (some ⟨B5, 0, none⟩)] (fun x : Fin lf.length => Value.int .i64 (x.val : Int)) (fun x => rd lf (x.val : Int) == wrap64 (rd lf v - 1)) W := fun W' x hB =>
    closer_calls A c lf v x.val B4 B5 W' (Kd.C_below hr hB) ((hB.cell (p := ⟨B4, 0, none⟩) (World.block_lt_of_cell? W _ h4)).trans h4) ((hB.cell (p := ⟨B5, 0, none⟩) (World.block_lt_of_cell? W _ h5)).trans h5) hv0 hv1 (by omega) (by have := x.isLt; omega)
  have hcon := Try.slices_IndexFunc (fun x : Fin lf.length => Value.int .i64 (x.val : Int)) (fun x => rd lf (x.val : Int) == wrap64 (rd lf v - 1)) 41 _ eg b off row.length c' zs W hp' (by omega) hrow.2.1 (fun j hj => by
    rw [hc j (by omega), hzg j (by omega), List.getD_eq_getElem?_getD, List.getElem?_eq_getElem (by omega)]; rfl)
  rw [Lib.idxBy_hit (fun _ y => rd lf (y.val : Int) == wrap64 (rd lf v - 1)) zs row.length i default hi (by omega) (by rw [hzg i hi]; exact hp) (fun j hj => by rw [hzg j (by omega)]; exact hno j hj)] at hcon
  exact hcon


theorem hp_old {w : World} {o : Obj} {k : Nat} (hk : k < w.heap.size) : (w.alloc o).heap[k]? = w.heap[k]? := (World.grownBy_alloc w o none).block k hk (by simp)

theorem blk_one {w : World} {b : Nat} {v : Value} {t : TypeId} (h : w.heap[b]? = some (.cells #[v] t (0, 0))) : w.cell? ⟨b, 0, none⟩ = some v ∧ w.frozen? ⟨b, 0, none⟩ = false := by
  constructor
  · simp [World.cell?, h]
  · simp [World.frozen?, h]

theorem blk_set {w : World} {b : Nat} {v u : Value} {t : TypeId} (h : w.heap[b]? = some (.cells #[v] t (0, 0))) : (w.setCell ⟨b, 0, none⟩ u).heap[b]? = some (.cells #[u] t (0, 0)) := by
  simp [World.setCell, Array.getElem?_modify, h]

set_option maxHeartbeats 4000000 in
theorem graph_walk.calls (k : Nat) (A0 : Option Addr) (c0 : Nat) (l0 : List (List Int)) (A1 : Option Addr) (c1 : Nat) (l1 : List Int) (a2 : Int) (r : List Int) (w : World) (hr0 : Kd.C (Kd.slice 3 (Kd.int .i64)) w A0 l0.length l0) (hc0 : l0.length ≤ c0) (hr1 : Kd.C (Kd.int .i64) w A1 l1.length l1) (hc1 : l1.length ≤ c1) (h : graph_walk.f k l0 l1 a2 = some r) :
    Calls Try.prog 34 #[.slice A0 l0.length c0, .slice A1 l1.length c1, .int .i64 a2] w fun e w' => ∃ v0_ : Value, e = .returned (v0_) ∧ Kd.R (Kd.int .i64) 3 w' w.heap.size (fun _ => True) v0_ r ∧ Below w.heap.size w w' := by
  have HR0 := Aside0.mk hr0
  have HR1 := Aside0.mk hr1
  have HC0 := Aside0.mk hc0
  have HC1 := Aside0.mk hc1
  have H' : Aside0 (graph_walk.l0 k l0 l1 a2 [a2] = some r) := ⟨h⟩
  clear h hr0 hr1 hc0 hc1
  go_enter Try.func34, Try.ntmps34
  go_wp2
  go_loopg [7] k (fun kq v7 w' => ∃ (v : Int) (out : List Int), Aside0 (graph_walk.l0 kq l0 l1 v out = some r) ∧ Aside0 (kq ≤ k) ∧ Aside0 (Kd.R (Kd.int .i64) 3 w' w.heap.size (fun k_ => k_ ≠ w.heap.size ∧ k_ ≠ w.heap.size + 1) v7 out) ∧ Aside0 (w'.heap[w.heap.size]? = some (.cells #[.slice A1 l1.length c1] 25 (0, 0))) ∧ Aside0 (w'.heap[w.heap.size + 1]? = some (.cells #[.int .i64 v] 3 (0, 0))) ∧ Aside0 (Below w.heap.size w w'))
  case atStart =>
    refine ⟨a2, [a2], H', ⟨Nat.le_refl _⟩, ⟨?_⟩, ⟨?_⟩, ⟨?_⟩, ⟨by repeat (first | exact Below.refl _ _ | apply below_alloc)⟩⟩
    · have h3 := World.ownsRow_lit (base := w.heap.size) (e := 3) (size := 1) ((w.alloc (.cells #[.slice A1 l1.length c1] 25)).alloc (.cells #[.int .i64 a2] 3)) #[.int .i64 a2] 1 (by simp; omega) (by simp [maxLen]) rfl
      have h4 : (Kd.int .i64).R 3 (((w.alloc (.cells #[.slice A1 l1.length c1] 25)).alloc (.cells #[.int .i64 a2] 3)).alloc (.cells #[.int .i64 a2] 3)) w.heap.size (fun k_ => k_ ≠ w.heap.size ∧ k_ ≠ w.heap.size + 1) (.slice (some ⟨((w.alloc (.cells #[.slice A1 l1.length c1] 25)).alloc (.cells #[.int .i64 a2] 3)).heap.size, 0, none⟩) 1 1) [a2] :=
        Kd.R_of_own h3 (fun k hk => by simp [Value.ownBlock] at hk; omega)
      rw [show ((w.alloc (.cells #[.slice A1 l1.length c1] 25)).alloc (.cells #[.int .i64 a2] 3)).heap.size = w.heap.size + 1 + 1 by simp] at h4
      exact h4
    · rw [hp_old (by simp; omega), hp_old (by simp), heap_alloc_new]
    · rw [hp_old (by simp), show w.heap.size + 1 = (w.alloc (.cells #[.slice A1 l1.length c1] 25)).heap.size by simp, heap_alloc_new]
  case round =>
    clear H'
    obtain ⟨v, out, HA, HK1, HO, HB4, HB5, HB⟩ := hrel
    cases gk with
    | zero => exact absurd HA.out (by simp [graph_walk.l0])
    | succ k1 =>
      have H := HA.out
      clear HA
      unfold graph_walk.l0 at H
      by_cases hv : 0 ≤ v ∧ v < (l1.length : Int) ∧ v < (l0.length : Int)
      · rw [if_pos hv] at H
        obtain ⟨hv0, hv1, hv2⟩ := hv
        obtain ⟨hx4, hf4⟩ := blk_one HB4.out
        obtain ⟨hx5, hf5⟩ := blk_one HB5.out
        obtain ⟨ad1, rfl, hl1⟩ := Kd.at_int (Kd.C_below HR1.out HB.out) v hv0 hv1
        by_cases ht : rd l1 v > 0
        · rw [if_pos ht] at H
          have htb : decide (0 < rd l1 v) = true := decide_eq_true ht
          by_cases ha : (rd_L4 l0 v).all (fun x => decide (0 ≤ x) && decide (x < (l1.length : Int))) = true ∧ out.length < 1000000
          · rw [if_pos ha] at H
            obtain ⟨y, hy, H⟩ := Option.bind_eq_some_iff.mp H
            have H' := Aside0.mk H
            clear H
            obtain ⟨ad0, Ai, ci, rfl, hl0, hci, hri⟩ := at_L4 (Kd.C_below HR0.out HB.out) v hv0 hv2
            have hin : ∀ x ∈ rd_L4 l0 v, 0 ≤ x ∧ x < (l1.length : Int) := fun x hx => by
              have := List.all_eq_true.1 ha.1 x hx
              simpa using this
            obtain ⟨i, hi, hiy, hcall⟩ := find_calls (some ad1) c1 l1 v w.heap.size (w.heap.size + 1) wr (Kd.C_below HR1.out HB.out) hx4 hx5 hv0 hv1 Ai ci (rd_L4 l0 v) hri hin y hy
            have HCALL := Aside0.mk hcall
            have HLEN := Aside0.mk ha.2
            have hii : (i : Int) < ((rd_L4 l0 v).length : Int) := by omega
            obtain ⟨adi, rfl, hli⟩ := Kd.at_int hri (i : Int) (by omega) hii
            have hyy : rd (rd_L4 l0 v) (i : Int) = y := by unfold rd; rw [Int.toNat_natCast]; exact hiy
            rw [hyy, Int.toNat_natCast] at hli
            clear hcall ha hin hy hri hiy hi ht hyy H
            go_wp2_with fail
            refine HCALL.out.mono ?_
            rintro e w40 ⟨rfl, nd, rfl⟩
            clear HCALL
            have HO2 := Aside0.mk (Kd.R_drewN HO.out nd)
            have HB4' : Aside0 ((wr.drewN nd).heap[w.heap.size]? = some (.cells #[.slice (some ad1) l1.length c1] 25 (0, 0))) := ⟨by simpa using HB4.out⟩
            have HB5' : Aside0 ((wr.drewN nd).heap[w.heap.size + 1]? = some (.cells #[.int .i64 v] 3 (0, 0))) := ⟨by simpa using HB5.out⟩
            have HB2 := Aside0.mk (pw_below_drewN HB.out nd)
            clear HO HB4 HB5 HB
            have HO3 := Aside0.mk (Kd.R_far (p := ⟨w.heap.size + 1, 0, none⟩) HO2.out (fun k hk => hk.2) (.int .i64 y))
            have HB3 := Aside0.mk (below_set HB2.out (show w.heap.size ≤ w.heap.size + 1 by omega) (j := 0) (v := .int .i64 y))
            have HS3 := Aside0.mk (below_size HB3.out)
            have HB43 : Aside0 (((wr.drewN nd).setCell ⟨w.heap.size + 1, 0, none⟩ (.int .i64 y)).heap[w.heap.size]? = some (.cells #[.slice (some ad1) l1.length c1] 25 (0, 0))) := ⟨by rw [Below.heap_setCell _ _ _ _ (by simp)]; exact HB4'.out⟩
            have HB53 : Aside0 (((wr.drewN nd).setCell ⟨w.heap.size + 1, 0, none⟩ (.int .i64 y)).heap[w.heap.size + 1]? = some (.cells #[.int .i64 y] 3 (0, 0))) := ⟨blk_set HB5'.out⟩
            go_wp2_with (first | ((with_reducible refine gate_store (t := 3) (p := 5) rfl ?_); refine store_event (t := 3) (p := 5) (v := ?vo_w38) (w1 := ((wr.drewN nd).setCell ⟨w.heap.size + 1, 0, none⟩ (.int .i64 y))) ?hg ?ho ?hn ?hr ?_; (case ho => rfl); (case hg => rfl); (case hn => rfl); (case hr => first | (go_simp; done) | (go_simp; rfl)); intro w38 hw; rw [← hw] at HO3 HB3 HS3 HB43 HB53; clear hw; have hx6 := (blk_one HB53.out).1) | ((with_reducible refine gate_builtin (b := .append) (xs := #[.tmp 29, .tmp 31]) rfl ?_); at_builtin; refine Kd.R_append (Kd.int .i64) (w0 := w) w.heap.size rfl (.tmp 29) (.tmp 31) 25 3 (.int .i64 0) 8 rfl Try.underlying25 info3 rfl (by decide) (by omega) u7 out y [.int .i64 y] (fun k_ => k_ ≠ w.heap.size ∧ k_ ≠ w.heap.size + 1) (fun _ => False) rfl rfl ?aP (fun _ hk => hk.elim) ?aF ?aO ?aB ?aS ?aL ?_; (case aP => exact rfl); (case aB => exact HB3.out); (case aF => exact fun k_ hk => by have h4 := blk_lt HB43.out; have h5 := blk_lt HB53.out; omega); (case aO => exact HO3.out); (case aS => exact HS3.out); (case aL => have := HLEN.out; omega); intro v116 w39 ho hb hg hat; have n1_ := Aside0.mk hb; have n2_ := Aside0.mk ho; have n3_ : Aside0 (w39.heap[w.heap.size]? = some (.cells #[.slice (some ad1) l1.length c1] 25 (0, 0))) := ⟨(hg.block _ (blk_lt HB43.out) (fun he => (HO3.out.1 _ he.symm).1 rfl)).trans HB43.out⟩; have n4_ : Aside0 (w39.heap[w.heap.size + 1]? = some (.cells #[.int .i64 y] 3 (0, 0))) := ⟨(hg.block _ (blk_lt HB53.out) (fun he => (HO3.out.1 _ he.symm).2 rfl)).trans HB53.out⟩; clear ho hb hg hat))
            go_roundg k1
            case measure => have := HK1.out; omega
            case rel => exact ⟨y, out ++ [y], H', ⟨by have := HK1.out; omega⟩, n2_, n3_, n4_, n1_⟩
          · rw [if_neg ha] at H
            cases H
        · rw [if_neg ht] at H
          obtain rfl := Option.some.inj H
          have htb : decide (0 < rd l1 v) = false := decide_eq_false ht
          clear ht H
          go_wp2
          go_ret
          exact ⟨_, rfl, Kd.R_mono HO.out (fun _ _ => trivial), HB.out⟩
      · rw [if_neg hv] at H
        cases H
end Go.Proofs.Ytibnodjlcaodeaa.G
