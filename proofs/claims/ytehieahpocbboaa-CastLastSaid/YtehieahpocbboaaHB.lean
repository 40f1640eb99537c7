/-
  Several texts in one: HBuilder, HBuilderW, HNums, HList, HBytes.
-/
import Derived.Shelf.Strings.Builder1
import Derived.Test.YtehieahpocbboaaProg
import Derived.Test.YtehieahpocbboaaKE
import Derived.Test.YtehieahpocbboaaShelf
import Derived.LoopTactic
import Derived.Outline
/-
  (*strings.Builder).copyCheck at this dump: turned from the shelf's walk.
-/
namespace Go.Proofs.Ytehieahpocbboaa.G
open Go.RowKit
set_option maxHeartbeats 1000000 in
set_option maxRecDepth 100000 in
theorem copyCheck_used (b : Nat) (w : World) (h0 : w.cell? ⟨b, 0, none⟩ = some (.pointer (some ⟨b, 0, none⟩))) :
    Calls Try.prog 51 #[.pointer (some ⟨b, 0, none⟩)] w fun e w' => e = .returned (.tuple #[]) ∧ w' = w := by
  obtain ⟨j, hj, hjs⟩ := Option.map_eq_some_iff.1 (show (Try.prog.info? 72).map (·.size) = some 2 by kernel_rfl)
  go_enter Try.func51, Try.ntmps51
  go_wp2
  rw [Lib.run_neq_ptr_same w _ Try.underlying69 hj]
  go_wp2
  go_end0
  exact ⟨rfl, rfl⟩
set_option maxHeartbeats 1000000 in
set_option maxRecDepth 100000 in
theorem copyCheck_fresh (b : Nat) (w : World) (h0 : w.cell? ⟨b, 0, none⟩ = some (.pointer none)) (hsh : w.shape? b = some (72, 2)) (hfz : w.frozen? ⟨b, 0, none⟩ = false) :
    Calls Try.prog 51 #[.pointer (some ⟨b, 0, none⟩)] w fun e w' => e = .returned (.tuple #[]) ∧ w' = w.setCell ⟨b, 0, none⟩ (.pointer (some ⟨b, 0, none⟩)) := by
  obtain ⟨j, hj, hjs⟩ := Option.map_eq_some_iff.1 (show (Try.prog.info? 72).map (·.size) = some 2 by kernel_rfl)
  go_enter Try.func51, Try.ntmps51
  go_wp2
  rw [Lib.run_to_unsafe w ⟨b, 0, none⟩ Try.underlying69 Try.underlying107 hj (by rw [hjs]; decide) hsh (Nat.zero_lt_succ 1)]
  simp only [Result.andThen]
  rw [Oper.upon_value]
  go_wp2
  rw [run_callFunc_extern Try.func68 (by kernel_rfl) (by kernel_rfl) (by kernel_rfl) (e := Extern.AbiNoEscape.same) (by kernel_rfl)]
  rw [Lib.run_noEscape]
  simp only [Result.andThen]
  rw [Oper.upon_value]
  go_wp2
  rw [Lib.run_from_unsafe w ⟨b, 0, none⟩ Try.underlying107 Try.underlying69 hj hsh (by kernel_rfl)]
  simp only [Result.andThen]
  rw [Oper.upon_value]
  go_wp2
  go_end0
  exact ⟨rfl, rfl⟩
/-- Every block but those of bytes and of builders is as it was. -/
def KeepT (w w' : World) : Prop := ∀ (k : Nat) (cs : Array Value) (t : TypeId) (fr : Nat × Nat), w.heap[k]? = some (Obj.cells cs t fr) → t ≠ 5 → t ≠ 72 → w'.heap[k]? = w.heap[k]?
theorem KeepT.refl (w : World) : KeepT w w := fun _ _ _ _ _ _ _ => rfl
theorem KeepT.trans {w w1 w2 : World} (h : KeepT w w1) (h' : KeepT w1 w2) : KeepT w w2 := fun k cs t fr hk h5 h72 => (h' k cs t fr ((h k cs t fr hk h5 h72).trans hk) h5 h72).trans (h k cs t fr hk h5 h72)
theorem KeepT.set72 {w : World} {b : Nat} {cs : Array Value} {fr : Nat × Nat} (h : w.heap[b]? = some (.cells cs 72 fr)) (j : Nat) (u : Value) : KeepT w (w.setCell ⟨b, j, none⟩ u) := by
  intro k cs' t fr' hk h5 h72
  refine Below.heap_setCell _ _ _ _ ?_
  rintro rfl
  rw [h] at hk
  injection hk with hk
  injection hk with _ hk
  exact h72 hk.symm
theorem KeepT.alloc (w : World) (o : Obj) : KeepT w (w.alloc o) := by
  intro k cs t fr hk _ _
  exact Lib.alloc_old w o k (by
    rcases Nat.lt_or_ge k w.heap.size with h | h
    · exact h
    · simp [Array.getElem?_eq_none h] at hk)
theorem KeepT.grown {w w' : World} {B : Nat} {v : Value} {n : Nat} {xs : List Value} (ho : w.ownsRow B 5 1 v n xs) (hg : w.grownBy w' v.ownBlock) : KeepT w w' := by
  intro k cs t fr hk h5 _
  refine hg.block k ?_ ?_
  · rcases Nat.lt_or_ge k w.heap.size with h | h
    · exact h
    · simp [Array.getElem?_eq_none h] at hk
  · intro he
    rcases ho.2 with ⟨rfl, _⟩ | ⟨g, cap, cur, rfl, _, hg', _⟩
    · simp [Value.ownBlock] at he
    · simp [Value.ownBlock] at he
      subst he
      rw [hg'] at hk
      injection hk with hk
      injection hk with _ hk
      exact h5 hk.symm
theorem copyCheck_calls (B b : Nat) (bs : List Value) (w : World) (h : Lib.IsBuilder 72 5 B b bs w) :
    Calls Try.prog 51 #[.pointer (some ⟨b, 0, none⟩)] w fun e w' => e = .returned (.tuple #[]) ∧ (Lib.BuilderAt 72 5 B b (.pointer (some ⟨b, 0, none⟩)) bs w' ∧ Below B w w' ∧ KeepT w w') := by
  rcases h with h | h
  · refine (copyCheck_fresh b w h.cell0 h.shape h.frozen0).mono ?_
    rintro e w' ⟨rfl, rfl⟩
    obtain ⟨_, v, hbk, _⟩ := id h
    exact ⟨rfl, h.used _, (Below.refl B w).setCell (p := ⟨b, 0, none⟩) h.1 _, KeepT.set72 hbk 0 _⟩
  · refine (copyCheck_used b w h.cell0).mono ?_
    rintro e w' ⟨rfl, rfl⟩
    exact ⟨rfl, h, Below.refl B _, KeepT.refl _⟩
end Go.Proofs.Ytehieahpocbboaa.G
/-
  (*strings.Builder).WriteByte and WriteString at this dump: turned from the shelf's walks.
-/
namespace Go.Proofs.Ytehieahpocbboaa.G
open Go.RowKit
theorem infoByte : (Try.prog.info? 5).map (fun i => (i.zero, i.size, i.bytes)) = some (some (.int .u8 0), 1, 1) := by kernel_rfl
set_option maxHeartbeats 2000000 in
set_option maxRecDepth 100000 in
theorem WriteByte_calls (B b : Nat) (bs : List Value) (c : Int) (w : World) (h : Lib.IsBuilder 72 5 B b bs w) (hlen : bs.length + 1 ≤ 140737488355328) (hBw : B ≤ w.heap.size) :
    Calls Try.prog 35 #[.pointer (some ⟨b, 0, none⟩), .int .u8 c] w fun e w' => e = .returned .nilIface ∧ (Lib.BuilderAt 72 5 B b (.pointer (some ⟨b, 0, none⟩)) (bs ++ [.int .u8 c]) w' ∧ Below B w w' ∧ KeepT w w') := by
  obtain ⟨i0, hi, hz0, hz1, hz2⟩ := info_parts infoByte
  go_enter Try.func35, Try.ntmps35
  go_wp2_with (go_at_call 51; refine (copyCheck_calls B b bs _ h).mono ?_)
  rintro e w1 ⟨rfl, h1, hb1, hk1⟩
  obtain ⟨hB, v, hbk, hown, hne⟩ := h1
  have c0 : w1.cell? ⟨b, 0, none⟩ = some (.pointer (some ⟨b, 0, none⟩)) := by rw [Lib.cell_of_heap hbk]; rfl
  have c1 : w1.cell? ⟨b, 1, none⟩ = some v := by rw [Lib.cell_of_heap hbk]; rfl
  go_wp2_with (at_builtin; refine wpList_append_own _ rfl _ _ 70 rfl B 5 i0 (.int .u8 0) 1 1 Try.underlying70 hi hz0 hz1 hz2 rfl (by decide) _ _ _ rfl (hown.alloc _) ⟨w1.heap.size, 0, none⟩ 1 1 [.int .u8 c] rfl rfl ?c1 ?c2 ?c3 ?c4 ?c5 ?_)
  case c1 =>
    intro j u hj
    match j, hj with
    | 0, hj => simp at hj; subst hj; simp [Addr.add]
  case c2 => intro u hu; simp at hu; subst hu; rfl
  case c3 => unfold maxLen; omega
  case c4 => omega
  case c5 => have := hb1.size; simp; omega
  intro v' w2 hown' hgrow _
  have hlt : b < w1.heap.size := by
    rcases Nat.lt_or_ge b w1.heap.size with h' | h'
    · exact h'
    · simp [Array.getElem?_eq_none h'] at hbk
  have hb2 : w2.heap[b]? = some (.cells #[.pointer (some ⟨b, 0, none⟩), v] 72 (0, 0)) := by
    rw [hgrow.block b (by simp; omega) (fun e => hne e.symm), Lib.alloc_old w1 _ b hlt]
    exact hbk
  have d0 : w2.cell? ⟨b, 0, none⟩ = some (.pointer (some ⟨b, 0, none⟩)) := by rw [Lib.cell_of_heap hb2]; rfl
  have d1 : w2.cell? ⟨b, 1, none⟩ = some v := by rw [Lib.cell_of_heap hb2]; rfl
  have f1 : w2.frozen? ⟨b, 1, none⟩ = false := Lib.frozen_of_heap hb2 1
  obtain ⟨g, cap, rfl⟩ : ∃ g cap, v' = .slice (some ⟨g, 0, none⟩) (bs.length + 1) cap := by
    rcases hown'.2 with ⟨_, h0⟩ | ⟨g, cap, cur, hv, _⟩
    · omega
    · exact ⟨g, cap, hv⟩
  go_wp2
  go_ret
  refine ⟨rfl, ?_, ?_, ?_⟩
  · exact Lib.BuilderAt.put (T := 72) (e := 5) hB hb2 (bs' := bs ++ [.int .u8 c]) (by simpa using hown') (by decide)
  · exact ((hb1.alloc (by have := hb1.size; omega) _).grown hgrow (by have := hb1.size; simp; omega) (fun k hk => (hown.lt k hk).1)).setCell (p := ⟨b, 1, none⟩) hB _
  · exact ((hk1.trans (KeepT.alloc _ _)).trans (KeepT.grown (hown.alloc _) hgrow)).trans (KeepT.set72 hb2 1 _)
set_option maxHeartbeats 2000000 in
set_option maxRecDepth 100000 in
theorem WriteString_calls (B b : Nat) (bs : List Value) (s : ByteArray) (w : World) (h : Lib.IsBuilder 72 5 B b bs w) (hlen : bs.length + s.size ≤ 140737488355328) (hBw : B ≤ w.heap.size) :
    Calls Try.prog 34 #[.pointer (some ⟨b, 0, none⟩), .string s] w fun e w' => e = .returned (.tuple #[.int .i64 s.size, .nilIface]) ∧ (Lib.BuilderAt 72 5 B b (.pointer (some ⟨b, 0, none⟩)) (bs ++ Lib.strCells s) w' ∧ Below B w w' ∧ KeepT w w') := by
  obtain ⟨i0, hi, hz0, hz1, hz2⟩ := info_parts infoByte
  go_enter Try.func34, Try.ntmps34
  go_wp2_with (go_at_call 51; refine (copyCheck_calls B b bs _ h).mono ?_)
  rintro e w1 ⟨rfl, h1, hb1, hk1⟩
  obtain ⟨hB, v, hbk, hown, hne⟩ := h1
  have c0 : w1.cell? ⟨b, 0, none⟩ = some (.pointer (some ⟨b, 0, none⟩)) := by rw [Lib.cell_of_heap hbk]; rfl
  have c1 : w1.cell? ⟨b, 1, none⟩ = some v := by rw [Lib.cell_of_heap hbk]; rfl
  go_wp2_with (at_builtin; refine Lib.wpList_append_own_string _ rfl _ _ 70 9 rfl B 5 i0 Try.underlying70 Try.underlying9 hi hz0 hz1 hz2 _ _ _ rfl hown s rfl ?c3 ?c4 ?c5 ?_)
  case c3 => unfold maxLen; omega
  case c4 => omega
  case c5 => have := hb1.size; omega
  intro v' w2 hown' hgrow _
  have hlt : b < w1.heap.size := by
    rcases Nat.lt_or_ge b w1.heap.size with h' | h'
    · exact h'
    · simp [Array.getElem?_eq_none h'] at hbk
  have hb2 : w2.heap[b]? = some (.cells #[.pointer (some ⟨b, 0, none⟩), v] 72 (0, 0)) := by
    rw [hgrow.block b hlt (fun e => hne e.symm)]
    exact hbk
  have d0 : w2.cell? ⟨b, 0, none⟩ = some (.pointer (some ⟨b, 0, none⟩)) := by rw [Lib.cell_of_heap hb2]; rfl
  have d1 : w2.cell? ⟨b, 1, none⟩ = some v := by rw [Lib.cell_of_heap hb2]; rfl
  have f1 : w2.frozen? ⟨b, 1, none⟩ = false := Lib.frozen_of_heap hb2 1
  obtain ⟨ao, n', cap, rfl⟩ : ∃ ao n' cap, v' = .slice ao n' cap := by
    rcases hown'.2 with ⟨hv, _⟩ | ⟨g, cap, cur, hv, _⟩
    · exact ⟨_, _, _, hv⟩
    · exact ⟨_, _, _, hv⟩
  go_wp2
  go_ret2
  refine ⟨rfl, ?_, ?_, ?_⟩
  · exact Lib.BuilderAt.put (T := 72) (e := 5) hB hb2 (bs' := bs ++ Lib.strCells s) (by simpa [Lib.strCells_length] using hown') (by decide)
  · exact (hb1.grown hgrow (by have := hb1.size; omega) (fun k hk => (hown.lt k hk).1)).setCell (p := ⟨b, 1, none⟩) hB _
  · exact (hk1.trans (KeepT.grown hown hgrow)).trans (KeepT.set72 hb2 1 _)
end Go.Proofs.Ytehieahpocbboaa.G
/-
  wire.Int at any whole number; wire.list at wire.Int; wire.Nums.
-/
namespace Go.Proofs.Ytehieahpocbboaa.G
open Go.RowKit Go.Proofs.YtehieahpocbboaaW.PrintWords Go.Proofs.YtehieahpocbboaaW.PrintLast Go.Proofs.YtehieahpocbboaaW.PrintMore
set_option linter.unusedVariables false
set_option linter.unusedSimpArgs false

def IsI (n : Int) : Prop := -9223372036854775808 ≤ n ∧ n ≤ 9223372036854775807
instance (n : Int) : Decidable (IsI n) := by unfold IsI; infer_instance
theorem Int_any (n : Int) (w : World) (hn : IsI n) :
    Calls Try.prog 33 #[.int .i64 n] w fun e w' => e = .returned (.string ⟨(intL n).toArray⟩) ∧ Below w.heap.size w w' := by
  obtain ⟨k, hk⟩ := wire_Int_eq n hn.1 hn.2
  exact wire_Int.calls k n _ w hk
theorem strCells_mk (l : List UInt8) : Lib.strCells ⟨l.toArray⟩ = Lib.byteCells l := rfl
theorem byteCells_append (a b : List UInt8) : Lib.byteCells (a ++ b) = Lib.byteCells a ++ Lib.byteCells b := by simp [Lib.byteCells]
/-- The builder of the call's own at block b, in a world that is the call's elsewhere. -/
def Bl (w : World) (b : Nat) (L : List UInt8) (w' : World) : Prop := Lib.IsBuilder 72 5 w.heap.size b (Lib.byteCells L) w' ∧ Below w.heap.size w w'
theorem Bl.start (w : World) (h : w.heap.size ≤ w.heap.size) : Bl w w.heap.size [] (w.alloc (.cells #[.pointer none, .slice none 0 0] 72)) :=
  ⟨Lib.fresh_isBuilder 72 5 w, (Below.refl _ _).alloc h _⟩
theorem Bl.start' (w : World) (b : Nat) (hb : b = w.heap.size) : Bl w b [] (w.alloc (.cells #[.pointer none, .slice none 0 0] 72)) := by
  subst hb; exact Bl.start w (Nat.le_refl _)
theorem Bl.byte {w w' : World} {b : Nat} {L : List UInt8} (h : Bl w b L w') (c : UInt8) (hl : L.length < 100000000000000) :
    Calls Try.prog 35 #[.pointer (some ⟨b, 0, none⟩), .int .u8 c.toNat] w' fun e w2 => e = .returned .nilIface ∧ Bl w b (L ++ [c]) w2 ∧ KeepT w' w2 := by
  refine (WriteByte_calls w.heap.size b (Lib.byteCells L) c.toNat w' h.1 (by rw [Lib.byteCells_length]; omega) h.2.size).mono ?_
  rintro e w2 ⟨rfl, h1, h2, h3⟩
  exact ⟨rfl, ⟨.inr (by rw [byteCells_append]; exact h1), h.2.trans h2⟩, h3⟩
theorem Bl.str {w w' : World} {b : Nat} {L : List UInt8} (h : Bl w b L w') (s : List UInt8) (hl : L.length + s.length < 100000000000000) :
    Calls Try.prog 34 #[.pointer (some ⟨b, 0, none⟩), .string ⟨s.toArray⟩] w' fun e w2 => e = .returned (.tuple #[.int .i64 s.length, .nilIface]) ∧ Bl w b (L ++ s) w2 ∧ KeepT w' w2 := by
  have hs : (⟨s.toArray⟩ : ByteArray).size = s.length := by simp [ByteArray.size]
  refine (WriteString_calls w.heap.size b (Lib.byteCells L) ⟨s.toArray⟩ w' h.1 (by rw [Lib.byteCells_length, hs]; omega) h.2.size).mono ?_
  rintro e w2 ⟨rfl, h1, h2, h3⟩
  refine ⟨by rw [hs], ⟨.inr (by rw [byteCells_append]; exact h1), h.2.trans h2⟩, h3⟩
theorem Bl.string {w w' : World} {b : Nat} {L : List UInt8} (h : Bl w b L w') :
    Calls Try.prog 36 #[.pointer (some ⟨b, 0, none⟩)] w' fun e w2 => e = .returned (.string ⟨L.toArray⟩) ∧ Below w.heap.size w w2 := by
  refine (Try.Builder_String_any w.heap.size b L w' h.1 h.2.size).mono ?_
  rintro e w2 ⟨rfl, h1⟩
  exact ⟨rfl, h.2.trans h1⟩
theorem Bl.other {w w' w2 : World} {b : Nat} {L : List UInt8} (h : Bl w b L w') (hb : Below w'.heap.size w' w2) : Bl w b L w2 := by
  refine ⟨?_, h.2.trans (hb.mono h.2.size)⟩
  have key : ∀ p, Lib.BuilderAt 72 5 w.heap.size b p (Lib.byteCells L) w' → Lib.BuilderAt 72 5 w.heap.size b p (Lib.byteCells L) w2 := by
    rintro p hh
    have hlt := hh.lt
    obtain ⟨hB, v, hbk, hown, hne⟩ := hh
    exact ⟨hB, v, (hb.block b hlt).trans hbk, own_move hown (fun k hk => hb.block k (own_lt hown k hk)), hne⟩
  exact h.1.imp (key _) (key _)
theorem Bl.drew {w w' : World} {b : Nat} {L : List UInt8} (h : Bl w b L w') : Bl w b L w'.drew := h.other (Below.refl _ _).drew
end Go.Proofs.Ytehieahpocbboaa.G
/-
  wire.list at wire.Int, and wire.Nums.
-/
namespace Go.Proofs.Ytehieahpocbboaa.G
open Go.RowKit Go.Proofs.YtehieahpocbboaaW.PrintWords Go.Proofs.YtehieahpocbboaaW.PrintLast Go.Proofs.YtehieahpocbboaaW.PrintMore
set_option linter.unusedVariables false
set_option linter.unusedSimpArgs false

/-- The bytes of a list's elements, each behind a byte 1. -/
def itemsL (l : List Int) : List UInt8 := l.flatMap fun x => 1 :: intL x
def numsL (l : List Int) : List UInt8 := itemsL l ++ [0]
theorem itemsL_snoc (l : List Int) (x : Int) : itemsL (l ++ [x]) = (itemsL l ++ [1]) ++ intL x := by simp [itemsL, List.flatMap_append]
theorem itemsL_length (l : List Int) (h : ∀ x ∈ l, IsI x) : (itemsL l).length ≤ 10 * l.length := by
  induction l with
  | nil => simp [itemsL]
  | cons x r ih =>
    have := ih (fun y hy => h y (List.mem_cons_of_mem _ hy))
    have h9 := intL_length x (h x List.mem_cons_self).1 (h x List.mem_cons_self).2
    have e : itemsL (x :: r) = 1 :: intL x ++ itemsL r := rfl
    rw [e]
    simp only [List.length_append, List.length_cons]
    omega
/-- wire.Int, as a function value. -/
abbrev intFn : Value := .func (Fn.func 33) #[] #[]
set_option maxHeartbeats 2000000 in
set_option maxRecDepth 100000 in
theorem list_calls (A : Option Addr) (c : Nat) (l : List Int) (w : World) (hr : Kd.C (Kd.int .i64) w A l.length l) (hc : l.length ≤ c) (hl : l.length ≤ 100000) (hw : ∀ x ∈ l, IsI x) :
    Calls Try.prog 32 #[.slice A l.length c, .func (Fn.func 33) #[] #[]] w fun e w' => e = .returned (.string ⟨(numsL l).toArray⟩) ∧ Below w.heap.size w w' := by
  have HR := Aside0.mk hr
  have HW := Aside0.mk hw
  clear hr hw
  go_enter Try.func32, Try.ntmps32
  go_wp2
  go_loopw [10] (fun i wr => ∃ k : Nat, k ≤ l.length ∧ i = .int .i64 k ∧ Aside0 (Bl w w.heap.size (itemsL (l.take k)) wr)) (fun i _ => l.length - (intOf i).toNat)
  case atStart => exact ⟨0, Nat.zero_le _, rfl, ⟨Bl.start w (Nat.le_refl _)⟩⟩
  case round =>
    obtain ⟨k, hk, rfl, HB⟩ := hrel
    have hlen : (itemsL (l.take k)).length ≤ 1000000 := by
      have := itemsL_length (l.take k) (fun x hx => HW.out x (List.mem_of_mem_take hx))
      rw [List.length_take] at this
      omega
    by_cases hlt : k < l.length
    · obtain ⟨ad, rfl, hx⟩ := Kd.at_int HR.out k (by omega) (by omega)
      replace hx := (HB.out.2.cell (World.block_lt_of_cell? w _ hx)).trans hx
      rw [Int.toNat_natCast] at hx
      have hI : IsI (rd l k) := by
        refine HW.out _ ?_
        unfold rd
        rw [Int.toNat_natCast, List.getD_eq_getElem?_getD, List.getElem?_eq_getElem hlt]
        exact List.getElem_mem _
      have hsn : Aside0 (itemsL (l.take (k + 1)) = (itemsL (l.take k) ++ [1]) ++ intL (rd l k)) := ⟨by
        rw [← itemsL_snoc]
        congr 1
        rw [List.take_succ_eq_append_getElem hlt]
        congr 2
        unfold rd
        rw [Int.toNat_natCast, List.getD_eq_getElem?_getD, List.getElem?_eq_getElem hlt]; rfl⟩
      have h9 := intL_length (rd l k) hI.1 hI.2
      have HI := Aside0.mk hI
      clear hI
      go_wp2_with fail
      refine (Bl.byte HB.out 1 (by omega)).mono ?_
      rintro e w1 ⟨rfl, hB1, _⟩
      have HB1 := Aside0.mk hB1
      clear hB1
      go_wp2_with fail
      refine (Int_any _ _ HI.out).mono ?_
      rintro e w2 ⟨rfl, hb2⟩
      have HB2 := Aside0.mk (HB1.out.other hb2)
      clear hb2 HB1
      go_wp2_with fail
      refine (Bl.str HB2.out _ (by simp only [List.length_append, List.length_cons, List.length_nil]; omega)).mono ?_
      rintro e w3 ⟨rfl, hB3, _⟩
      have HB3 := Aside0.mk hB3
      clear hB3 HB2
      go_wp2
      go_roundw
      case rel => exact ⟨k + 1, by omega, by go_num, ⟨by rw [hsn.out]; exact HB3.out⟩⟩
      case measure => simp [intOf]; omega
    · obtain rfl : k = l.length := by omega
      go_wp2_with fail
      refine (Bl.byte HB.out 0 (by omega)).mono ?_
      rintro e w1 ⟨rfl, hB1, _⟩
      have HB1 := Aside0.mk hB1
      clear hB1
      go_wp2_with fail
      refine (Bl.string HB1.out).mono ?_
      rintro e w2 ⟨rfl, hB2⟩
      have HB2 := Aside0.mk hB2
      clear hB2
      go_wp2
      go_ret
      exact ⟨rfl, HB2.out⟩
def wire_Nums.f (l0 : List Int) : Option ByteArray := if l0.length ≤ 100000 ∧ (∀ x ∈ l0, IsI x) then some ⟨(numsL l0).toArray⟩ else none
set_option maxRecDepth 100000 in
theorem wire_Nums.calls (A0 : Option Addr) (c0 : Nat) (l0 : List Int) (r : ByteArray) (w : World) (hr0 : Kd.C (Kd.int .i64) w A0 l0.length l0) (hc0 : l0.length ≤ c0) (h : wire_Nums.f l0 = some r) :
    Calls Try.prog 13 #[.slice A0 l0.length c0] w fun e w' => e = .returned (.string r) ∧ Below w.heap.size w w' := by
  unfold wire_Nums.f at h
  split at h
  · rename_i hl
    obtain rfl := Option.some.inj h
    clear h
    go_enter Try.func13, Try.ntmps13
    go_wp2_with fail
    refine (list_calls A0 c0 l0 w hr0 hc0 hl.1 hl.2).mono ?_
    rintro e w2 ⟨rfl, hb2⟩
    have HB2 := Aside0.mk hb2
    clear hb2
    go_wp2
    go_ret
    exact ⟨rfl, HB2.out⟩
  · cases h
end Go.Proofs.Ytehieahpocbboaa.G
/-
  cast.Bytes.
-/
namespace Go.Proofs.Ytehieahpocbboaa.G
open Go.RowKit Go.Proofs.YtehieahpocbboaaW.PrintWords Go.Proofs.YtehieahpocbboaaW.PrintLast Go.Proofs.YtehieahpocbboaaW.PrintMore
set_option linter.unusedVariables false
set_option linter.unusedSimpArgs false

def endsL (r : List S54) : List Int := r.flatMap fun s => [s.f0, s.f1]
def rowsL (r : List (List S54)) : List UInt8 := r.flatMap fun x => 1 :: numsL (endsL x)
def newsL (kind known id from_ : Int) (rain : List (List S54)) : List UInt8 := intL known ++ intL kind ++ intL id ++ intL from_ ++ rowsL rain ++ [0]
def IsS (s : S54) : Prop := IsI s.f0 ∧ IsI s.f1
def IsRain (r : List (List S54)) : Prop := r.length ≤ 1000 ∧ ∀ x ∈ r, x.length ≤ 1000 ∧ ∀ s ∈ x, IsS s
theorem own_types {w : World} {b1 b2 e1 e2 : Nat} {v1 v2 : Value} {s1 s2 n1 n2 : Nat} {x1 x2 : List Value} (h1 : w.ownsRow b1 e1 s1 v1 n1 x1) (h2 : w.ownsRow b2 e2 s2 v2 n2 x2) (hne : e1 ≠ e2) (k : Nat) (hk : v1.ownBlock = some k) : v2.ownBlock ≠ some k := by
  intro h
  obtain ⟨c1, h3⟩ := own_typed h1 k hk
  obtain ⟨c2, h4⟩ := own_typed h2 k h
  rw [h3] at h4
  injection h4 with h4
  injection h4 with _ h4
  exact hne h4
theorem Bl.grown {w w1 w2 : World} {b base e n : Nat} {L : List UInt8} {v : Value} {xs : List Value} (h : Bl w b L w1) (ho : w1.ownsRow base e 1 v n xs) (h5 : e ≠ 5) (h72 : e ≠ 72) (hb : w.heap.size ≤ base) (hg : w1.grownBy w2 v.ownBlock) : Bl w b L w2 := by
  refine ⟨?_, h.2.grown hg h.2.size (fun k hk => Nat.le_trans hb (own_base ho k hk))⟩
  have key : ∀ p, Lib.BuilderAt 72 5 w.heap.size b p (Lib.byteCells L) w1 → Lib.BuilderAt 72 5 w.heap.size b p (Lib.byteCells L) w2 := by
    rintro p hh
    have hlt := hh.lt
    obtain ⟨hB, u, hbk, hown, hne⟩ := hh
    refine ⟨hB, u, (hg.block b hlt ?_).trans hbk, own_move hown (fun k hk => hg.block k (own_lt hown k hk) ?_), hne⟩
    · intro hk
      obtain ⟨c, hc⟩ := own_typed ho b hk.symm
      rw [hc] at hbk
      injection hbk with hbk
      injection hbk with _ hbk
      exact h72 hbk
    · intro hk2
      exact own_types ho hown h5 k hk2.symm hk
  exact h.1.imp (key _) (key _)
theorem Bl.alloc {w w1 : World} {b : Nat} {L : List UInt8} (h : Bl w b L w1) (o : Obj) : Bl w b L (w1.alloc o) := h.other ((Below.refl _ _).alloc (Nat.le_refl _) o)
theorem endsL_length (r : List S54) : (endsL r).length = 2 * r.length := by
  induction r with
  | nil => rfl
  | cons x r ih =>
    have e : endsL (x :: r) = x.f0 :: x.f1 :: endsL r := rfl
    rw [e]; simp only [List.length_cons]; omega
theorem endsL_is (r : List S54) (h : ∀ s ∈ r, IsS s) : ∀ x ∈ endsL r, IsI x := by
  intro x hx
  simp only [endsL, List.mem_flatMap, List.mem_cons, List.not_mem_nil, or_false] at hx
  obtain ⟨s, hs, rfl | rfl⟩ := hx
  · exact (h s hs).1
  · exact (h s hs).2
theorem numsL_length (r : List S54) (h1 : r.length ≤ 1000) (h : ∀ s ∈ r, IsS s) : (numsL (endsL r)).length ≤ 20001 := by
  have := itemsL_length (endsL r) (endsL_is r h)
  rw [endsL_length] at this
  unfold numsL
  simp only [List.length_append, List.length_cons, List.length_nil]
  omega
theorem rowsL_length (r : List (List S54)) (h : ∀ x ∈ r, x.length ≤ 1000 ∧ ∀ s ∈ x, IsS s) : (rowsL r).length ≤ 20002 * r.length := by
  induction r with
  | nil => simp [rowsL]
  | cons x r ih =>
    have e : rowsL (x :: r) = 1 :: numsL (endsL x) ++ rowsL r := rfl
    have h1 := ih (fun y hy => h y (List.mem_cons_of_mem _ hy))
    have h2 := numsL_length x (h x List.mem_cons_self).1 (h x List.mem_cons_self).2
    rw [e]
    simp only [List.length_append, List.length_cons]
    omega
theorem rowsL_snoc (r : List (List S54)) (x : List S54) : rowsL (r ++ [x]) = (rowsL r ++ [1]) ++ numsL (endsL x) := by simp [rowsL, List.flatMap_append]
theorem endsL_snoc (r : List S54) (s : S54) : endsL (r ++ [s]) = endsL r ++ [s.f0, s.f1] := by simp [endsL, List.flatMap_append]
theorem take_rd_L3 (r : List (List S54)) (k : Nat) (h : k < r.length) : r.take (k + 1) = r.take k ++ [rd_L3 r k] ∧ rd_L3 r k ∈ r := by
  have e : rd_L3 r k = r[k] := by
    unfold rd_L3
    rw [Int.toNat_natCast, List.getD_eq_getElem?_getD, List.getElem?_eq_getElem h]; rfl
  rw [e]
  exact ⟨List.take_succ_eq_append_getElem h, List.getElem_mem _⟩
theorem take_rd_T54 (r : List S54) (k : Nat) (h : k < r.length) : r.take (k + 1) = r.take k ++ [rd_T54 r k] ∧ rd_T54 r k ∈ r := by
  have e : rd_T54 r k = r[k] := by
    unfold rd_T54
    rw [Int.toNat_natCast, List.getD_eq_getElem?_getD, List.getElem?_eq_getElem h]; rfl
  rw [e]
  exact ⟨List.take_succ_eq_append_getElem h, List.getElem_mem _⟩
set_option maxHeartbeats 4000000 in
set_option maxRecDepth 100000 in
theorem Bytes_any (kind known id from_ : Int) (A : Option Addr) (c : Nat) (rain : List (List S54)) (w : World) (hr : Kd.C (Kd.slice 54 k54) w A rain.length rain) (hc : rain.length ≤ c) (h1 : IsI kind) (h2 : IsI known) (h3 : IsI id) (h4 : IsI from_) (h5 : IsRain rain) :
    Calls Try.prog 14 #[.agg #[.int .i64 kind, .int .i64 known, .int .i64 id, .int .i64 from_, .slice A rain.length c]] w fun e w' => e = .returned (.string ⟨(newsL kind known id from_ rain).toArray⟩) ∧ Below w.heap.size w w' := by
  have hu29 := Try.underlying29
  have HR := Aside0.mk hr
  have H1 := Aside0.mk h1
  have H2 := Aside0.mk h2
  have H3 := Aside0.mk h3
  have H4 := Aside0.mk h4
  have H5 := Aside0.mk h5
  clear hr h1 h2 h3 h4 h5
  go_enter Try.func14, Try.ntmps14
  have i0 : ∀ w, (Instr.index 73 (.agg #[.int .i64 known, .int .i64 kind, .int .i64 id, .int .i64 from_]) (.int .i64 0)).run Try.prog w = .ok (.int .i64 known) w := fun _ => by kernel_rfl
  have i1 : ∀ w, (Instr.index 73 (.agg #[.int .i64 known, .int .i64 kind, .int .i64 id, .int .i64 from_]) (.int .i64 1)).run Try.prog w = .ok (.int .i64 kind) w := fun _ => by kernel_rfl
  have i2 : ∀ w, (Instr.index 73 (.agg #[.int .i64 known, .int .i64 kind, .int .i64 id, .int .i64 from_]) (.int .i64 2)).run Try.prog w = .ok (.int .i64 id) w := fun _ => by kernel_rfl
  have i3 : ∀ w, (Instr.index 73 (.agg #[.int .i64 known, .int .i64 kind, .int .i64 id, .int .i64 from_]) (.int .i64 3)).run Try.prog w = .ok (.int .i64 from_) w := fun _ => by kernel_rfl
  go_wp2
  obtain ⟨W0, hW0⟩ : ∃ W0 : World, W0 = w.alloc (.cells #[.int .i64 kind, .int .i64 known, .int .i64 id, .int .i64 from_, .slice A rain.length c] 29) := ⟨_, rfl⟩
  have hsz : W0.heap.size = w.heap.size + 1 := by rw [hW0]; simp
  have hB0 : Aside0 (Below w.heap.size w W0) := ⟨by rw [hW0]; exact (Below.refl _ _).alloc (Nat.le_refl _) _⟩
  have hbox : Aside0 (W0.heap[w.heap.size]? = some (.cells #[.int .i64 kind, .int .i64 known, .int .i64 id, .int .i64 from_, .slice A rain.length c] 29 (0, 0))) := ⟨by rw [hW0]; exact heap_alloc_new w _⟩
  rw [← hW0]
  clear hW0
  have hsz' := Aside0.mk hsz
  clear hsz
  go_loopw [22] (fun i wr => ∃ L : List UInt8, Aside0 (Bl W0 (w.heap.size + 1) L wr) ∧ Aside0 (L.length ≤ 100) ∧ ((i = .int .i64 0 ∧ Aside0 (L = [])) ∨ (i = .int .i64 1 ∧ Aside0 (L = intL known)) ∨ (i = .int .i64 2 ∧ Aside0 (L = intL known ++ intL kind)) ∨ (i = .int .i64 3 ∧ Aside0 (L = intL known ++ intL kind ++ intL id)) ∨ (i = .int .i64 4 ∧ Aside0 (L = intL known ++ intL kind ++ intL id ++ intL from_)))) (fun i _ => 4 - (intOf i).toNat)
  case atStart => exact ⟨[], ⟨Bl.start' W0 _ hsz'.out.symm⟩, ⟨by simp⟩, .inl ⟨rfl, ⟨rfl⟩⟩⟩
  case round =>
    obtain ⟨L, HB, HL, h⟩ := hrel
    have b1 := Aside0.mk (intL_length known H2.out.1 H2.out.2)
    have b2 := Aside0.mk (intL_length kind H1.out.1 H1.out.2)
    have b3 := Aside0.mk (intL_length id H3.out.1 H3.out.2)
    have b4 := Aside0.mk (intL_length from_ H4.out.1 H4.out.2)
    rcases h with ⟨rfl, he⟩ | ⟨rfl, he⟩ | ⟨rfl, he⟩ | ⟨rfl, he⟩ | ⟨rfl, he⟩
    · go_wp2_with fail
      refine (Int_any _ _ H2.out).mono ?_
      rintro e w2 ⟨rfl, hb2⟩
      have HB2 := Aside0.mk (HB.out.other hb2)
      clear hb2 HB
      go_wp2_with fail
      refine (Bl.str HB2.out _ (by have := HL.out; have := b1.out; omega)).mono ?_
      rintro e w3 ⟨rfl, hB3, _⟩
      have HB3 := Aside0.mk hB3
      clear hB3 HB2
      go_wp2
      go_roundw
      case rel => exact ⟨_, HB3, ⟨by have h1 := he.out; have := b1.out; simp [h1]; omega⟩, .inr (.inl ⟨rfl, ⟨by rw [he.out]; rfl⟩⟩)⟩
      case measure => simp [intOf]
    · go_wp2_with fail
      refine (Int_any _ _ H1.out).mono ?_
      rintro e w2 ⟨rfl, hb2⟩
      have HB2 := Aside0.mk (HB.out.other hb2)
      clear hb2 HB
      go_wp2_with fail
      refine (Bl.str HB2.out _ (by have := HL.out; have := b2.out; omega)).mono ?_
      rintro e w3 ⟨rfl, hB3, _⟩
      have HB3 := Aside0.mk hB3
      clear hB3 HB2
      go_wp2
      go_roundw
      case rel => exact ⟨_, HB3, ⟨by have h1 := he.out; have := b1.out; have := b2.out; simp [h1]; omega⟩, .inr (.inr (.inl ⟨rfl, ⟨by rw [he.out]⟩⟩))⟩
      case measure => simp [intOf]
    · go_wp2_with fail
      refine (Int_any _ _ H3.out).mono ?_
      rintro e w2 ⟨rfl, hb2⟩
      have HB2 := Aside0.mk (HB.out.other hb2)
      clear hb2 HB
      go_wp2_with fail
      refine (Bl.str HB2.out _ (by have := HL.out; have := b3.out; omega)).mono ?_
      rintro e w3 ⟨rfl, hB3, _⟩
      have HB3 := Aside0.mk hB3
      clear hB3 HB2
      go_wp2
      go_roundw
      case rel => exact ⟨_, HB3, ⟨by have h1 := he.out; have := b1.out; have := b2.out; have := b3.out; simp [h1]; omega⟩, .inr (.inr (.inr (.inl ⟨rfl, ⟨by rw [he.out]⟩⟩)))⟩
      case measure => simp [intOf]
    · go_wp2_with fail
      refine (Int_any _ _ H4.out).mono ?_
      rintro e w2 ⟨rfl, hb2⟩
      have HB2 := Aside0.mk (HB.out.other hb2)
      clear hb2 HB
      go_wp2_with fail
      refine (Bl.str HB2.out _ (by have := HL.out; have := b4.out; omega)).mono ?_
      rintro e w3 ⟨rfl, hB3, _⟩
      have HB3 := Aside0.mk hB3
      clear hB3 HB2
      go_wp2
      go_roundw
      case rel => exact ⟨_, HB3, ⟨by have h1 := he.out; have := b1.out; have := b2.out; have := b3.out; have := b4.out; simp [h1]; omega⟩, .inr (.inr (.inr (.inr ⟨rfl, ⟨by rw [he.out]⟩⟩)))⟩
      case measure => simp [intOf]
    · have g4 : wr.cell? ⟨w.heap.size, 4, none⟩ = some (.slice A rain.length c) := by
        rw [HB.out.2.cell (p := ⟨w.heap.size, 4, none⟩) (by have := hsz'.out; simp; omega), Lib.cell_of_heap hbox.out]; rfl
      clear i0 i1 i2 i3
      obtain ⟨hn5, hrows⟩ := H5.out
      have HRows := Aside0.mk hrows
      clear hrows
      go_wp2
      clear g4
      go_loopw [33] (fun i wr => ∃ k : Nat, k ≤ rain.length ∧ i = .int .i64 k ∧ Aside0 (Bl W0 (w.heap.size + 1) (L ++ rowsL (rain.take k)) wr)) (fun i _ => rain.length - (intOf i).toNat)
      case atStart => exact ⟨0, Nat.zero_le _, rfl, ⟨by rw [List.take_zero]; simpa [rowsL] using HB.out⟩⟩
      case round =>
        clear HB
        obtain ⟨k, hk, rfl, HB⟩ := hrel
        have hlen : Aside0 ((L ++ rowsL (rain.take k)).length ≤ 20002100) := ⟨by
          have h1 := HL.out
          have h2 := rowsL_length (rain.take k) (fun x hx => HRows.out x (List.mem_of_mem_take hx))
          rw [List.length_take] at h2
          rw [List.length_append]
          omega⟩
        by_cases hlt : k < rain.length
        · obtain ⟨ad, A1, c1, rfl, hx, hl1, hi1⟩ := at_L3 HR.out k (by omega) (by omega)
          have hxw := World.block_lt_of_cell? w _ hx
          replace hx := (hB0.out.cell hxw).trans hx
          replace hx := (HB.out.2.cell (World.block_lt_of_cell? W0 _ hx)).trans hx
          rw [Int.toNat_natCast] at hx
          have hsn := Aside0.mk (take_rd_L3 rain k hlt)
          obtain ⟨row, hrow⟩ : ∃ row, row = rd_L3 rain k := ⟨_, rfl⟩
          rw [← hrow] at hx hl1 hi1 hsn
          clear hrow
          have HRow := Aside0.mk (HRows.out row hsn.out.2)
          have hrl : row.length ≤ 1000 := HRow.out.1
          have HI1 := Aside0.mk hi1
          clear hi1
          go_wp2
          obtain ⟨wo, rfl⟩ : ∃ wo : World, wo = wr := ⟨_, rfl⟩
          go_loopw [8, 39] (fun v i wr => ∃ j : Nat, j ≤ row.length ∧ i = .int .i64 j ∧ Aside0 (wr.ownsRow W0.heap.size 3 1 v (endsL (row.take j)).length (nums .i64 (endsL (row.take j)))) ∧ Aside0 (Bl W0 (w.heap.size + 1) (L ++ rowsL (rain.take k)) wr)) (fun _ i _ => row.length - (intOf i).toNat)
          case atStart => exact ⟨0, Nat.zero_le _, rfl, ⟨by rw [List.take_zero]; exact World.ownsRow_nil _ _ _ _⟩, HB⟩
          case round =>
            clear HB hx
            obtain ⟨j, hj, rfl, HO, HB⟩ := hrel
            by_cases hjt : j < row.length
            · obtain ⟨ad2, rfl, hy0, hy1⟩ := at_T54 HI1.out j (by omega) (by omega)
              have hyw0 := World.block_lt_of_cell? w _ hy0
              replace hy0 := (hB0.out.cell hyw0).trans hy0
              replace hy0 := (HB.out.2.cell (World.block_lt_of_cell? W0 _ hy0)).trans hy0
              have hyw1 := World.block_lt_of_cell? w _ hy1
              replace hy1 := (hB0.out.cell hyw1).trans hy1
              replace hy1 := (HB.out.2.cell (World.block_lt_of_cell? W0 _ hy1)).trans hy1
              clear hyw0 hyw1
              rw [Int.toNat_natCast] at hy0 hy1
              have hsj := Aside0.mk (take_rd_T54 row j hjt)
              obtain ⟨s, hs⟩ : ∃ s, s = rd_T54 row j := ⟨_, rfl⟩
              rw [← hs] at hy0 hy1 hsj
              clear hs
              obtain ⟨i0, hi, hz0, hz1, hz2⟩ := info_parts info3
              have hel : (endsL (row.take j)).length ≤ 2000 := by rw [endsL_length, List.length_take]; omega
              go_wp2_with (at_builtin; refine wpList_append_own _ rfl _ _ 36 rfl W0.heap.size 3 i0 (.int .i64 0) 1 8 Try.underlying36 hi hz0 hz1 hz2 rfl (by decide) _ _ _ rfl ((HO.out.alloc _).alloc _) ⟨wr.heap.size + 1, 0, none⟩ 2 2 [.int .i64 s.f0, .int .i64 s.f1] rfl rfl ?c1 ?c2 ?c3 ?c4 ?c5 ?_)
              case c1 =>
                intro jj u hjj
                match jj, hjj with
                | 0, hjj => simp at hjj; subst hjj; simp [Addr.add, go_sem]
                | 1, hjj => simp at hjj; subst hjj; simp [Addr.add, go_sem]
              case c2 => intro u hu; simp at hu; rcases hu with rfl | rfl <;> rfl
              case c3 => unfold maxLen; omega
              case c4 => omega
              case c5 => have := HB.out.2.size; simp; omega
              intro v' w2 hown' hgrow _
              have HO2 := Aside0.mk hown'
              have HB2 := Aside0.mk (((HB.out.alloc _).alloc _).grown ((HO.out.alloc _).alloc _) (by decide) (by decide) (Nat.le_refl _) hgrow)
              clear hown' hgrow HB HO hy0 hy1
              go_wp2
              go_roundw
              case rel =>
                refine ⟨j + 1, by omega, by go_num, ⟨?_⟩, HB2⟩
                have e1 : endsL (row.take (j + 1)) = endsL (row.take j) ++ [s.f0, s.f1] := by rw [hsj.out.1, endsL_snoc]
                rw [e1, nums_append, List.length_append]
                exact HO2.out
              case measure => simp [intOf]; omega
            · obtain rfl : j = row.length := by omega
              have hl2 := hlen.out
              have hn2 := numsL_length row HRow.out.1 HRow.out.2
              rw [List.take_length] at HO
              obtain ⟨A3, c3, rfl⟩ := own_slice HO.out
              go_wp2_with fail
              refine (Bl.byte HB.out 1 (by omega)).mono ?_
              rintro e w1 ⟨rfl, hB1, hk1⟩
              have HB1 := Aside0.mk hB1
              have HO1 : Aside0 (w1.ownsRow W0.heap.size 3 1 (.slice A3 (endsL row).length c3) (endsL row).length (nums .i64 (endsL row))) := ⟨own_move HO.out (fun kk hkk => by
                obtain ⟨cs, hcs⟩ := own_typed HO.out kk hkk
                exact hk1 kk cs 3 _ hcs (by decide) (by decide))⟩
              clear hB1 hk1 HB HO
              have hRr : (Kd.int .i64).R 3 w1 W0.heap.size (fun _ => True) (.slice A3 (endsL row).length c3) (endsL row) := Kd.R_of_own HO1.out (fun _ _ => trivial)
              have HC := Aside0.mk (Kd.R_reads hRr)
              clear hRr
              clear HO1
              obtain ⟨A4, c4, hA4, hle4, hC4⟩ := HC.out
              injection hA4 with ha4 hn4 hc4
              subst ha4 hc4
              have HC4 := Aside0.mk hC4
              clear hC4 HC hn4
              go_wp2_with fail
              refine (wire_Nums.calls A3 c3 (endsL row) ⟨(numsL (endsL row)).toArray⟩ _ HC4.out hle4 (by unfold wire_Nums.f; rw [if_pos ⟨by rw [endsL_length]; omega, endsL_is row HRow.out.2⟩])).mono ?_
              rintro e w2 ⟨rfl, hb2⟩
              have HB2 := Aside0.mk (HB1.out.other hb2)
              clear hb2 HB1 HC4
              go_wp2_with fail
              refine (Bl.str HB2.out _ (by simp only [List.length_append, List.length_cons, List.length_nil] at hl2 ⊢; omega)).mono ?_
              rintro e w3 ⟨rfl, hB3, _⟩
              have HB3 := Aside0.mk hB3
              clear hB3 HB2
              go_wp2
              go_roundw
              case rel =>
                refine ⟨k + 1, by omega, by go_num, ⟨?_⟩⟩
                rw [hsn.out.1, rowsL_snoc, ← List.append_assoc, ← List.append_assoc]
                exact HB3.out
              case measure => simp [intOf]; omega
        · obtain rfl : k = rain.length := by omega
          have hl2 := hlen.out
          rw [List.take_length] at HB hl2
          go_wp2_with fail
          refine (Bl.byte HB.out 0 (by omega)).mono ?_
          rintro e w1 ⟨rfl, hB1, _⟩
          have HB1 := Aside0.mk hB1
          clear hB1
          go_wp2_with fail
          refine (Bl.string HB1.out).mono ?_
          rintro e w2 ⟨rfl, hB2⟩
          have HB2 := Aside0.mk hB2
          clear hB2
          go_wp2
          go_ret
          refine ⟨?_, hB0.out.trans (HB2.out.mono (by have := hsz'.out; omega))⟩
          have h1 := he.out
          subst h1
          have e2 : newsL kind known id from_ rain = (intL known ++ intL kind ++ intL id ++ intL from_) ++ (rowsL rain ++ [0]) := by unfold newsL; rw [List.append_assoc _ (rowsL rain)]
          rw [e2]
          rfl
instance (s : S54) : Decidable (IsS s) := by unfold IsS; infer_instance
instance (r : List (List S54)) : Decidable (IsRain r) := by unfold IsRain; infer_instance
def cast_Bytes.f (a0 a1 a2 a3 : Int) (l : List (List S54)) : Option ByteArray := if IsI a0 ∧ IsI a1 ∧ IsI a2 ∧ IsI a3 ∧ IsRain l then some ⟨(newsL a0 a1 a2 a3 l).toArray⟩ else none
theorem cast_Bytes.calls (a0_0 : Int) (a0_1 : Int) (a0_2 : Int) (a0_3 : Int) (A0_4 : Option Addr) (c0_4 : Nat) (l0_4 : List (List (S54))) (r : ByteArray) (w : World) (hr0_4 : Kd.C (Kd.slice 54 k54) w A0_4 l0_4.length l0_4) (hc0_4 : l0_4.length ≤ c0_4) (h : cast_Bytes.f a0_0 a0_1 a0_2 a0_3 l0_4 = some r) :
    Calls Try.prog 14 #[.agg #[.int .i64 a0_0, .int .i64 a0_1, .int .i64 a0_2, .int .i64 a0_3, .slice A0_4 l0_4.length c0_4]] w fun e w' => e = .returned (.string r) ∧ Below w.heap.size w w' := by
  unfold cast_Bytes.f at h
  split at h
  · rename_i hh
    obtain ⟨h1, h2, h3, h4, h5⟩ := hh
    obtain rfl := Option.some.inj h
    exact Bytes_any a0_0 a0_1 a0_2 a0_3 A0_4 c0_4 l0_4 w hr0_4 hc0_4 h1 h2 h3 h4 h5
  · cases h
end Go.Proofs.Ytehieahpocbboaa.G
