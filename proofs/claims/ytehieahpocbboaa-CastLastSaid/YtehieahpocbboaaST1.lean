import Derived.Shelf.SlSortCmp.KitK
import Derived.Sort.WalkB2
import Derived.Sort.WalkB12
import Derived.Deep.LoopGhost
import Derived.Test.YtehieahpocbboaaProg
import Derived.Test.YtehieahpocbboaaST0
namespace Go.Proofs.Ytehieahpocbboaa.ST
open Go.Shelf Go.RowKit Go.Lib Go.Sort
set_option linter.unusedVariables false
set_option linter.unusedSimpArgs false

/-- What the walks ask of the program: the five bodies, the types' descriptions; the element's size stays a variable. -/
structure StL (P : Program) (k : Nat) : Prop where
  mixed : P.follows .mixedOrders = true
  f54 : P.funcs[54]? = some Try.f54
  f70 : P.funcs[70]? = some Try.f70
  f71 : P.funcs[71]? = some Try.f71
  f79 : P.funcs[79]? = some Try.f79
  f81 : P.funcs[81]? = some Try.f81
  t0 : P.underlying 0 = some (TypeDesc.tuple #[])
  a0 : ∀ w, (isAgg 0).run P w = .ok false w
  z0 : ∀ w, (Go.sizeOf 0).run P w = .ok 1 w
  v0 : ∀ w, (zeroValue 0).run P w = .ok (Value.tuple #[]) w
  t3 : P.underlying 3 = some (TypeDesc.int IntKind.i64)
  a3 : ∀ w, (isAgg 3).run P w = .ok false w
  z3 : ∀ w, (Go.sizeOf 3).run P w = .ok 1 w
  v3 : ∀ w, (zeroValue 3).run P w = .ok (Value.int IntKind.i64 0) w
  t4 : P.underlying 4 = some (TypeDesc.bool)
  a4 : ∀ w, (isAgg 4).run P w = .ok false w
  z4 : ∀ w, (Go.sizeOf 4).run P w = .ok 1 w
  v4 : ∀ w, (zeroValue 4).run P w = .ok (Value.bool false) w
  t22 : P.underlying 22 = some (TypeDesc.slice 29)
  a22 : ∀ w, (isAgg 22).run P w = .ok false w
  z22 : ∀ w, (Go.sizeOf 22).run P w = .ok 1 w
  v22 : ∀ w, (zeroValue 22).run P w = .ok (Value.slice none 0 0) w
  t87 : P.underlying 87 = some (TypeDesc.func #[29, 29] #[3] false)
  a87 : ∀ w, (isAgg 87).run P w = .ok false w
  z87 : ∀ w, (Go.sizeOf 87).run P w = .ok 1 w
  v87 : ∀ w, (zeroValue 87).run P w = .ok (Value.nilFunc) w
  t82 : P.underlying 82 = some (TypeDesc.int IntKind.u64)
  a82 : ∀ w, (isAgg 82).run P w = .ok false w
  z82 : ∀ w, (Go.sizeOf 82).run P w = .ok 1 w
  v82 : ∀ w, (zeroValue 82).run P w = .ok (Value.int IntKind.u64 0) w
  aE : ∀ w, (isAgg 29).run P w = .ok true w
  zE : ∀ w, (Go.sizeOf 29).run P w = .ok k w

variable {P : Program} {α : Type} [Inhabited α]

/-! ### the worlds that the sort passes through: any number of draws (a callee of which only 'Below' is known says nothing of the draws) -/
def sd (w : World) (n : Nat) : World := { w with drawn := n }
def SB (enc : α → List Value) (k : Nat) (w0 : World) (blk off : Nat) (dk : Array α) (W : World) : Prop := ∃ q, SWK enc k (sd w0 q) blk off dk W
theorem holdsK_sd {enc : α → List Value} {k : Nat} {w : World} {blk off : Nat} {d : Array α} (h : HoldsK enc k w blk off d) (q : Nat) : HoldsK enc k (sd w q) blk off d := h
section
variable {enc : α → List Value} {k : Nat} {w0 W : World} {blk off : Nat} {dk d0 : Array α}
theorem rowK_sd (R : RowK enc k w0 blk off d0) (q : Nat) : RowK enc k (sd w0 q) blk off d0 := ⟨R.hk, R.h1, holdsK_sd R.hH q, R.hblk⟩
theorem SB.start (h : HoldsK enc k w0 blk off dk) : SB enc k w0 blk off dk w0 := ⟨w0.drawn, SWK.start h⟩
theorem sd_sort (W0 : World) (q m n : Nat) (os : Array Obj) : sd (sortWorldK enc k (sd W0 q) blk off m dk os) n = sortWorldK enc k (sd W0 n) blk off 0 dk os := rfl
theorem SB.sdw (h : SB enc k w0 blk off dk W) (n : Nat) : SB enc k w0 blk off dk (sd W n) := by
  obtain ⟨q, m, os, rfl⟩ := h
  exact ⟨n, 0, os, rfl⟩
theorem SB.grown (h : SB enc k w0 blk off dk W) (n : Nat) (os : Array Obj) : SB enc k w0 blk off dk (grow (sd W n) os) := by
  obtain ⟨q, m, os0, rfl⟩ := h
  exact ⟨n, 0, os0 ++ os, by rw [sd_sort]; unfold sortWorldK; rw [grow_grow]⟩
theorem SB.lt (h : SB enc k w0 blk off dk W) (hblk : blk < w0.heap.size) : blk < W.heap.size := by
  obtain ⟨q, h⟩ := h
  exact h.lt hblk
theorem SB.holds (h : SB enc k w0 blk off dk W) (R : RowK enc k w0 blk off d0) (hs : dk.size = d0.size) : HoldsK enc k W blk off dk := by
  obtain ⟨q, h⟩ := h
  exact h.holds R.hblk (rowK_sd R q).hH hs
theorem SB.load (h : SB enc k w0 blk off dk W) (R : RowK enc k w0 blk off d0) (hs : dk.size = d0.size) (P : Program) (i : Nat) (hi : i < dk.size) :
    Sem.run P (loadCellsFrom ⟨blk, off + i * k, none⟩ 0 k #[]) W = .ok (enc dk[i]!).toArray W := by
  obtain ⟨q, h⟩ := h
  exact h.load (rowK_sd R q) hs P i hi
theorem SB.ld (h : SB enc k w0 blk off dk W) (R : RowK enc k w0 blk off d0) (hs : dk.size = d0.size) (P : Program) (i : Nat) (hi : i < dk.size) (n : Nat) (os : Array Obj) :
    Sem.run P (loadCellsFrom ⟨blk, off + i * k, none⟩ 0 k #[]) (grow (sd W n) os) = .ok (enc dk[i]!).toArray (grow (sd W n) os) := (h.grown n os).load R hs P i hi
theorem SB.ld1 (h : SB enc k w0 blk off dk W) (R : RowK enc k w0 blk off d0) (hs : dk.size = d0.size) (P : Program) (i : Nat) (hi : i < dk.size) :
    Sem.run P (loadCellsFrom ⟨blk, off + i * k, none⟩ 0 k #[]) W.drew = .ok (enc dk[i]!).toArray W.drew := by
  obtain ⟨q, h⟩ := h
  exact h.ld1 (rowK_sd R q) hs P i hi
theorem SB.st1 (h : SB enc k w0 blk off dk W) (R : RowK enc k w0 blk off d0) (hs : dk.size = d0.size) (P : Program) (i : Nat) (hi : i < dk.size) (y : α) :
    Sem.run P (storeCells ⟨blk, off + i * k, none⟩ (enc y) 0) W.drew = .ok () (W.drew.setCells blk (off + i * k) (enc y)) := by
  obtain ⟨q, h⟩ := h
  exact h.st1 (rowK_sd R q) hs P i hi y
theorem SB.st2 (h : SB enc k w0 blk off dk W) (R : RowK enc k w0 blk off d0) (hs : dk.size = d0.size) (P : Program) (i j : Nat) (hi : i < dk.size) (hj : j < dk.size) (y x : α) :
    Sem.run P (storeCells ⟨blk, off + j * k, none⟩ (enc x) 0) (W.drew.setCells blk (off + i * k) (enc y)) = .ok () ((W.drew.setCells blk (off + i * k) (enc y)).setCells blk (off + j * k) (enc x)) := by
  obtain ⟨q, h⟩ := h
  exact h.st2 (rowK_sd R q) hs P i j hi hj y x
theorem SB.swapped (h : SB enc k w0 blk off dk W) (R : RowK enc k w0 blk off d0) (i j : Nat) (hi : i < dk.size) (hj : j < dk.size) :
    SB enc k w0 blk off (swp dk i j) ((W.drew.setCells blk (off + i * k) (enc dk[j]!)).setCells blk (off + j * k) (enc dk[i]!)) := by
  obtain ⟨q, h⟩ := h
  exact ⟨q, h.swapped (rowK_sd R q) i j hi hj⟩
theorem SB.drew (h : SB enc k w0 blk off dk W) : SB enc k w0 blk off dk W.drew := by
  obtain ⟨q, h⟩ := h
  exact ⟨q, h.drew⟩
end

/-- What is asked of the comparison: in every world of the sort's it hands back 'cf x y', and turns nothing that was there. -/
def CmpB (P : Program) (g : Nat) (cb : Array Value) (enc : α → List Value) (k : Nat) (cf : α → α → Int) (blk off size : Nat) (w0 : World) : Prop :=
  ∀ (W : World) (dk : Array α), dk.size = size → SB enc k w0 blk off dk W → ∀ x y : α,
    Calls P g (#[.agg (enc x).toArray, .agg (enc y).toArray] ++ cb) W fun e w' => e = .returned (.int .i64 (cf x y)) ∧ ∃ n os, w' = grow (sd W n) os
theorem SB.cmp {enc : α → List Value} {k : Nat} {w0 W : World} {blk off : Nat} {dk : Array α} {g : Nat} {cb : Array Value} {cf : α → α → Int} {size : Nat} (h : SB enc k w0 blk off dk W) (hC : CmpB P g cb enc k cf blk off size w0) (hs : dk.size = size) (x y : α) (n : Nat) (os : Array Obj) :
    Calls P g (#[.agg (enc x).toArray, .agg (enc y).toArray] ++ cb) (grow (sd W n) os) fun e w' => e = .returned (.int .i64 (cf x y)) ∧ ∃ p : GrownBy, w' = grow (sd W p.n) p.os :=
  (hC _ dk hs (h.grown n os) x y).mono fun _ _ ⟨he, q, os', hq⟩ => ⟨he, ⟨q, os ++ os'⟩, by rw [hq]; show grow (grow (sd W q) os) os' = _; rw [grow_grow]⟩
theorem region_sd {id : Nat} {Q : Exit → Act → World → Prop} {a : Act} {w : World} {l : List Oper} (hm : P.follows .mixedOrders = true) (hB : Region.lexB .any l.toArray = true)
    (h : wpQuiet P l.toArray (fun w' => ∃ p : GrownBy, w' = grow (sd w p.n) p.os) (fun a' => ∀ w', (∃ p : GrownBy, w' = grow (sd w p.n) p.os) → Q .normal a' w') l a) : (Code.region id l.toArray true).wp P Q a w :=
  wp_region_quiet (C := fun w' => ∃ p : GrownBy, w' = grow (sd w p.n) p.os) hm hB ⟨⟨w.drawn + 1, #[]⟩, by rw [grow_empty]; rfl⟩ (by simpa using h)

set_option maxHeartbeats 4000000 in
set_option maxRecDepth 1000000 in
theorem swapRange (k : Nat) (L : StL P k) (enc : α → List Value) (g : Nat) (cb : Array Value) (blk off cap a b n : Nat) (d0 d : Array α) (w0 w : World)
    (R : RowK enc k w0 blk off d0) (hs : d0.size = d.size) (S : SB enc k w0 blk off d w) (ha : a + n ≤ d.size) (hb : b + n ≤ d.size) (hsz : d.size < 4611686018427387904) :
    Calls P 81 #[.slice (some ⟨blk, off, none⟩) d.size cap, .int .i64 a, .int .i64 b, .int .i64 n, .func (.func g) #[] cb] w fun e w' => e = .returned (.tuple #[]) ∧ SB enc k w0 blk off (swapR d a b n) w' := by
  have mixed := L.mixed; have t0 := L.t0; have a0 := L.a0; have z0 := L.z0; have v0 := L.v0; have t3 := L.t3; have a3 := L.a3; have z3 := L.z3; have v3 := L.v3; have t4 := L.t4; have a4 := L.a4; have z4 := L.z4; have v4 := L.v4; have t22 := L.t22; have a22 := L.a22; have z22 := L.z22; have v22 := L.v22; have t87 := L.t87; have a87 := L.a87; have z87 := L.z87; have v87 := L.v87; have aE := L.aE; have zE := L.zE
  have FG := L.f81
  have S0 : Aside (SB enc k w0 blk off d w) := S
  clear S L
  go_enter FG, Try.ntmps81
  go_wp2
  go_loopg [10] n (fun kx s10 wr => ∃ i : Nat, s10 = .int .i64 i ∧ i + kx = n ∧ Aside (SB enc k w0 blk off (swapR d a b i) wr))
  case atStart => exact ⟨0, rfl, by omega, S0⟩
  case round =>
    clear S0
    obtain ⟨i, rfl, hik, S1⟩ := hrel
    have hds : (swapR d a b i).size = d.size := size_swapR _ _ _ _
    cases gk with
    | zero =>
      obtain rfl : i = n := by omega
      go_wp2
      go_end0
      exact ⟨rfl, S1.out⟩
    | succ kx =>
      have hlt : (i : Int) < (n : Int) := by omega
      go_wp2_with fail
      have ea44 : ((a : Int) + (i : Int)).toNat = a + i := by omega
      have pa44 : (0 : Int) ≤ (a : Int) + (i : Int) := by omega
      have ba44 : (a : Int) + (i : Int) < (d.size : Int) := by omega
      have ra44 : IntKind.i64.wrap ((a : Int) + (i : Int)) = (a : Int) + (i : Int) := by rw [IntKind.wrap_i64]; omega
      have ec44 : ((b : Int) + (i : Int)).toNat = b + i := by omega
      have pc44 : (0 : Int) ≤ (b : Int) + (i : Int) := by omega
      have bc44 : (b : Int) + (i : Int) < (d.size : Int) := by omega
      have rc44 : IntKind.i64.wrap ((b : Int) + (i : Int)) = (b : Int) + (i : Int) := by rw [IntKind.wrap_i64]; omega
      generalize hdk : swapR d a b i = dk at S1 hds
      have HD : Aside (swapR d a b i = dk) := hdk
      clear hdk
      have S2 : Aside (SB enc k w0 blk off (swp dk (a + i) (b + i)) ((wr.drew.setCells blk (off + (a + i) * k) (enc dk[b + i]!)).setCells blk (off + (b + i) * k) (enc dk[a + i]!))) := S1.out.swapped R (a + i) (b + i) (by omega) (by omega)
      have l44a := S1.out.ld1 R (by omega) P (a + i) (by omega)
      have l44b := S1.out.ld1 R (by omega) P (b + i) (by omega)
      have s44a := S1.out.st1 R (by omega) P (a + i) (by omega) dk[b + i]!
      have s44b := S1.out.st2 R (by omega) P (a + i) (b + i) (by omega) (by omega) dk[b + i]! dk[a + i]!
      have n44a : (enc dk[a + i]!).length = k := R.hk _
      have n44b : (enc dk[b + i]!).length = k := R.hk _
      generalize enc dk[a + i]! = cI44 at S2 l44a s44b n44a
      generalize enc dk[b + i]! = cJ44 at S2 l44b s44a s44b n44b
      clear S1
      go_wp2_with fail
      go_big_region_o
      clear l44a l44b s44a s44b
      generalize (wr.drew.setCells blk (off + (a + i) * k) cJ44).setCells blk (off + (b + i) * k) cI44 = w2 at S2 ⊢
      go_wp2
      go_roundg kx
      case measure => omega
      case rel =>
        exact ⟨i + 1, by simp, by omega, by show Aside (SB enc k w0 blk off (swp (swapR d a b i) (a + i) (b + i)) _); rw [HD.out]; exact S2⟩
end Go.Proofs.Ytehieahpocbboaa.ST
