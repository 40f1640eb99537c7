import Derived.Shelf.RegionOpenPlain
import Derived.Shelf.SlicesE.Kit
import Derived.Deep.LoopGhost
import Derived.Sort.WalkB2
import Derived.Sort.WalkB12
import Derived.Test.YtioekkdodggakaaDoorHBase
/-
  slices.Compact at telegrams.
-/
namespace Go.Proofs.YtioekkdodggakaaDoor.ST
open Go.Shelf Go.RowKit Go.Lib Go.Sort
set_option linter.unusedVariables false
set_option linter.unusedSimpArgs false
structure CoL (P : Program) (k : Nat) : Prop where
  mixed : P.follows .mixedOrders = true
  f24 : P.funcs[24]? = some Tryd.f24
  t0 : P.underlying 0 = some (TypeDesc.tuple #[])
  a0 : ∀ w, (isAgg 0).run P w = .ok false w
  z0 : ∀ w, (Go.sizeOf 0).run P w = .ok 1 w
  v0 : ∀ w, (zeroValue 0).run P w = .ok (Value.tuple #[]) w
  t3 : P.underlying 3 = some (TypeDesc.int IntKind.i64)
  a3 : ∀ w, (isAgg 3).run P w = .ok false w
  z3 : ∀ w, (Go.sizeOf 3).run P w = .ok 1 w
  v3 : ∀ w, (zeroValue 3).run P w = .ok (Value.int IntKind.i64 0) w
  t4 : P.underlying 4 = some (TypeDesc.bool)
  a4 : ∀ w, (isAgg 4).run P w = .ok false w
  z4 : ∀ w, (Go.sizeOf 4).run P w = .ok 1 w
  v4 : ∀ w, (zeroValue 4).run P w = .ok (Value.bool false) w
  t22 : P.underlying 22 = some (TypeDesc.slice 29)
  a22 : ∀ w, (isAgg 22).run P w = .ok false w
  z22 : ∀ w, (Go.sizeOf 22).run P w = .ok 1 w
  v22 : ∀ w, (zeroValue 22).run P w = .ok (Value.slice none 0 0) w
  aE : ∀ w, (isAgg 29).run P w = .ok true w
  zE : ∀ w, (Go.sizeOf 29).run P w = .ok k w
variable {P : Program} {α : Type} [Inhabited α] [DecidableEq α]
structure EqE (P : Program) (enc : α → List Value) (k : Nat) (zv : Value) (zc : List Value) : Prop where
  hk : ∀ x, (enc x).length = k
  h1 : ∀ x, ∀ v ∈ enc x, v.oneCell' = true
  k0 : 0 < k
  eql : ∀ (d : Nat) (x y : α) (w : World), Sem.run P (Op.equalIn (d + 2) 29 (.agg (enc x).toArray) (.agg (enc y).toArray)) w = .ok (decide (x = y)) w
  gd : ∀ (op : BinOp) (a b : Operand) (x y : α) (w : World), Sem.run P (eqGuard op 29 a b (.agg (enc x).toArray) (.agg (enc y).toArray)) w = .ok () w
  vE : ∀ w, (zeroValue 29).run P w = .ok zv w
  zcE : zv.cells = zc.toArray
  zlE : zc.length = k
  zoE : ∀ v ∈ zc, v.oneCell' = true

theorem isSome_of {α : Type} {o : Option α} {x : α} (h : o = some x) : o.isSome = true := by rw [h]; rfl
set_option maxHeartbeats 4000000 in
set_option maxRecDepth 1000000 in
theorem compactK (k : Nat) (L : CoL P k) (enc : α → List Value) (zv : Value) (zc : List Value) (HE : EqE P enc k zv zc) (g cap : Nat) (d : Array α) (w : World) (R : RowAt enc k 29 g cap d w w) (hsz : d.size < 4611686018427387904) (hcap : d.size ≤ cap) (hcm : cap ≤ 9223372036854775807) :
    Calls P 24 #[.slice (some ⟨g, 0, none⟩) d.size cap] w fun e w' => e = .returned (.slice (some ⟨g, 0, none⟩) (compactUpTo d d.size).length cap) ∧ ∃ dk, RowAt enc k 29 g cap dk w w' ∧ (compactUpTo d d.size).length ≤ dk.size ∧ dk.size ≤ d.size ∧ dk.toList.take (compactUpTo d d.size).length = compactUpTo d d.size := by
  have mixed := L.mixed; have t0 := L.t0; have a0 := L.a0; have z0 := L.z0; have v0 := L.v0; have t3 := L.t3; have a3 := L.a3; have z3 := L.z3; have v3 := L.v3; have t4 := L.t4; have a4 := L.a4; have z4 := L.z4; have v4 := L.v4; have t22 := L.t22; have a22 := L.a22; have z22 := L.z22; have v22 := L.v22; have aE := L.aE; have zE := L.zE
  have FG := L.f24
  have same : (∀ j, j < d.size → keeps d j = true) → compactUpTo d d.size = d.toList := fun hall => by rw [compactUpTo_all d _ hall, range_map_get]
  have HS : Aside (∀ W, RowAt enc k 29 g cap d w W → (∀ j, j < d.size → keeps d j = true) → (compactUpTo d d.size).length = d.size ∧ ∃ dk, RowAt enc k 29 g cap dk w W ∧ (compactUpTo d d.size).length ≤ dk.size ∧ dk.size ≤ d.size ∧ dk.toList.take (compactUpTo d d.size).length = compactUpTo d d.size) := by
    intro W hR hall
    rw [same hall]
    exact ⟨by simp, d, hR, by simp, Nat.le_refl _, by rw [Array.length_toList, List.take_of_length_le (by simp)]⟩
  have HR : Aside (RowAt enc k 29 g cap d w w) := R
  have HEE : Aside (EqE P enc k zv zc) := HE
  clear same R L
  by_cases h2 : d.size < 2
  · go_enter FG, Tryd.ntmps24
    go_wp2
    go_ret
    obtain ⟨e1, e2⟩ := HS.out w HR.out (fun j hj => keeps_lt_one d j (by omega))
    exact ⟨by rw [e1]; rfl, e2⟩
  · go_enter FG, Tryd.ntmps24
    go_wp2
    go_loopg [3] d.size (fun gx s3 wr => ∃ kk : Nat, 1 ≤ kk ∧ kk ≤ d.size ∧ d.size - kk ≤ gx ∧ s3 = .int .i64 kk ∧ Aside (RowAt enc k 29 g cap d w wr) ∧ Aside (∀ j, j < kk → keeps d j = true))
    case atStart => exact ⟨1, Nat.le_refl _, by omega, by omega, rfl, HR, keeps_lt_one d⟩
    case round =>
      clear HR
      obtain ⟨kk, hk1, hk, hg, rfl, HR, HA⟩ := hrel
      by_cases hlt : kk < d.size
      · obtain ⟨kp, rfl⟩ : ∃ kp, kk = kp + 1 := ⟨kk - 1, by omega⟩
        have l1 := HR.out.drew.ld HE.hk P (kp + 1) hlt
        have l0 := HR.out.drew.ld HE.hk P kp (by omega)
        obtain ⟨x, hx⟩ : ∃ x, x = d[kp + 1]! := ⟨_, rfl⟩
        obtain ⟨y, hy⟩ : ∃ y, y = d[kp]! := ⟨_, rfl⟩
        rw [← hx] at l1
        rw [← hy] at l0
        have B : Aside (d[kp + 1]! = x ∧ d[kp]! = y) := ⟨hx.symm, hy.symm⟩
        clear hx hy
        have eqE := fun dd => HE.eql dd x y wr.drew
        have gdE := fun a b => HE.gd .eql a b x y wr.drew
        have ea : ((kp : Int) + 1).toNat = kp + 1 := by omega
        have pa : (0 : Int) ≤ (kp : Int) + 1 := by omega
        have ba : (kp : Int) + 1 < (d.size : Int) := by omega
        have bb : (kp : Int) < (d.size : Int) := by omega
        have ra : IntKind.i64.wrap ((kp : Int) + 1) = (kp : Int) + 1 := by rw [IntKind.wrap_i64]; omega
        have rb : IntKind.i64.wrap (kp : Int) = (kp : Int) := by rw [IntKind.wrap_i64]; omega
        by_cases hdup : x = y
        · subst hdup
          simp only [decide_true] at eqE
          have HR1 : Aside (RowAt enc k 29 g cap d w wr.drew) := HR.out.drew
          clear HE HR
          go_wp2_with fail
          go_big_region_o
          generalize wr.drew = w1 at HR1 ⊢
          clear l1 l0 eqE gdE ea pa ra rb ba bb
          go_wp2
          go_loopg [3, 5] d.size (fun gx s3 s5 wr => ∃ (kk k2 : Nat) (dk : Array α), s3 = .int .i64 kk ∧ s5 = .int .i64 k2 ∧ 1 ≤ k2 ∧ (kp + 1) + k2 ≤ d.size ∧ d.size - (kp + 1 + k2) ≤ gx ∧ Aside (RowAt enc k 29 g cap dk w wr) ∧ Aside (CompInv d (kp + 1 + k2) kk dk))
          case atStart => exact ⟨kp + 1, 1, d, by go_num, rfl, Nat.le_refl _, by omega, by omega, HR1, CompInv.start HA.out (keeps_neg (by omega) (by rw [B.out.1]; exact B.out.2.symm))⟩
          case round =>
            clear HR1
            obtain ⟨kk, k2, dk, rfl, rfl, h1, hle, hg2, HR2, I2⟩ := hrel
            have hkk := I2.out.lt
            have hds := I2.out.size
            by_cases hlt2 : kp + 1 + k2 < d.size
            · obtain ⟨kq, rfl⟩ : ∃ kq, k2 = kq + 1 := ⟨k2 - 1, by omega⟩
              have l1 := HR2.out.drew.ld HEE.out.hk P (kp + 1 + (kq + 1)) (by omega)
              have l0 := HR2.out.drew.ld HEE.out.hk P (kp + 1 + kq) (by omega)
              rw [I2.out.high (kp + 1 + (kq + 1)) (by omega), Nat.add_mul (kp + 1)] at l1
              rw [I2.out.high (kp + 1 + kq) (by omega), Nat.add_mul (kp + 1)] at l0
              obtain ⟨u, hu⟩ : ∃ x, x = d[kp + 1 + (kq + 1)]! := ⟨_, rfl⟩
              obtain ⟨v, hv⟩ : ∃ y, y = d[kp + 1 + kq]! := ⟨_, rfl⟩
              rw [← hu] at l1
              rw [← hv] at l0
              have C : Aside (d[kp + 1 + (kq + 1)]! = u ∧ d[kp + 1 + kq]! = v) := ⟨hu.symm, hv.symm⟩
              clear hu hv
              have eqE := fun dd => HEE.out.eql dd u v wr.drew
              have gdE := fun a b => HEE.out.gd .neq a b u v wr.drew
              have ea : ((kq : Int) + 1).toNat = kq + 1 := by omega
              have pa : (0 : Int) ≤ (kq : Int) + 1 := by omega
              have ba : (kq : Int) + 1 < (d.size : Int) - ((kp : Int) + 1) := by omega
              have bb : (kq : Int) < (d.size : Int) - ((kp : Int) + 1) := by omega
              have ra : IntKind.i64.wrap ((kq : Int) + 1) = (kq : Int) + 1 := by rw [IntKind.wrap_i64]; omega
              have rb : IntKind.i64.wrap (kq : Int) = (kq : Int) := by rw [IntKind.wrap_i64]; omega
              by_cases huv : u = v
              · subst huv
                simp only [decide_true] at eqE
                have HR3 : Aside (RowAt enc k 29 g cap dk w wr.drew) := HR2.out.drew
                clear HR2
                go_wp2_with fail
                go_big_region_o
                generalize wr.drew = w3 at HR3 ⊢
                clear l1 l0 eqE gdE ea pa ra rb ba bb
                go_wp2
                go_roundg (d.size - (kp + 1 + (kq + 1 + 1)))
                case measure => omega
                case rel => exact ⟨kk, kq + 1 + 1, dk, rfl, by go_num, by omega, by omega, Nat.le_refl _, HR3, I2.out.skip (keeps_neg (by omega) (by rw [C.out.1]; exact C.out.2.symm))⟩
              · simp only [decide_eq_false huv] at eqE
                have st := HR2.out.drew.st HEE.out.hk HEE.out.h1 P kk (by omega) u
                have HR3 : Aside (RowAt enc k 29 g cap (dk.setIfInBounds kk u) w (wr.drew.setCells g (kk * k) (enc u))) := HR2.out.drew.set HEE.out.hk kk (by omega) u
                have hlu : (enc u).length = k := HEE.out.hk u
                have bk : (kk : Int) < (d.size : Int) := by omega
                have IK : Aside (CompInv d (kp + 1 + (kq + 1) + 1) (kk + 1) (dk.setIfInBounds kk u)) := by
                  have := I2.out.keep hlt2 (keeps_pos (by rw [C.out.1]; intro e; exact huv (e.trans C.out.2)))
                  rwa [C.out.1] at this
                clear HR2
                go_wp2_with fail
                go_big_region_o
                go_wp2
                go_roundg (d.size - (kp + 1 + (kq + 1 + 1)))
                case measure => omega
                case rel => exact ⟨kk + 1, kq + 1 + 1, _, by go_num, by go_num, by omega, by omega, Nat.le_refl _, HR3, IK⟩
            · have hend : kp + 1 + k2 = d.size := by omega
              have hbnd : (d.size - kk) * k + kk * k = d.size * k := by rw [← Nat.add_mul]; congr 1; omega
              have hHk : ∀ j, j < (d.size - kk) * k → (wr.cell? ⟨g, kk * k + j, none⟩).isSome = true ∧ wr.frozen? ⟨g, kk * k + j, none⟩ = false := fun j hj => by
                have h3 := HR2.out.holds (kk * k + j) (by rw [size_flatK, hds]; omega)
                rw [Nat.zero_add] at h3
                exact ⟨isSome_of h3.1, h3.2⟩
              have HE := HEE.out
              have hcl : ∀ ty, ∃ vs : List Value, (Builtin.clear_ #[22] ty #[.slice (some ⟨g, kk * k, none⟩) (d.size - kk) (cap - kk)]).run P wr = .ok (.tuple #[]) (wr.setCells g (kk * k) vs) :=
                fun ty => run_clear_k wr 22 29 ty zv zc t22 HE.vE HE.zcE HE.zlE HE.k0 HE.zoE g (kk * k) (d.size - kk) (cap - kk) (by omega) (fun j hj => (hHk j hj).1) (fun j hj => (hHk j hj).2)
              obtain ⟨vs, hcl⟩ := hcl 0
              have HR3 : Aside (RowAt enc k 29 g cap (dk.take kk) w (wr.setCells g (kk * k) vs)) := HR2.out.clear HE.hk kk (by omega) vs
              have hI := I2.out
              rw [hend] at hI
              have HI : Aside (CompInv d d.size kk dk) := hI
              have hkc : ¬ cap = kk := by omega
              clear hI HR2 hHk HE
              go_wp2
              go_ret
              refine ⟨by rw [HI.out.len]; rfl, dk.take kk, HR3.out, ?_, ?_, ?_⟩
              · rw [HI.out.len]; simp; omega
              · simp; omega
              · rw [HI.out.len]
                apply List.ext_getElem?
                intro t
                rw [List.getElem?_take]
                split
                · rename_i ht
                  have h5 : t < dk.size := by omega
                  rw [HI.out.low t ht, getElem!_pos dk t h5, show (dk.take kk).toList = dk.toList.take kk by simp, List.getElem?_take, if_pos ht, Array.getElem?_toList, Array.getElem?_eq_getElem h5]
                · rename_i ht
                  rw [List.getElem?_eq_none (by rw [HI.out.len]; omega)]
        · simp only [decide_eq_false hdup] at eqE
          have HR1 : Aside (RowAt enc k 29 g cap d w wr.drew) := HR.out.drew
          clear HE HR
          go_wp2_with fail
          go_big_region_o
          generalize wr.drew = w1 at HR1 ⊢
          clear l1 l0 eqE gdE ea pa ra rb ba bb
          go_wp2
          go_roundg (d.size - (kp + 1 + 1))
          case measure => omega
          case rel =>
            refine ⟨kp + 1 + 1, by omega, by omega, Nat.le_refl _, by go_num, HR1, fun j hj => ?_⟩
            by_cases e : j = kp + 1
            · subst e
              exact keeps_pos (by rw [B.out.1]; intro e; exact hdup (e.trans B.out.2))
            · exact HA.out j (by omega)
      · obtain rfl : kk = d.size := by omega
        go_wp2
        go_ret
        obtain ⟨e1, e2⟩ := HS.out wr HR.out HA.out
        exact ⟨by rw [e1]; rfl, e2⟩
end Go.Proofs.YtioekkdodggakaaDoor.ST
namespace Go.Proofs.YtioekkdodggakaaDoor.G
open Go.RowKit Go.Lib Go.Proofs.YtioekkdodggakaaDoorW.PrintWords Go.Proofs.YtioekkdodggakaaDoorW.PrintLast Go.Proofs.YtioekkdodggakaaDoorW.PrintMore
set_option linter.unusedVariables false
theorem coL : ST.CoL Tryd.prog 5 where
  mixed := by kernel_rfl
  f24 := Tryd.func24
  t0 := Tryd.underlying0
  a0 := Tryd.isAgg0
  z0 := Tryd.sizeOf0
  v0 := Tryd.zeroValue0
  t3 := Tryd.underlying3
  a3 := Tryd.isAgg3
  z3 := Tryd.sizeOf3
  v3 := Tryd.zeroValue3
  t4 := Tryd.underlying4
  a4 := Tryd.isAgg4
  z4 := Tryd.sizeOf4
  v4 := Tryd.zeroValue4
  t22 := Tryd.underlying22
  a22 := Tryd.isAgg22
  z22 := Tryd.sizeOf22
  v22 := Tryd.zeroValue22
  aE := Tryd.isAgg29
  zE := Tryd.sizeOf29
theorem eqE29 : ST.EqE Tryd.prog encG 5 (.agg #[.int .i64 0, .int .i64 0, .int .i64 0, .int .i64 0, .string ⟨#[]⟩]) (encG z29) where
  hk := encG_len
  h1 := encG_one
  k0 := by omega
  eql := fun d x y w => by
    have h := eqA29 d w x.f0 y.f0 x.f1 y.f1 x.f2 y.f2 x.f3 y.f3 x.f4 y.f4
    rw [← eqG_dec]
    exact h
  gd := fun op a b x y w => GuardAt.agg (fun x : S29 => (encG x).toArray) (by kernel_rfl) op a b x y w
  vE := Tryd.zeroValue29
  zcE := rfl
  zlE := rfl
  zoE := encG_one z29
/-- The list without its neighbours' repetitions. -/
def compactG (l : List S29) : List S29 := compact l
theorem Compact_none (A : Option Addr) (c : Nat) (w : World) : Calls Tryd.prog 24 #[.slice A 0 c] w fun e w' => e = .returned (.slice A 0 c) ∧ w' = w := by
  go_enter Tryd.func24, Tryd.ntmps24
  go_wp2
  go_ret
  exact ⟨rfl, rfl⟩
theorem Compact_any (base : Nat) (w : World) (v : Value) (l : List S29) (ho : RowG w base v l) (hl : l.length < 4611686018427387904) :
    Calls Tryd.prog 24 #[v] w fun e w' => ∃ v', e = .returned v' ∧ RowG w' base v' (compactG l) ∧ w.grownBy w' v.ownBlock ∧ v'.ownBlock = v.ownBlock := by
  have ho' := ho
  rcases ho'.2 with ⟨rfl, h0⟩ | ⟨g, cap, cur, rfl, hg, hb, hncap, hcapm, hcs, ht⟩
  · obtain rfl : l = [] := List.eq_nil_of_length_eq_zero h0
    refine (Compact_none none 0 w).mono ?_
    rintro e w' ⟨rfl, rfl⟩
    exact ⟨_, rfl, ho, ⟨rfl, rfl, rfl, Nat.le_refl _, fun _ _ _ => rfl⟩, rfl⟩
  · obtain ⟨R, _, h1, h2, h3⟩ := ST.RowAt.start encG_len ho
    have hm : cap ≤ 9223372036854775807 := by unfold maxLen at hcapm; omega
    have hc := ST.compactK 5 coL encG _ _ eqE29 g cap l.toArray w R (by simpa using hl) (by simpa using h1) hm
    simp only [List.size_toArray] at hc
    refine hc.mono ?_
    rintro e w' ⟨rfl, dk, hR, hd1, hd2, hd3⟩
    have e1 : compactG l = compactUpTo l.toArray l.length := rfl
    have h4 := ST.RowAt.own (base := base) (m := (compactUpTo l.toArray l.length).length) encG_len hR hd1 (by omega) hcapm hg
    rw [hd3] at h4
    exact ⟨_, rfl, by unfold RowG; rw [e1]; exact h4, hR.grow, rfl⟩
end Go.Proofs.YtioekkdodggakaaDoor.G
