/-
  slices.Sort and slices.Compact at a row of numbers of the call's own, alone and as an element of a row of rows.
-/
import Derived.Test.YtibnodjlcaodeaaTHKit
import Derived.Test.YtibnodjlcaodeaaTShelf
import Derived.Lib.OwnBridge
namespace Go.Proofs.Ytibnodjlcaodeaa.G
open Go.Sort Go.RowKit Go.Proofs.YtibnodjlcaodeaaW.PrintWords Go.Proofs.YtibnodjlcaodeaaW.PrintLast Go.Proofs.YtibnodjlcaodeaaW.PrintMore
set_option linter.unusedVariables false
set_option linter.unusedSimpArgs false

def sortI (x : List Int) : List Int := x.mergeSort fun a b => decide (a ≤ b)
theorem sortI_length (x : List Int) : (sortI x).length = x.length := by simp [sortI]

theorem grown_put {α : Type} [Inhabited α] {enc : α → Value} {w : World} {g n : Nat} {os : Array Obj} (d : Array α) : w.grownBy (grow (putRow enc (Sort.ahead w n) g 0 d) os) (some g) := by
  refine ⟨rfl, rfl, rfl, by simp, fun k hk hne => ?_⟩
  rw [heap_grow_old _ _ (by simpa using hk)]
  have : g ≠ k := fun e => hne (by rw [e])
  simp [putRow, mapBlock, Sort.ahead, Array.getElem?_modify, this]

theorem grown_grow (w : World) (os : Array Obj) : w.grownBy (grow w os) none := ⟨rfl, rfl, rfl, by simp, fun k hk _ => heap_grow_old _ _ hk⟩

theorem own_pos {W : World} {base : Nat} {e : TypeId} {v : Value} {n : Nat} {xs : List Value} (ho : W.ownsRow base e 1 v n xs) (h : 0 < n) : v ≠ .slice none 0 0 := by
  rintro rfl
  rcases ho.2 with ⟨_, h1⟩ | ⟨_, _, _, h1, _⟩
  · omega
  · cases h1

/-- slices.Sort at a row of the call's own. -/
theorem sort_own {W : World} {base : Nat} {v : Value} {x : List Int} (ho : W.ownsRow base 3 1 v x.length (x.map (Value.int .i64))) (hl : x.length < 4611686018427387904) :
    Calls Try.prog 37 #[v] W fun e w' => e = .returned (.tuple #[]) ∧ w'.ownsRow base 3 1 v x.length ((sortI x).map (Value.int .i64)) ∧ W.grownBy w' v.ownBlock := by
  rcases Nat.eq_zero_or_pos x.length with h0 | h0
  · obtain rfl : x = [] := List.eq_nil_of_length_eq_zero h0
    obtain ⟨A, c, rfl⟩ := own_slice ho
    refine (Try.slices_Sort_int_none A c W).mono ?_
    rintro e w' ⟨rfl, rfl⟩
    exact ⟨rfl, by simpa [sortI] using ho, grown_of_below (Below.refl _ _) _⟩
  · obtain ⟨g, cap, rfl, hb, hlt, hn, hm, _, hH⟩ := Lib.holds_of_ownsRow ho (own_pos ho h0)
    refine (Try.slices_Sort_int g 0 cap x W hH hlt hl).mono ?_
    rintro e w' ⟨rfl, n, os, rfl⟩
    have h1 := Lib.ownsRow_putRow (q := n) (k := x.length) (ys := sortI x) ho (sortI_length x) (Nat.le_refl _)
    rw [List.take_of_length_le (by rw [sortI_length]; omega)] at h1
    exact ⟨rfl, h1.kept (grown_grow _ os) (.inr (by simp [Value.ownBlock])), grown_put _⟩

/-- slices.Compact at a row of the call's own. -/
theorem compact_own {W : World} {base : Nat} {v : Value} {x : List Int} (ho : W.ownsRow base 3 1 v x.length (x.map (Value.int .i64))) (hl : x.length ≤ 9223372036854775807)   :
    Calls Try.prog 38 #[v] W fun e w' => ∃ v', e = .returned v' ∧ w'.ownsRow base 3 1 v' (Lib.compact x).length ((Lib.compact x).map (Value.int .i64)) ∧ v'.ownBlock = v.ownBlock ∧ W.grownBy w' v.ownBlock := by
  have hle : (Lib.compact x).length ≤ x.length := Lib.compact_length_le x
  rcases Nat.eq_zero_or_pos x.length with h0 | h0
  · obtain rfl : x = [] := List.eq_nil_of_length_eq_zero h0
    obtain ⟨A, c, rfl⟩ := own_slice ho
    refine (Try.slices_Compact_int_empty A c W).mono ?_
    rintro e w' ⟨rfl, rfl⟩
    have e : Lib.compact ([] : List Int) = [] := rfl
    rw [e]
    exact ⟨_, rfl, ho, rfl, grown_of_below (Below.refl _ _) _⟩
  · obtain ⟨g, cap, rfl, hb, hlt, hn, hm, _, hH⟩ := Lib.holds_of_ownsRow ho (own_pos ho h0)
    refine (Try.slices_Compact_int g 0 cap x W hH hl hn).mono ?_
    rintro e w' ⟨rfl, n, rfl⟩
    have h1 := Lib.ownsRow_putRow (q := n) (k := (Lib.compact x).length) (ys := Lib.compact x ++ List.replicate (x.length - (Lib.compact x).length) 0) ho (by simp; omega) hle
    rw [List.take_left] at h1
    refine ⟨_, rfl, h1, rfl, ?_⟩
    have := grown_put (enc := Value.int .i64) (w := W) (g := g) (n := n) (os := #[]) (Lib.compact x ++ List.replicate (x.length - (Lib.compact x).length) 0).toArray
    rwa [grow_empty] at this


theorem encs_map (x : List Int) : encs (Value.int .i64) x = x.map (Value.int .i64) := rfl

/-- slices.Sort at element i of a row of rows. -/
theorem sort_elem {W w0 : World} {base g n cap : Nat} {ok : Nat → Prop} {xs : List (List Int)} (hS : Kd.S (Kd.slice 3 (Kd.int .i64)) 25 W base ok (.slice (some ⟨g, 0, none⟩) n cap) xs) (i : Int) (h0 : 0 ≤ i) (h1 : i < n)
    {v : Value} (hx : W.cell? ⟨g, i.toNat, none⟩ = some v) (hl : (rd_L4 xs i).length < 4611686018427387904) (HB : Below base w0 W) (hb : base ≤ W.heap.size) :
    Calls Try.prog 37 #[v] W fun e w' => e = .returned (.tuple #[]) ∧ Kd.S (Kd.slice 3 (Kd.int .i64)) 25 w' base ok (.slice (some ⟨g, 0, none⟩) n cap) (xs.set i.toNat (sortI (rd_L4 xs i))) ∧ w'.cell? ⟨g, i.toNat, none⟩ = some v ∧ Below base w0 w' := by
  obtain ⟨oki, c, hcl, hM, hcc, _, hoki, hH⟩ := Kd.S_elem hS [] i h0 h1
  obtain ⟨v', rfl, hR⟩ := hM
  have hx' := hcc 0 v' rfl
  rw [show i.toNat * (Kd.slice 3 (Kd.int .i64)).sz + 0 = i.toNat by show i.toNat * 1 + 0 = _; omega, hx] at hx'
  obtain rfl := Option.some.inj hx'
  have ho := Kd.own_of_R hR
  have hbase := own_base ho
  refine (sort_own ho hl).mono ?_
  rintro e w' ⟨rfl, ho', hg⟩
  have hR' : (Kd.int .i64).R 3 w' base oki v (sortI (rd_L4 xs i)) := Kd.R_of_own (by rw [sortI_length]; exact ho') hR.1
  refine ⟨rfl, Kd.H_back (Kd.H_grown hH hg hR.1) ⟨v, rfl, hR'⟩ (fun _ hk => hk), ?_, pw_below_grown HB _ hb hg hbase⟩
  rw [← hx]
  refine World.cell?_of_block (hg.block g ?_ (fun he => (hoki g (hR.1 g he.symm)).2 rfl))
  exact World.block_lt_of_cell? W _ hx

/-- slices.Compact at element i of a row of rows, and its result stored there. -/
theorem compact_elem {W w0 : World} {base g n cap : Nat} {ok : Nat → Prop} {xs : List (List Int)} (hS : Kd.S (Kd.slice 3 (Kd.int .i64)) 25 W base ok (.slice (some ⟨g, 0, none⟩) n cap) xs) (i : Int) (h0 : 0 ≤ i) (h1 : i < n)
    {v : Value} (hx : W.cell? ⟨g, i.toNat, none⟩ = some v) (hl : (rd_L4 xs i).length ≤ 9223372036854775807) (HB : Below base w0 W) (hb : base ≤ W.heap.size) :
    Calls Try.prog 38 #[v] W fun e w' => ∃ v', e = .returned v' ∧ w'.cell? ⟨g, i.toNat, none⟩ = some v ∧ w'.frozen? ⟨g, i.toNat, none⟩ = false ∧ (∃ A n c, v' = .slice A n c) ∧
      Kd.S (Kd.slice 3 (Kd.int .i64)) 25 (w'.setCell ⟨g, i.toNat, none⟩ v') base ok (.slice (some ⟨g, 0, none⟩) n cap) (xs.set i.toNat (Lib.compact (rd_L4 xs i))) ∧ Below base w0 (w'.setCell ⟨g, i.toNat, none⟩ v') := by
  have hgb : base ≤ g := Kd.S_base hS g rfl
  obtain ⟨oki, c, hcl, hM, hcc, hfr, hoki, hH⟩ := Kd.S_elem hS [] i h0 h1
  obtain ⟨v0, rfl, hR⟩ := hM
  have hx' := hcc 0 v0 rfl
  rw [show i.toNat * (Kd.slice 3 (Kd.int .i64)).sz + 0 = i.toNat by show i.toNat * 1 + 0 = _; omega, hx] at hx'
  obtain rfl := Option.some.inj hx'
  have ho := Kd.own_of_R hR
  have hbase := own_base ho
  have hglt := World.block_lt_of_cell? W _ hx
  refine (compact_own ho hl).mono ?_
  rintro e w' ⟨v', rfl, ho', hbk, hg⟩
  have hgw := hg.block g hglt (fun he => (hoki g (hR.1 g he.symm)).2 rfl)
  have hR' : (Kd.int .i64).R 3 w' base oki v' (Lib.compact (rd_L4 xs i)) := Kd.R_of_own ho' (fun k hk => hR.1 k (by rw [← hbk]; exact hk))
  obtain ⟨h2, h3⟩ := Kd.H_seg (Kd.H_grown hH hg hR.1) h0 h1 (seg := [v']) (j := 0) (by show 0 + 1 ≤ 1; omega) (fun q hq => by
    obtain ⟨A, c, rfl⟩ := own_slice ho'
    rw [List.mem_singleton.1 hq]; rfl)
  have es : w'.setCells g (i.toNat * (Kd.slice 3 (Kd.int .i64)).sz + 0) [v'] = w'.setCell ⟨g, i.toNat, none⟩ v' := by
    rw [show i.toNat * (Kd.slice 3 (Kd.int .i64)).sz + 0 = i.toNat by show i.toNat * 1 + 0 = _; omega]; rfl
  rw [es] at h2 h3
  have hR2 : (Kd.int .i64).R 3 (w'.setCell ⟨g, i.toNat, none⟩ v') base oki v' (Lib.compact (rd_L4 xs i)) := Kd.R_grown hR' h3 (fun k hk he => (hoki k hk).2 (Option.some.inj he))
  refine ⟨v', rfl, (World.cell?_of_block hgw).trans hx, (World.frozen?_of_block hgw).trans ?_, own_slice ho' |>.elim fun A h => h.elim fun c h => ⟨A, _, c, h⟩, Kd.H_back h2 ⟨v', rfl, hR2⟩ (fun _ hk => hk), ?_⟩
  · have := hfr 0
    rwa [show i.toNat * (Kd.slice 3 (Kd.int .i64)).sz + 0 = i.toNat by show i.toNat * 1 + 0 = _; omega] at this
  · exact pw_below_grown (pw_below_grown HB _ hb hg hbase) _ (by have := hg.size; omega) h3 (fun k hk => by injection hk with hk; omega)

end Go.Proofs.Ytibnodjlcaodeaa.G
