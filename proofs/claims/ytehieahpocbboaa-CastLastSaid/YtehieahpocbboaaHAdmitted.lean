/-
  cast.Admitted.
-/
import Derived.Test.YtehieahpocbboaaHM
import Derived.Test.YtehieahpocbboaaHC
import Derived.Laws.Cover1
namespace Go.Proofs.Ytehieahpocbboaa.G
open Go.RowKit Go.Proofs.YtehieahpocbboaaW.PrintWords Go.Proofs.YtehieahpocbboaaW.PrintLast Go.Proofs.YtehieahpocbboaaW.PrintMore
set_option linter.unusedVariables false
set_option linter.unusedSimpArgs false

theorem take_rd_T29 (r : List S29) (k : Nat) (h : k < r.length) : r.take (k + 1) = r.take k ++ [rd_T29 r k] ∧ rd_T29 r k ∈ r := by
  have e : rd_T29 r k = r[k] := by
    unfold rd_T29
    rw [Int.toNat_natCast, List.getD_eq_getElem?_getD, List.getElem?_eq_getElem h]; rfl
  rw [e]
  exact ⟨List.take_succ_eq_append_getElem h, List.getElem_mem _⟩
theorem at_R29 {w0 w : World} {A : Option Addr} {n : Nat} {xs : List S29} (h : ReadsRow (k29.K w0) 5 w A n xs) (i : Int) (h0 : 0 ≤ i) (h1 : i < n) : ∃ ad A4 c4, A = some ad ∧ w.cell? (ad.add (i.toNat * 5)) = some (.int .i64 (rd_T29 xs i).f0) ∧ w.cell? ⟨(ad.add (i.toNat * 5)).block, (ad.add (i.toNat * 5)).off + 1, none⟩ = some (.int .i64 (rd_T29 xs i).f1) ∧ w.cell? ⟨(ad.add (i.toNat * 5)).block, (ad.add (i.toNat * 5)).off + 2, none⟩ = some (.int .i64 (rd_T29 xs i).f2.f0) ∧ w.cell? ⟨(ad.add (i.toNat * 5)).block, (ad.add (i.toNat * 5)).off + 3, none⟩ = some (.int .i64 (rd_T29 xs i).f2.f1) ∧ w.cell? ⟨(ad.add (i.toNat * 5)).block, (ad.add (i.toNat * 5)).off + 4, none⟩ = some (.slice A4 (rd_T29 xs i).f2.f2.length c4) ∧ (rd_T29 xs i).f2.f2.length ≤ c4 ∧ (Kd.slice 54 k54).C w0 A4 (rd_T29 xs i).f2.f2.length (rd_T29 xs i).f2.f2 := by
  obtain ⟨ad, c, e, _, hK, hc0⟩ := ReadsRow.get_ h z29 i h0 h1
  have hc : ∀ j u, c[j]? = some u → w.cell? (ad.add (i.toNat * 5 + j)) = some u := hc0
  obtain ⟨A4, c4, rfl, hl, hC⟩ := k29_open hK
  exact ⟨ad, A4, c4, e, hc 0 _ rfl, by rw [← add_field _ _ 1 (by omega)]; exact hc 1 _ rfl, by rw [← add_field _ _ 2 (by omega)]; exact hc 2 _ rfl, by rw [← add_field _ _ 3 (by omega)]; exact hc 3 _ rfl, by rw [← add_field _ _ 4 (by omega)]; exact hc 4 _ rfl, hl, hC⟩
theorem field29 (x y z u : Int) (A : Option Addr) (n c : Nat) (w : World) : (Instr.field 29 (.agg #[.int .i64 x, .int .i64 y, .int .i64 z, .int .i64 u, .slice A n c]) 2).run Try.prog w = .ok (.agg #[.int .i64 z, .int .i64 u, .slice A n c]) w := by kernel_rfl
set_option maxHeartbeats 8000000 in
set_option maxRecDepth 100000 in
theorem Admitted_any (w0 : World) (A : Option Addr) (c : Nat) (l : List S29) (h : Int) (w : World) (hw0 : Below w0.heap.size w0 w) (hr : ReadsRow (k29.K w0) 5 w A l.length l) (hc : l.length ≤ c) (hl : l.length ≤ 1000) (hn : ∀ n ∈ l, IsN n) (hh : IsI h) :
    Calls Try.prog 11 #[.slice A l.length c, .int .i64 h] w fun e w' => ∃ v, e = .returned v ∧ OwnRow (k27.K w0) 27 3 w' w.heap.size v (admitted h l) ∧ Below w.heap.size w w' := by
  have HR := Aside0.mk hr
  have HN := Aside0.mk hn
  have HW0 := Aside0.mk hw0
  clear hr hn hw0
  have hmm := @run_makeMap Try.prog
  go_enter Try.func11, Try.ntmps11
  go_wp2
  clear hmm
  go_loopw [19] (fun i wr => ∃ k : Nat, k ≤ l.length ∧ i = .int .i64 k ∧ Aside0 (HoldsM w0 wr w.heap.size k (lastM h (l.take k))) ∧ Aside0 (Below w.heap.size w wr)) (fun i _ => l.length - (intOf i).toNat)
  case atStart => exact ⟨0, Nat.zero_le _, rfl, ⟨by rw [List.take_zero]; exact HoldsM.start w0 w⟩, ⟨(Below.refl _ _).alloc (Nat.le_refl _) _⟩⟩
  case round =>
    obtain ⟨k, hk, rfl, HM, HB⟩ := hrel
    by_cases hlt : k < l.length
    · obtain ⟨ad, A4, c4, rfl, g0, g1, g2, g3, g4, hl4, hC4⟩ := at_R29 HR.out k (by omega) (by omega)
      replace g0 := (HB.out.cell (World.block_lt_of_cell? w _ g0)).trans g0
      replace g1 := (HB.out.cell (World.block_lt_of_cell? w _ g1)).trans g1
      replace g2 := (HB.out.cell (World.block_lt_of_cell? w _ g2)).trans g2
      replace g3 := (HB.out.cell (World.block_lt_of_cell? w _ g3)).trans g3
      replace g4 := (HB.out.cell (World.block_lt_of_cell? w _ g4)).trans g4
      rw [Int.toNat_natCast] at g0 g1 g2 g3 g4
      have HT := Aside0.mk (take_rd_T29 l k hlt)
      obtain ⟨n, hn⟩ : ∃ n, n = rd_T29 l k := ⟨_, rfl⟩
      rw [← hn] at g0 g1 g2 g3 g4 hl4 hC4 HT
      clear hn
      have HC4 := Aside0.mk hC4
      have HN1 := Aside0.mk (HN.out n HT.out.2)
      clear hC4
      by_cases hk1 : h < n.f1
      · have hd1 : decide (h < n.f1) = true := decide_eq_true hk1
        have HA := Aside0.mk (adm_no (h := h) (n := n) (.inl hk1))
        clear hk1
        go_wp2
        go_roundw
        case rel => exact ⟨k + 1, by omega, by go_num, ⟨by rw [HT.out.1, lastM_skip _ _ _ HA.out]; exact (HM.out.alloc _).mono (by omega)⟩, ⟨HB.out.alloc HB.out.size _⟩⟩
        case measure => simp [intOf]; omega
      · by_cases hk2 : n.f0 < 0
        · have hd1 : decide (h < n.f1) = false := decide_eq_false hk1
          have hd2 : decide (n.f0 < 0) = true := decide_eq_true hk2
          have HA := Aside0.mk (adm_no (h := h) (n := n) (.inr (.inl hk2)))
          clear hk1 hk2
          go_wp2
          go_roundw
          case rel => exact ⟨k + 1, by omega, by go_num, ⟨by rw [HT.out.1, lastM_skip _ _ _ HA.out]; exact (HM.out.alloc _).mono (by omega)⟩, ⟨HB.out.alloc HB.out.size _⟩⟩
          case measure => simp [intOf]; omega
        · by_cases hk3 : 3 ≤ n.f0
          · have hd1 : decide (h < n.f1) = false := decide_eq_false hk1
            have hd2 : decide (n.f0 < 0) = false := decide_eq_false hk2
            have hd3 : decide (3 ≤ n.f0) = true := decide_eq_true hk3
            have HA := Aside0.mk (adm_no (h := h) (n := n) (.inr (.inr hk3)))
            clear hk1 hk2 hk3
            go_wp2
            go_roundw
            case rel => exact ⟨k + 1, by omega, by go_num, ⟨by rw [HT.out.1, lastM_skip _ _ _ HA.out]; exact (HM.out.alloc _).mono (by omega)⟩, ⟨HB.out.alloc HB.out.size _⟩⟩
            case measure => simp [intOf]; omega
          · have hd1 : decide (h < n.f1) = false := decide_eq_false hk1
            have hd2 : decide (n.f0 < 0) = false := decide_eq_false hk2
            have hd3 : decide (3 ≤ n.f0) = false := decide_eq_false hk3
            have HA := Aside0.mk (adm_yes (h := h) (n := n) (by omega) (by omega) (by omega))
            clear hk1 hk2 hk3
            have HM1 : Aside0 (∀ o, HoldsM w0 (wr.alloc o) w.heap.size k (lastM h (l.take k))) := ⟨fun o => HM.out.alloc o⟩
            cases hM : lastM h (l.take k) n.f2.f0 with
            | none =>
              have HM0 := Aside0.mk hM
              clear hM
              go_wp2_with (at_lookup; refine wp_look_none rfl _ _ rfl rfl (HM1.out _) _ rfl HN1.out.2.2.1 HM0.out ?_)
              go_quiet (fail)
              rename_i nq
              go_wp2_with (at_mapUpdate; refine wp_store_news rfl _ _ _ rfl rfl (((HM1.out _).alloc _).drewN _) (by omega) n A4 c4 rfl HN1.out.2.2.1 rfl hl4 HC4.out ?_)
              intro w2 hM2 hg2
              have HM2 := Aside0.mk hM2
              have HB2 : Aside0 (Below w.heap.size w w2) := ⟨(pw_below_drewN ((HB.out.alloc HB.out.size _).alloc (by have := HB.out.size; simp; omega) _) nq).grown hg2 (by have := HB.out.size; simp; omega) (fun j hj => by injection hj with hj; omega)⟩
              clear hM2 hg2
              go_wp2
              go_roundw
              case rel => exact ⟨k + 1, by omega, by go_num, ⟨by rw [HT.out.1, lastM_new _ _ _ HA.out HM0.out]; exact HM2.out⟩, HB2⟩
              case measure => simp [intOf]; omega
            | some old =>
              have HM0 := Aside0.mk hM
              clear hM
              go_wp2_with (at_lookup; refine wp_look_some rfl _ _ rfl rfl (HM1.out _) _ rfl HN1.out.2.2.1 old HM0.out ?_; intro A5 c5 hl5 hC5)
              have HC5 := Aside0.mk hC5
              have HNo : Aside0 (IsN old) := ⟨HN.out old (List.mem_of_mem_take (lastM_from _ _ _ _ HM0.out).1)⟩
              clear hC5
              obtain ⟨W1, hW1⟩ : ∃ W1 : World, W1 = (wr.alloc (.cells #[.int .i64 n.f0, .int .i64 n.f1, .int .i64 n.f2.f0, .int .i64 n.f2.f1, .slice A4 n.f2.f2.length c4] 29)).alloc (.cells #[.int .i64 old.f0, .int .i64 old.f1, .int .i64 old.f2.f0, .int .i64 old.f2.f1, .slice A5 old.f2.f2.length c5] 29) := ⟨_, rfl⟩
              have hT0 : Below W1.heap.size W1 W1 ∧ W1.cell? ⟨wr.heap.size, 0, none⟩ = some (.int .i64 n.f0) ∧ W1.cell? ⟨wr.heap.size, 1, none⟩ = some (.int .i64 n.f1) ∧ W1.cell? ⟨wr.heap.size, 2, none⟩ = some (.int .i64 n.f2.f0) ∧ W1.cell? ⟨wr.heap.size, 3, none⟩ = some (.int .i64 n.f2.f1) ∧ W1.cell? ⟨wr.heap.size, 4, none⟩ = some (.slice A4 n.f2.f2.length c4) ∧ W1.cell? ⟨wr.heap.size + 1, 0, none⟩ = some (.int .i64 old.f0) ∧ W1.cell? ⟨wr.heap.size + 1, 1, none⟩ = some (.int .i64 old.f1) ∧ W1.cell? ⟨wr.heap.size + 1, 2, none⟩ = some (.int .i64 old.f2.f0) ∧ W1.cell? ⟨wr.heap.size + 1, 3, none⟩ = some (.int .i64 old.f2.f1) ∧ W1.cell? ⟨wr.heap.size + 1, 4, none⟩ = some (.slice A5 old.f2.f2.length c5) := by
                rw [hW1]
                refine ⟨Below.refl _ _, ?_, ?_, ?_, ?_, ?_, ?_, ?_, ?_, ?_, ?_⟩ <;> simp [go_sem]
              have HB1 : Aside0 (Below w.heap.size w W1) := ⟨by rw [hW1]; exact (HB.out.alloc HB.out.size _).alloc (by have := HB.out.size; simp; omega) _⟩
              have HM3 : Aside0 (HoldsM w0 W1 w.heap.size k (lastM h (l.take k))) := ⟨by rw [hW1]; exact (HM1.out _).alloc _⟩
              rw [← hW1]
              have HT0 := Aside0.mk hT0
              clear hW1 hT0 HM1 HM HB g0 g1 g2 g3 g4
              go_region_held3 (fun w' => Below W1.heap.size W1 w' ∧ w'.cell? ⟨wr.heap.size, 0, none⟩ = some (.int .i64 n.f0) ∧ w'.cell? ⟨wr.heap.size, 1, none⟩ = some (.int .i64 n.f1) ∧ w'.cell? ⟨wr.heap.size, 2, none⟩ = some (.int .i64 n.f2.f0) ∧ w'.cell? ⟨wr.heap.size, 3, none⟩ = some (.int .i64 n.f2.f1) ∧ w'.cell? ⟨wr.heap.size, 4, none⟩ = some (.slice A4 n.f2.f2.length c4) ∧ w'.cell? ⟨wr.heap.size + 1, 0, none⟩ = some (.int .i64 old.f0) ∧ w'.cell? ⟨wr.heap.size + 1, 1, none⟩ = some (.int .i64 old.f1) ∧ w'.cell? ⟨wr.heap.size + 1, 2, none⟩ = some (.int .i64 old.f2.f0) ∧ w'.cell? ⟨wr.heap.size + 1, 3, none⟩ = some (.int .i64 old.f2.f1) ∧ w'.cell? ⟨wr.heap.size + 1, 4, none⟩ = some (.slice A5 old.f2.f2.length c5)) (first | exact twoStep (below_drew1 (Below.refl _ _)) HT0.out | exact twoStep hb (by assumption))
                (first | (go_at_call 14; (with_reducible refine (BytesN old A5 c5 w0 _ (below_then HW0.out HW0.out.size (twoBelow HB1.out (by assumption))) hl5 HC5.out HNo.out).mono ?_); rintro e w' ⟨rfl, hb⟩) | (go_at_call 14; (with_reducible refine (BytesN n A4 c4 w0 _ (below_then HW0.out HW0.out.size (twoBelow HB1.out (by assumption))) hl4 HC4.out HN1.out).mono ?_); rintro e w' ⟨rfl, hb⟩))
              all_goals
                rename_i hHeld
                obtain ⟨hbS, q0, q1, q2, q3, q4, _, _, _, _, _⟩ := hHeld
                have HM4 := Aside0.mk (HM3.out.below hbS)
                have HB4 := Aside0.mk (HB1.out.trans (hbS.mono HB1.out.size))
                clear hbS
                cases hb4 : leB (bytesN old) (bytesN n) with
                | true =>
                  have HL := Aside0.mk hb4
                  have hle : (Op.bytesLess (bytesN old) (bytesN n) || bytesN old == bytesN n) = true := hb4
                  clear hb4
                  rw [hle]
                  go_wp2_with (at_mapUpdate; refine wp_store_news rfl _ _ _ rfl rfl HM4.out (by omega) n A4 c4 rfl HN1.out.2.2.1 rfl hl4 HC4.out ?_)
                  intro w2 hM2 hg2
                  have HM2 := Aside0.mk hM2
                  have HB2 : Aside0 (Below w.heap.size w w2) := ⟨HB4.out.grown hg2 HB4.out.size (fun j hj => by injection hj with hj; omega)⟩
                  clear hM2 hg2
                  go_wp2
                  go_roundw
                  case rel => exact ⟨k + 1, by omega, by go_num, ⟨by rw [HT.out.1, lastM_over _ _ _ _ HA.out HM0.out HL.out]; exact HM2.out⟩, HB2⟩
                  case measure => simp [intOf]; omega
                | false =>
                  have HL := Aside0.mk hb4
                  have hle : (Op.bytesLess (bytesN old) (bytesN n) || bytesN old == bytesN n) = false := hb4
                  clear hb4
                  rw [hle]
                  go_wp2
                  go_roundw
                  case rel => exact ⟨k + 1, by omega, by go_num, ⟨by rw [HT.out.1, lastM_keep _ _ _ _ HM0.out HL.out]; exact HM4.out.mono (by omega)⟩, HB4⟩
                  case measure => simp [intOf]; omega
    · obtain rfl : k = l.length := by omega
      rw [List.take_length] at HM
      obtain ⟨D, ho, hD⟩ := HM.out
      have HO := Aside0.mk ho
      have HD := Aside0.mk hD
      have HSZ := Aside0.mk ho.size_le
      have HMl := HM.out.lt
      clear ho hD HM
      go_wp2_with (at_range; refine wpList_range_own _ rfl _ 64 rfl 3 29 law3 Try.underlying64 RH _ _ D rfl HO.out ?_; intro wq hrg0 hg0 hs0)
      have HB0 := Aside0.mk (HB.out.grown hg0 HB.out.size (fun j hj => by cases hj))
      have HR0 := Aside0.mk hrg0
      have HRS := HB.out.size
      obtain ⟨rb, hrb⟩ : ∃ rb, rb = wr.heap.size := ⟨_, rfl⟩
      rw [← hrb] at HR0 ⊢
      clear hrg0 hg0 hs0 HO HB
      have hrw : w.heap.size < rb := by omega
      clear hrb HRS HMl
      go_frame
      go_loopw [10] (fun v wr => ∃ left cnt, ∃ L : List Int, Aside0 (wr.ranges Try.prog 3 RH w.heap.size rb l.length D left cnt) ∧ Aside0 (wr.ownsRow w.heap.size 3 1 v L.length (nums .i64 L)) ∧ Aside0 (Below w.heap.size w wr) ∧ Aside0 (L.Nodup ∧ L.length + cnt ≤ l.length) ∧ Aside0 (∀ x, x ∈ L ↔ left (.int .i64 x) = false ∧ ∃ n, lastM h l x = some n ∧ n.f0 ≠ 2)) (fun _ wr => wr.rangeLeft w.heap.size rb)
      case atStart =>
        refine ⟨_, _, [], HR0, ⟨World.ownsRow_nil _ _ _ _⟩, HB0, ⟨by simp, by simpa using HSZ.out⟩, ⟨fun x => ?_⟩⟩
        constructor
        · intro hx; simp at hx
        · rintro ⟨h1, n, h2, h3⟩
          have hI : IsI x := by
            obtain ⟨hm, hk, _⟩ := lastM_from h l x n h2
            rw [← hk]; exact (HN.out n hm).2.2.1
          have := HD.out x hI
          rw [h2] at this
          rw [this.1] at h1
          cases h1
      case round =>
        clear HR0 HB0 HSZ
        obtain ⟨left, cnt, L, HRg, HOw, HB, HL, HLm⟩ := hrel
        go_wp2_with (at_next; refine wp_next_news rfl _ rfl HD.out rfl HRg.out ?d1 ?d2)
        case d1 =>
          intro hleft
          have HLf := Aside0.mk hleft
          have HIDS : Aside0 (sortI L = idsA h l) := ⟨sortI_ids h l L HL.out.1 (fun x => by rw [HLm.out x, hleft]; simp)⟩
          have HMM : Aside0 (HoldsM w0 wr w.heap.size l.length (lastM h l)) := ⟨⟨D, HRg.out.owns, HD.out⟩⟩
          have hLl : L.length ≤ 1000 := by have := HL.out.2; omega
          obtain ⟨A6, c6, rfl⟩ := own_slice HOw.out
          have hLc := own_le HOw.out
          have hap := ranges_apart HRg.out HOw.out
          clear hleft HRg HLm
          go_wp2_with fail
          refine (sort_own HOw.out (by omega)).mono ?_
          rintro e w1 ⟨rfl, ho1, hg1⟩
          have HO1 := Aside0.mk ho1
          have HB1 := Aside0.mk (HB.out.grown hg1 HB.out.size (fun j hj => own_base HOw.out j hj))
          have HM1 : Aside0 (HoldsM w0 w1 w.heap.size l.length (lastM h l)) := ⟨by
            obtain ⟨D', ho', hD'⟩ := HMM.out
            exact ⟨D', ho'.kept hg1 (fun e => hap.2 e.symm), hD'⟩⟩
          clear ho1 hg1 HMM HB HOw hap
          rw [show (sortI L).map (Value.int .i64) = nums .i64 (sortI L) from rfl, HIDS.out] at HO1
          have hSL : Aside0 (L.length = (idsA h l).length) := ⟨by rw [← HIDS.out, sortI_length]⟩
          go_wp2
          obtain ⟨S, hS⟩ : ∃ S : Nat, S = min L.length 32 := ⟨_, rfl⟩
          have HSn := Aside0.mk (show S ≤ (idsA h l).length ∧ S ≤ 32 ∧ min (idsA h l).length 32 = S ∧ S ≤ L.length by rw [← hSL.out]; omega)
          rw [show (min (L.length : Int) 32).toNat = S by omega, show max (min (L.length : Int) 32) 0 = (S : Int) by omega]
          have hS32 : S ≤ 32 := HSn.out.2.1
          have hSl : S ≤ L.length := HSn.out.2.2.2
          clear hS
          go_loopw [13, 82] (fun v i wr => ∃ j : Nat, j ≤ S ∧ i = .int .i64 j ∧ Aside0 (OwnRow (k27.K w0) 27 3 wr w.heap.size v (castsOf (lastM h l) ((idsA h l).take j))) ∧ Aside0 (wr.ownsRow w.heap.size 3 1 (.slice A6 L.length c6) L.length (nums .i64 (idsA h l))) ∧ Aside0 (HoldsM w0 wr w.heap.size l.length (lastM h l)) ∧ Aside0 (Below w.heap.size w wr)) (fun _ i _ => S - (intOf i).toNat)
          case atStart => exact ⟨0, Nat.zero_le _, rfl, ⟨OwnRow.none_ _ _ _ _ _⟩, HO1, HM1, HB1⟩
          case round =>
            clear HO1 HM1 HB1
            obtain ⟨j, hj, rfl, HC, HO1, HM1, HB1⟩ := hrel
            by_cases hjt : j < S
            · have hjl : j < (idsA h l).length := by have := HSn.out.1; omega
              obtain ⟨e, hM, hsn⟩ := idsA_at h l j hjl
              obtain ⟨x, hx⟩ : ∃ x, x = (idsA h l)[j] := ⟨_, rfl⟩
              rw [← hx] at hM
              have hI : IsI x := by
                obtain ⟨hm, hk, _⟩ := lastM_from h l x e hM
                rw [← hk]; exact (HN.out e hm).2.2.1
              obtain ⟨g, rfl⟩ : ∃ g, A6 = some ⟨g, 0, none⟩ := by
                rcases HO1.out.2 with ⟨hv, h0⟩ | ⟨g, cap, cur, hv, _⟩
                · omega
                · injection hv with h1; exact ⟨g, h1⟩
              have hcell : wr.cell? ⟨g, j, none⟩ = some (.int .i64 x) := by
                rw [HO1.out.cellAt j (by omega), nums, List.getElem?_map, List.getElem?_eq_getElem hjl, ← hx]; rfl
              have HI := Aside0.mk hI
              have HM0 := Aside0.mk hM
              have HSN := Aside0.mk hsn
              clear hI hM hsn hx
              have hf29 := field29
              obtain ⟨inner, hoc, hrc⟩ := HC.out
              have HOC := Aside0.mk hoc
              have HRC := Aside0.mk hrc
              have hcl : (castsOf (lastM h l) ((idsA h l).take j)).length ≤ 32 := by
                have := castsOf_length (lastM h l) ((idsA h l).take j)
                rw [List.length_take] at this
                omega
              clear hoc hrc HC
              obtain ⟨i0, hi, hz0, hz1, hz2⟩ := info_parts info27
              go_wp2_with (first
                | (at_lookup; refine wp_look_plain rfl _ _ rfl rfl HM1.out x rfl HI.out e HM0.out ?_; intro A7 c7 hl7 hC7; have HC7 := Aside0.mk hC7; clear hC7)
                | (at_builtin; refine wpList_append_own _ rfl _ _ 30 rfl w.heap.size 27 i0 _ 3 40 Try.underlying30 hi hz0 hz1 hz2 rfl (by decide) _ _ _ rfl (HOC.out.alloc _) ⟨wr.heap.size, 0, none⟩ 1 1 [.int .i64 e.f2.f0, .int .i64 e.f2.f1, .slice A7 e.f2.f2.length c7] rfl rfl ?f1 ?f2 ?f3 ?f4 ?f5 ?_))
              case f1 =>
                intro jj u hjj
                match jj, hjj with
                | 0, hjj => simp at hjj; subst hjj; simp [Addr.add, go_sem]
                | 1, hjj => simp at hjj; subst hjj; simp [Addr.add, go_sem]
                | 2, hjj => simp at hjj; subst hjj; simp [Addr.add, go_sem]
              case f2 => intro u hu; simp at hu; rcases hu with rfl | rfl | rfl <;> rfl
              case f3 => unfold maxLen; omega
              case f4 => omega
              case f5 => have := HB1.out.size; simp; omega
              intro v' w2 hown' hgrow _
              have hne := own_types HO1.out HOC.out (by decide)
              have HO2 := Aside0.mk ((HO1.out.alloc _).kept hgrow (by
                cases hb : (Value.slice (some ⟨g, 0, none⟩) L.length c6).ownBlock with
                | none => exact .inl rfl
                | some kk => exact .inr (fun e => hne kk hb e.symm)))
              have HC2 : Aside0 (OwnRow (k27.K w0) 27 3 w2 w.heap.size v' (castsOf (lastM h l) ((idsA h l).take (j + 1)))) := ⟨by
                rw [HSN.out]
                refine ⟨_, ?_, HRC.out.snoc (c := [.int .i64 e.f2.f0, .int .i64 e.f2.f1, .slice A7 e.f2.f2.length c7]) (k27_mk w0 e.f2 hl7 HC7.out) rfl⟩
                rw [List.length_append]
                exact hown'⟩
              have HM2 : Aside0 (HoldsM w0 w2 w.heap.size l.length (lastM h l)) := ⟨by
                obtain ⟨D', ho', hD'⟩ := (HM1.out.alloc (.cells #[.int .i64 e.f2.f0, .int .i64 e.f2.f1, .slice A7 e.f2.f2.length c7] 27))
                refine ⟨D', ho'.kept hgrow ?_, hD'⟩
                intro hb
                obtain ⟨es, clock, hbk, _⟩ := ho'
                obtain ⟨cs, hcs⟩ := own_typed (HOC.out.alloc (.cells #[.int .i64 e.f2.f0, .int .i64 e.f2.f1, .slice A7 e.f2.f2.length c7] 27)) _ hb.symm
                rw [hbk] at hcs
                cases hcs⟩
              have HB2 := Aside0.mk ((HB1.out.alloc HB1.out.size _).grown hgrow (by have := HB1.out.size; simp; omega) (fun k hk => own_base HOC.out k hk))
              clear hown' hgrow hne HO1 HM1 HB1 HOC HRC hcell
              go_wp2
              go_roundw
              case rel => exact ⟨j + 1, by omega, by go_num, HC2, HO2, HM2, HB2⟩
              case measure => simp [intOf]; omega
            · obtain rfl : j = S := by omega
              have HRes : Aside0 (OwnRow (k27.K w0) 27 3 wr w.heap.size u13 (admitted h l)) := ⟨by
                have e : admitted h l = castsOf (lastM h l) ((idsA h l).take j) := by
                  unfold admitted
                  congr 1
                  have h3 := HSn.out.2.2.1
                  rcases Nat.le_total (idsA h l).length 32 with hle | hle
                  · rw [List.take_of_length_le hle, List.take_of_length_le (by omega)]
                  · rw [show j = 32 by omega]
                rw [e]; exact HC.out⟩
              go_wp2
              go_ret
              exact ⟨_, rfl, HRes.out, HB1.out⟩
        case d2 =>
          intro x e A5 c5 w1 cnt1 hI hM hlx hle hC hrg1 hlt1 hg1 hs1 hen
          have HI := Aside0.mk hI
          have HM0 := Aside0.mk hM
          have HLX := Aside0.mk hlx
          have HR1 := Aside0.mk hrg1
          have HLT := Aside0.mk hlt1
          have HB1 := Aside0.mk (HB.out.grown hg1 HB.out.size (fun j hj => by injection hj with hj; omega))
          have HRL := Aside0.mk HRg.out.left_eq
          have HOw1 := Aside0.mk (HOw.out.kept hg1 (.inr (ranges_apart HRg.out HOw.out).1))
          have hl1 := HL.out.2
          clear hI hM hlx hrg1 hlt1 hs1 hg1 HRg HB HOw
          have hHC := Aside0.mk hC
          clear hC
          by_cases hk2 : e.f0 = 2
          · have hd : (e.f0 == 2) = true := by simp [hk2]
            have hd2 : (e.f0 != 2) = false := by simp [hk2]
            have HK := Aside0.mk hk2
            clear hk2
            go_wp2
            go_roundw
            case rel => exact ⟨_, cnt1, L, ⟨HR1.out.alloc _⟩, ⟨HOw1.out.alloc _⟩, ⟨HB1.out.alloc HB1.out.size _⟩, ⟨HL.out.1, by have := HLT.out; omega⟩, ⟨live_skip HLm.out HM0.out HK.out⟩⟩
            case measure => rw [(HR1.out.alloc _).left_eq, HRL.out]; exact HLT.out
          · have hd : (e.f0 == 2) = false := by simp [hk2]
            have hd2 : (e.f0 != 2) = true := by simp [hk2]
            have HK := Aside0.mk hk2
            clear hk2
            obtain ⟨i0, hi, hz0, hz1, hz2⟩ := info_parts info3
            have HR2 : Aside0 (∀ o, w1.heap.size ≤ (w1.alloc o).heap.size) := ⟨fun o => by simp⟩
            go_wp2_with (at_builtin; refine wpList_append_own _ rfl _ _ 36 rfl w.heap.size 3 i0 (.int .i64 0) 1 8 Try.underlying36 hi hz0 hz1 hz2 rfl (by decide) _ _ _ rfl ((HOw1.out.alloc _).alloc _) ⟨w1.heap.size + 1, 0, none⟩ 1 1 [.int .i64 x] rfl rfl ?c1 ?c2 ?c3 ?c4 ?c5 ?_)
            case c1 =>
              intro jj u hjj
              match jj, hjj with
              | 0, hjj => simp at hjj; subst hjj; simp [Addr.add, go_sem]
            case c2 => intro u hu; simp at hu; subst hu; rfl
            case c3 => unfold maxLen; omega
            case c4 => omega
            case c5 => have := HB1.out.size; simp; omega
            intro v' w2 hown' hgrow _
            have hap := ranges_apart HR1.out HOw1.out
            have HO2 := Aside0.mk hown'
            have HR2' := Aside0.mk (((HR1.out.alloc _).alloc _).kept hgrow (fun e => hap.2 e.symm) (fun e => hap.1 e.symm))
            have HB2 := Aside0.mk (((HB1.out.alloc HB1.out.size _).alloc (by have := HB1.out.size; simp; omega) _).grown hgrow (by have := HB1.out.size; simp; omega) (fun k hk => own_base HOw1.out k hk))
            clear hown' hgrow hap
            go_wp2
            go_roundw
            case rel =>
              refine ⟨_, cnt1, L ++ [x], HR2', ⟨?_⟩, HB2, ⟨live_nodup HLm.out HLX.out HL.out.1, by have := HLT.out; simp; omega⟩, ⟨live_take HLm.out HM0.out HK.out⟩⟩
              rw [nums_append, List.length_append]
              exact HO2.out
            case measure => rw [HR2'.out.left_eq, HRL.out]; exact HLT.out
/-- Lists of news of moderate size. -/
def OkN (l : List S29) : Prop := l.length ≤ 1000 ∧ ∀ n ∈ l, IsN n
instance (l : List S29) : Decidable (OkN l) := by unfold OkN; infer_instance
def cast_Admitted.f (l : List S29) (h : Int) : Option (List S27) := if OkN l ∧ IsI h then some (admitted h l) else none
/-- cast.Admitted: a row that reads as the forecasts admitted. -/
theorem Admitted_calls (A0 : Option Addr) (c0 : Nat) (l0 : List S29) (a1 : Int) (w : World) (hr0 : Kd.C k29 w A0 l0.length l0) (hc0 : l0.length ≤ c0) (hn : OkN l0) (hh : IsI a1) :
    Calls Try.prog 11 #[.slice A0 l0.length c0, .int .i64 a1] w fun e w' => ∃ A c, e = .returned (.slice A (admitted a1 l0).length c) ∧ (admitted a1 l0).length ≤ c ∧ Kd.C k27 w' A (admitted a1 l0).length (admitted a1 l0) ∧ Below w.heap.size w w' := by
  refine (Admitted_any w A0 c0 l0 a1 w (Below.refl _ _) hr0 hc0 hn.1 hn.2 hh).mono ?_
  rintro e w' ⟨v, rfl, ho, hb⟩
  obtain ⟨A, c, rfl, hl, hr⟩ := ho.reads
  exact ⟨A, c, rfl, hl, hr.imp_ (Below.refl _ _) (fun _ _ hp => k27.K_below hb hp), hb⟩
end Go.Proofs.Ytehieahpocbboaa.G
