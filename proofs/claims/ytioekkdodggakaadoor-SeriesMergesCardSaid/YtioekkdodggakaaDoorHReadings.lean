import Derived.Test.YtioekkdodggakaaDoorHReadQ
import Derived.Test.YtioekkdodggakaaDoorK28
import Derived.Test.YtioekkdodggakaaDoorK29
/-
  series.Readings.
-/
namespace Go.Proofs.YtioekkdodggakaaDoor.G
open Go.RowKit Go.Proofs.YtioekkdodggakaaDoorW.PrintWords Go.Proofs.YtioekkdodggakaaDoorW.PrintLast Go.Proofs.YtioekkdodggakaaDoorW.PrintMore
open Go.ChangeMaps (setBlock)
set_option linter.unusedVariables false
set_option linter.unusedSimpArgs false
set_option maxHeartbeats 16000000 in
set_option maxRecDepth 100000 in
theorem Read_one (u0 : ByteArray) (A1 : Option Addr) (n1 c1 : Nat) (u2 : Int) (A3 : Option Addr) (n3 c3 : Nat) (A4 : Option Addr) (n4 c4 : Nat) (A5 : Option Addr) (n5 c5 : Nat) (A6 : Option Addr) (c6 : Nat) (gs : List S63) (A7 : Option Addr) (n7 c7 : Nat) (A8 : Option Addr) (n8 c8 : Nat) (A9 : Option Addr) (n9 c9 : Nat) (u10 : Int) (A : Option Addr) (c : Nat) (l : List S29) (fr un : Int) (w : World) (hgl : Gl w)
    (hgs : Kd.C k63 w A6 gs.length gs) (hgc : gs.length ≤ c6) (hr : ReadsRow (RE encG) 5 w A l.length l) (hl : l.length ≤ 100000) (hn : ∀ x ∈ l, IsI x.f0 ∧ IsI x.f1 ∧ IsI x.f2 ∧ IsI x.f3) (hng : ∀ x ∈ gs, IsI x.f3 ∧ IsI x.f4) :
    Calls Tryd.prog 14 #[.agg #[.string u0, .slice A1 n1 c1, .int .i64 u2, .slice A3 n3 c3, .slice A4 n4 c4, .slice A5 n5 c5, .slice A6 gs.length c6, .slice A7 n7 c7, .slice A8 n8 c8, .slice A9 n9 c9, .int .i64 u10], .slice A l.length c, .int .i64 fr, .int .i64 un] w fun e w' => ∃ v r, e = .returned v ∧ Row encR 49 4 w' w.heap.size v r ∧ r.Pairwise ltR ∧ (∀ R, R ∈ r ↔ IsRead gs (okB gs l fr un) l R) ∧ r.length ≤ l.length ∧ Below w.heap.size w w' := by
  have hu29 := Tryd.underlying29
  have hu41 := Tryd.underlying41
  have hu63 := Tryd.underlying63
  have hu76 := Tryd.underlying76
  have hu47 := Tryd.underlying47
  have HGL := Aside0.mk hgl
  have HGS := Aside0.mk hgs
  have HR := Aside0.mk hr
  have HN := Aside0.mk hn
  have HNG := Aside0.mk hng
  have hv := voids_any A c l (w.alloc (.cells #[.string u0, .slice A1 n1 c1, .int .i64 u2, .slice A3 n3 c3, .slice A4 n4 c4, .slice A5 n5 c5, .slice A6 gs.length c6, .slice A7 n7 c7, .slice A8 n8 c8, .slice A9 n9 c9, .int .i64 u10] 41)) (ReadsRow.imp_ hr ((Below.refl _ _).alloc (Nat.le_refl _) _) (fun _ _ h => h)) hl (fun x hx => ⟨(hn x hx).1, (hn x hx).2.1⟩)
  have HV := Aside0.mk hv
  clear hgl hgs hr hn hng hv
  go_enter Tryd.func14, Tryd.ntmps14
  go_wp2_with fail
  refine HV.out.mono ?_
  rintro e w1 ⟨bv, rfl, hM, hbv, hb⟩
  have HB1 : Aside0 (Below w.heap.size w w1) := ⟨((Below.refl w.heap.size w).alloc (Nat.le_refl _) _).trans (hb.mono (by simp))⟩
  have HBK1 : Aside0 (w1.heap[w.heap.size]? = some (.cells #[.string u0, .slice A1 n1 c1, .int .i64 u2, .slice A3 n3 c3, .slice A4 n4 c4, .slice A5 n5 c5, .slice A6 gs.length c6, .slice A7 n7 c7, .slice A8 n8 c8, .slice A9 n9 c9, .int .i64 u10] 41 (0, 0))) := ⟨(hb.block _ (by simp)).trans (al0 _ _)⟩
  have HMV := Aside0.mk hM
  have hbv1 : w.heap.size < bv := by simp at hbv; omega
  have hw1 : w.heap.size < w1.heap.size := by have := hb.size; simp at this; omega
  have hbvlt := HMV.out.lt
  clear hb hM hbv HV
  have hmm := @run_makeMap Tryd.prog
  go_wp2
  clear hmm
  go_loopw [28] (fun i wr => ∃ k M, k ≤ l.length ∧ i = .int .i64 (k : Nat) ∧ Aside0 (HoldsR 76 wr w1.heap.size k M) ∧ Aside0 (ValI gs (okB gs l fr un) (l.take k) w.heap.size wr M) ∧ Aside0 (HoldsR 3 wr bv l.length (voidM l)) ∧ Aside0 (Below w.heap.size w wr) ∧ Aside0 (wr.heap[w.heap.size]? = some (.cells #[.string u0, .slice A1 n1 c1, .int .i64 u2, .slice A3 n3 c3, .slice A4 n4 c4, .slice A5 n5 c5, .slice A6 gs.length c6, .slice A7 n7 c7, .slice A8 n8 c8, .slice A9 n9 c9, .int .i64 u10] 41 (0, 0))) ∧ Aside0 (w1.heap.size < wr.heap.size)) (fun i _ => l.length - (intOf i).toNat)
  case atStart => exact ⟨0, _, Nat.zero_le _, rfl, ⟨HoldsR.start 76 w1⟩, ⟨by rw [List.take_zero]; exact ValI.start _ _ _ _⟩, ⟨HMV.out.alloc _⟩, ⟨HB1.out.alloc HB1.out.size _⟩, ⟨blk_alloc HBK1.out _⟩, ⟨by simp⟩⟩
  case round =>
    clear HB1 HBK1 HMV
    obtain ⟨k, M, hk, rfl, HM, HVI, HMV, HB, HBK, HSZ⟩ := hrel
    by_cases hlt : k < l.length
    · obtain ⟨ad, rfl, g0, g1, g2, g3, g4⟩ := at_T29 (reads_k29 HR.out) k (by omega) (by omega)
      rw [Int.toNat_natCast] at g0 g1 g2 g3 g4
      replace g0 := (HB.out.cell (World.block_lt_of_cell? w _ g0)).trans g0
      replace g1 := (HB.out.cell (World.block_lt_of_cell? w _ g1)).trans g1
      replace g2 := (HB.out.cell (World.block_lt_of_cell? w _ g2)).trans g2
      replace g3 := (HB.out.cell (World.block_lt_of_cell? w _ g3)).trans g3
      replace g4 := (HB.out.cell (World.block_lt_of_cell? w _ g4)).trans g4
      have HT := Aside0.mk (take_rd_T29 l k hlt)
      obtain ⟨x, hx⟩ : ∃ x, x = rd_T29 l k := ⟨_, rfl⟩
      rw [← hx] at g0 g1 g2 g3 g4 HT
      clear hx
      have HX := Aside0.mk (HN.out x HT.out.2)
      have hRC := Right_calls u0 A1 n1 c1 u2 A3 n3 c3 A4 n4 c4 A5 n5 c5 A6 gs.length c6 A7 n7 c7 A8 n8 c8 A9 n9 c9 u10 x (wr.alloc (.cells #[.int .i64 x.f0, .int .i64 x.f1, .int .i64 x.f2, .int .i64 x.f3, .string x.f4] 29)) (HGL.out.below (HB.out.alloc HB.out.size _))
      have HRC := Aside0.mk hRC
      have HBL := Aside0.mk (blk_alloc HBK.out (.cells #[.int .i64 x.f0, .int .i64 x.f1, .int .i64 x.f2, .int .i64 x.f3, .string x.f4] 29))
      clear hRC
      go_wp2_with (refine wpList_load_row rfl 41 (.tmp 4) rfl w.heap.size rfl 41 _ _ _ HBL.out hu41 rfl (by kernel_rfl) ?_)
      refine HRC.out.mono ?_
      rintro e w2 ⟨rfl, hb2⟩
      have HBx : Aside0 (Below wr.heap.size wr w2) := ⟨((Below.refl wr.heap.size wr).alloc (Nat.le_refl _) _).trans (hb2.mono (by simp))⟩
      have hXB := (hb2.block wr.heap.size (by simp)).trans (al0 _ _)
      have x0 : w2.cell? ⟨wr.heap.size, 0, none⟩ = some (.int .i64 x.f0) := (blk_cell hXB 0).trans rfl
      have x2 : w2.cell? ⟨wr.heap.size, 2, none⟩ = some (.int .i64 x.f2) := (blk_cell hXB 2).trans rfl
      have x3 : w2.cell? ⟨wr.heap.size, 3, none⟩ = some (.int .i64 x.f3) := (blk_cell hXB 3).trans rfl
      have HM2 := Aside0.mk (HM.out.below HBx.out)
      have HVI2 := Aside0.mk (HVI.out.below HBx.out)
      have HMV2 := Aside0.mk (HMV.out.below HBx.out)
      have HB2 := Aside0.mk (HB.out.trans (HBx.out.mono HB.out.size))
      have HBK2 := Aside0.mk ((HBx.out.block _ (by have := HSZ.out; omega)).trans HBK.out)
      have q6 : w2.cell? ⟨w.heap.size, 6, none⟩ = some (.slice A6 gs.length c6) := (blk_cell HBK2.out 6).trans rfl
      have HSZ2 : Aside0 (w1.heap.size < w2.heap.size) := ⟨Nat.lt_of_lt_of_le HSZ.out HBx.out.size⟩
      have hxw2 : wr.heap.size < w2.heap.size := by have := hb2.size; simp at this; omega
      have HSK : Aside0 (∀ W, Below w2.heap.size w2 W → okB gs l fr un x = false → ∃ k' M', k' ≤ l.length ∧ Value.int .i64 ((k : Int) + 1) = .int .i64 (k' : Nat) ∧ Aside0 (HoldsR 76 W w1.heap.size k' M') ∧ Aside0 (ValI gs (okB gs l fr un) (l.take k') w.heap.size W M') ∧ Aside0 (HoldsR 3 W bv l.length (voidM l)) ∧ Aside0 (Below w.heap.size w W) ∧ Aside0 (W.heap[w.heap.size]? = some (.cells #[.string u0, .slice A1 n1 c1, .int .i64 u2, .slice A3 n3 c3, .slice A4 n4 c4, .slice A5 n5 c5, .slice A6 gs.length c6, .slice A7 n7 c7, .slice A8 n8 c8, .slice A9 n9 c9, .int .i64 u10] 41 (0, 0))) ∧ Aside0 (w1.heap.size < W.heap.size)) := ⟨by
        intro W hW hno
        refine ⟨k + 1, M, by omega, by go_num, ⟨(HM2.out.below hW).mono (by omega)⟩, ⟨by rw [HT.out.1]; exact (HVI2.out.below hW).skip hno⟩, ⟨HMV2.out.below hW⟩, ⟨HB2.out.trans (hW.mono HB2.out.size)⟩, ⟨(hW.block _ (by have := HSZ2.out; omega)).trans HBK2.out⟩, ⟨Nat.lt_of_lt_of_le HSZ2.out hW.size⟩⟩⟩
      have HXB := Aside0.mk hXB
      clear hb2 HRC HBL HBK HM HVI HMV HB hXB g0 g1 g2 g3 g4 HBx
      cases hrb : rightB gs.length x with
      | false =>
        have HOK : Aside0 (okB gs l fr un x = false) := ⟨by unfold okB; rw [hrb]; rfl⟩
        clear hrb x0 x2 x3 q6
        go_wp2
        go_roundw
        case rel => exact HSK.out _ (Below.refl _ _) HOK.out
        case measure => simp [intOf]; omega
      | true =>
        have HRB := Aside0.mk hrb
        clear hrb
        by_cases hvp : voidP l x.f0
        · have HOK : Aside0 (okB gs l fr un x = false) := ⟨by unfold okB; rw [decide_eq_true hvp]; simp⟩
          have hlk := (HMV2.out.look_some law3 Tryd.underlying69 (zero4 w2) (keyOf3 HX.out.1) (voidM_yes hvp)).2
          clear hvp x2 x3 q6
          go_wp2
          go_roundw
          case rel => exact HSK.out _ (Below.refl _ _) HOK.out
          case measure => simp [intOf]; omega
        · have HVP := Aside0.mk hvp
          have hlk := (HMV2.out.look_none law3 Tryd.underlying69 (zero4 w2) (keyOf3 HX.out.1) (voidM_no hvp)).2
          clear hvp
          obtain ⟨hx0, hx1⟩ := rightB_range HRB.out
          obtain ⟨ad6, e6, z0, z1, z2, z3, z4⟩ := at_T63 HGS.out x.f0 hx0 hx1
          subst e6
          replace z0 := (HB2.out.cell (World.block_lt_of_cell? w _ z0)).trans z0
          replace z1 := (HB2.out.cell (World.block_lt_of_cell? w _ z1)).trans z1
          replace z2 := (HB2.out.cell (World.block_lt_of_cell? w _ z2)).trans z2
          replace z3 := (HB2.out.cell (World.block_lt_of_cell? w _ z3)).trans z3
          replace z4 := (HB2.out.cell (World.block_lt_of_cell? w _ z4)).trans z4
          obtain ⟨gz, hgz⟩ : ∃ gz, gz = gaugeOf gs x := ⟨_, rfl⟩
          have hgz' : rd_T63 gs x.f0 = gz := hgz.symm
          rw [hgz'] at z0 z1 z2 z3 z4
          have HGZ : Aside0 (IsI gz.f3 ∧ IsI gz.f4) := ⟨by
            rw [hgz]
            refine HNG.out _ ?_
            unfold gaugeOf rd_T63
            rw [List.getD_eq_getElem?_getD, List.getElem?_eq_getElem (by omega)]
            exact List.getElem_mem _⟩
          obtain ⟨s1, hs1⟩ : ∃ s1, s1 = satI (x.f2 - gz.f4) := ⟨_, rfl⟩
          obtain ⟨s2, hs2⟩ : ∃ s2, s2 = satI (x.f2 + gz.f4) := ⟨_, rfl⟩
          obtain ⟨lo, hlo⟩ : ∃ lo, lo = hourI s1 := ⟨_, rfl⟩
          obtain ⟨hi, hhi⟩ : ∃ hi, hi = hourI s2 := ⟨_, rfl⟩
          have HS1 : Aside0 (∀ W, Calls Tryd.prog 28 #[.int .i64 x.f2, .int .i64 gz.f4] W fun e w' => e = .returned (.int .i64 s1) ∧ w' = W) := ⟨fun W => by rw [hs1]; exact sub_calls _ _ HX.out.2.2.1 HGZ.out.2 W⟩
          have HS2 : Aside0 (∀ W, Calls Tryd.prog 29 #[.int .i64 x.f2, .int .i64 gz.f4] W fun e w' => e = .returned (.int .i64 s2) ∧ w' = W) := ⟨fun W => by rw [hs2]; exact add_calls _ _ HX.out.2.2.1 HGZ.out.2 W⟩
          have HH1 : Aside0 (∀ W, Calls Tryd.prog 27 #[.int .i64 s1] W fun e w' => e = .returned (.int .i64 lo) ∧ w' = W) := ⟨fun W => by rw [hlo]; exact hour_calls _ (by rw [hs1]; exact satI_isI _) W⟩
          have HH2 : Aside0 (∀ W, Calls Tryd.prog 27 #[.int .i64 s2] W fun e w' => e = .returned (.int .i64 hi) ∧ w' = W) := ⟨fun W => by rw [hhi]; exact hour_calls _ (by rw [hs2]; exact satI_isI _) W⟩
          have HLO : Aside0 (lo = lowH gs x ∧ hi = highH gs x ∧ gz = gaugeOf gs x) := ⟨by rw [hlo, hs1, hgz]; rfl, by rw [hhi, hs2, hgz]; rfl, hgz⟩
          clear hgz hgz' hs1 hs2 hlo hhi
          have hokE : okB gs l fr un x = (decide (0 ≤ gz.f4) && (decide (lo = hi) && (decide (fr ≤ lo) && decide (lo < un)))) := by
            unfold okB
            rw [HRB.out, decide_eq_false HVP.out, ← HLO.out.2.2, ← HLO.out.1, ← HLO.out.2.1]
            rfl
          have HOKE := Aside0.mk hokE
          clear hokE
          by_cases d1 : gz.f4 < 0
          · have HOK : Aside0 (okB gs l fr un x = false) := ⟨by rw [HOKE.out, decide_eq_false (by omega)]; rfl⟩
            go_wp2_with (first | (go_at_call 28; (with_reducible refine (HS1.out _).mono ?_); rintro e w' ⟨rfl, rfl⟩) | (go_at_call 27; (with_reducible refine (HH1.out _).mono ?_); rintro e w' ⟨rfl, rfl⟩))
            go_roundw
            case rel => exact HSK.out _ ((Below.refl _ _).alloc (Nat.le_refl _) _) HOK.out
            case measure => simp [intOf]; omega
          · by_cases d2 : lo = hi
            · subst d2
              by_cases d3 : lo < fr
              · have HOK : Aside0 (okB gs l fr un x = false) := ⟨by rw [HOKE.out, decide_eq_false (show ¬ fr ≤ lo by omega)]; simp⟩
                go_wp2_with (first | (go_at_call 28; (with_reducible refine (HS1.out _).mono ?_); rintro e w' ⟨rfl, rfl⟩) | (go_at_call 29; (with_reducible refine (HS2.out _).mono ?_); rintro e w' ⟨rfl, rfl⟩) | (go_at_call 27; (with_reducible refine (HH1.out _).mono ?_); rintro e w' ⟨rfl, rfl⟩) | (go_at_call 27; (with_reducible refine (HH2.out _).mono ?_); rintro e w' ⟨rfl, rfl⟩))
                go_roundw
                case rel => exact HSK.out _ ((Below.refl _ _).alloc (Nat.le_refl _) _) HOK.out
                case measure => simp [intOf]; omega
              · by_cases d4 : un ≤ lo
                · have HOK : Aside0 (okB gs l fr un x = false) := ⟨by rw [HOKE.out, decide_eq_false (show ¬ lo < un by omega)]; simp⟩
                  go_wp2_with (first | (go_at_call 28; (with_reducible refine (HS1.out _).mono ?_); rintro e w' ⟨rfl, rfl⟩) | (go_at_call 29; (with_reducible refine (HS2.out _).mono ?_); rintro e w' ⟨rfl, rfl⟩) | (go_at_call 27; (with_reducible refine (HH1.out _).mono ?_); rintro e w' ⟨rfl, rfl⟩) | (go_at_call 27; (with_reducible refine (HH2.out _).mono ?_); rintro e w' ⟨rfl, rfl⟩))
                  go_roundw
                  case rel => exact HSK.out _ ((Below.refl _ _).alloc (Nat.le_refl _) _) HOK.out
                  case measure => simp [intOf]; omega
                · have HOK : Aside0 (okB gs l fr un x = true) := ⟨by rw [HOKE.out, decide_eq_true (show 0 ≤ gz.f4 by omega), decide_eq_true (show fr ≤ lo by omega), decide_eq_true (show lo < un by omega)]; simp⟩
                  go_upto_region 11 with (first | (go_at_call 28; (with_reducible refine (HS1.out _).mono ?_); rintro e w' ⟨rfl, rfl⟩) | (go_at_call 29; (with_reducible refine (HS2.out _).mono ?_); rintro e w' ⟨rfl, rfl⟩) | (go_at_call 27; (with_reducible refine (HH1.out _).mono ?_); rintro e w' ⟨rfl, rfl⟩) | (go_at_call 27; (with_reducible refine (HH2.out _).mono ?_); rintro e w' ⟨rfl, rfl⟩))
                  obtain ⟨sp, hsp⟩ : ∃ sp, sp = spanG gs x := ⟨_, rfl⟩
                  have HC1 : Aside0 (∀ W, Calls Tryd.prog 28 #[.int .i64 x.f3, .int .i64 gz.f3] W fun e w' => e = .returned (.int .i64 sp.f0) ∧ w' = W) := ⟨fun W => by rw [hsp]; unfold spanG; rw [← HLO.out.2.2]; exact sub_calls _ _ HX.out.2.2.2 HGZ.out.1 W⟩
                  have HC2 : Aside0 (∀ W, Calls Tryd.prog 29 #[.int .i64 x.f3, .int .i64 gz.f3] W fun e w' => e = .returned (.int .i64 sp.f1) ∧ w' = W) := ⟨fun W => by rw [hsp]; unfold spanG; rw [← HLO.out.2.2]; exact add_calls _ _ HX.out.2.2.2 HGZ.out.1 W⟩
                  generalize hW0 : (w2.alloc _).alloc _ = W0
                  have hBX0 : BoxAt (w2.heap.size + 1) wr.heap.size w2.heap.size lo x gz W0 := by
                    rw [← hW0]
                    exact ⟨al1 _ _ _, blk_alloc (blk_alloc HXB.out _) _, blk_alloc (al0 _ _) _⟩
                  have hB0 : Below w2.heap.size w2 W0 := by rw [← hW0]; exact ((Below.refl _ _).alloc (Nat.le_refl _) _).alloc (by simp) _
                  have hz0 : W0.heap.size = w2.heap.size + 2 := by rw [← hW0]; simp
                  obtain ⟨WL, hWL⟩ : ∃ WL, WL = (W0.alloc (.cells #[.int .i64 sp.f0, .int .i64 sp.f1] 47)).drew := ⟨_, rfl⟩
                  have hBL0 : Below W0.heap.size W0 WL := by rw [hWL]; exact below_drew1 (below_alloc (Below.refl _ _) _)
                  have hBL : Below w2.heap.size w2 WL := hB0.trans (hBL0.mono (by omega))
                  have hlb : WL.heap[W0.heap.size]? = some (.cells #[.int .i64 (spanG gs x).f0, .int .i64 (spanG gs x).f1] 47 (0, 0)) := by rw [hWL, ← hsp]; exact al0 W0 _
                  have hBXL : BoxAt (w2.heap.size + 1) wr.heap.size w2.heap.size lo x gz WL := ⟨(hBL0.block _ (by omega)).trans hBX0.k, (hBL0.block _ (by omega)).trans hBX0.x, (hBL0.block _ (by omega)).trans hBX0.g⟩
                  have hbse : w.heap.size ≤ WL.heap.size := Nat.le_trans HB2.out.size hBL.size
                  have hne1 : w2.heap.size + 1 ≠ w1.heap.size := by have := HSZ2.out; omega
                  have hne2 : wr.heap.size ≠ w1.heap.size := by have := HSZ.out; omega
                  have hne3 : w2.heap.size ≠ w1.heap.size := by have := HSZ2.out; omega
                  obtain ⟨v0, st, WE, hrunE, hRE, hlit, hbE, hOE, hnext⟩ := val_entry (lb := W0.heap.size) (HM2.out.below hBL) (HVI2.out.below hBL) HOK.out HX.out.1 (by omega) hlb (by have := HSZ2.out; omega) (by omega) hbse
                  rw [← HLO.out.1] at hrunE hRE hnext
                  rw [← hsp] at hlit hnext
                  unfold k2 at hrunE
                  have HBX0 := Aside0.mk hBX0
                  have HBXL := Aside0.mk hBXL
                  have HBXM : Aside0 (BoxAt (w2.heap.size + 1) wr.heap.size w2.heap.size lo x gz ((W0.alloc (.cells #[.int .i64 sp.f0, .int .i64 sp.f1] 47)).drew)) := ⟨hWL ▸ hBXL⟩
                  have HBXE := Aside0.mk (hOE.box hne1 hne2 hne3 hBXL)
                  have HRE := Aside0.mk hRE
                  have HLIT := Aside0.mk hlit
                  have HNX := Aside0.mk hnext
                  have HWL : Aside0 (WL = (W0.alloc (.cells #[.int .i64 sp.f0, .int .i64 sp.f1] 47)).drew) := ⟨hWL⟩
                  have HBL := Aside0.mk hBL
                  have HWS : Aside0 (w.heap.size ≤ WE.heap.size) := ⟨hbE⟩
                  have hlen : (spansOf gs (okB gs l fr un) (l.take k) lo x.f0).length ≤ 100000 := by
                    have h1 := spans_len gs (okB gs l fr un) (l.take k) lo x.f0
                    have h2 := List.length_take_le k l
                    omega
                  rw [hWL] at hrunE
                  clear hz0 hW0 hWL hBX0 hB0 hBL0 hBL hlb hBXL hbse hRE hlit hnext hOE hbE hsp z0 z1 z2 z3 z4 x0 x2 x3 q6 hlk
                  go_region_held3 (fun w' => w'.cell? ⟨w2.heap.size + 1, 0, none⟩ = some (.int .i64 lo) ∧ w'.cell? ⟨w2.heap.size + 1, 1, none⟩ = some (.int .i64 x.f0) ∧ w'.cell? ⟨wr.heap.size, 3, none⟩ = some (.int .i64 x.f3) ∧ w'.cell? ⟨w2.heap.size, 3, none⟩ = some (.int .i64 gz.f3))
                    (first | assumption | exact HBX0.out.key | exact HBXM.out.key | exact HBXE.out.key | exact (ho3.1.box hne1 hne2 hne3 HBXL.out).key | exact (ho4.box hne1 hne2 hne3 HBXL.out).key)
                    (first | (go_at_call 28; (with_reducible refine (HC1.out _).mono ?_); rintro e w' ⟨rfl, rfl⟩) | (go_at_call 29; (with_reducible refine (HC2.out _).mono ?_); rintro e w' ⟨rfl, rfl⟩) | (refine step_append_at (o := ⟨some 97, _, _, _, _, _⟩) (enc := encS) (by rfl) (.tmp 83) (.tmp 95) 77 (by rfl) w.heap.size 47 _ 2 16 Tryd.underlying77 info47 rfl (by decide) v0 _ [sp] encS_len (by rfl) HRE.out encS_one ⟨W0.heap.size, 0, none⟩ 1 1 (by rfl) rfl HLIT.out (by simp only [maxLen, List.length_singleton]; omega) (by simp only [List.length_singleton]; omega) HWS.out ?_; intro v1 w3 hr3 hg3 hat3; have ho3 := HNX.out v1 w3 hr3 hg3 hat3; obtain ⟨w4, hrun4, hM4, hV4, ho4, hsz4, hB4⟩ := ho3.2))
                  clear hrunE hrun4
                  go_wp2
                  go_roundw
                  case rel => exact ⟨k + 1, _, by omega, by go_num, ⟨hM4⟩, ⟨by rw [HT.out.1]; exact hV4⟩, ⟨(HMV2.out.below HBL.out).others (by omega) ho4⟩, ⟨hB4 w (Nat.le_refl _) (HB2.out.trans (HBL.out.mono HB2.out.size))⟩, ⟨ho4 _ _ (by omega) ((HBL.out.block _ (by have := HSZ2.out; omega)).trans HBK2.out) (fun _ _ e => by cases e)⟩, ⟨Nat.lt_of_lt_of_le (Nat.lt_of_lt_of_le HSZ2.out HBL.out.size) hsz4⟩⟩
                  case measure => simp [intOf]; omega
            · have HOK : Aside0 (okB gs l fr un x = false) := ⟨by rw [HOKE.out, decide_eq_false d2]; simp⟩
              have hne : (lo == hi) = false := beq_false_of_ne d2
              go_wp2_with (first | (go_at_call 28; (with_reducible refine (HS1.out _).mono ?_); rintro e w' ⟨rfl, rfl⟩) | (go_at_call 29; (with_reducible refine (HS2.out _).mono ?_); rintro e w' ⟨rfl, rfl⟩) | (go_at_call 27; (with_reducible refine (HH1.out _).mono ?_); rintro e w' ⟨rfl, rfl⟩) | (go_at_call 27; (with_reducible refine (HH2.out _).mono ?_); rintro e w' ⟨rfl, rfl⟩))
              go_roundw
              case rel => exact HSK.out _ ((Below.refl _ _).alloc (Nat.le_refl _) _) HOK.out
              case measure => simp [intOf]; omega
    · obtain rfl : k = l.length := by omega
      rw [List.take_length] at HVI
      obtain ⟨D, ho, hD⟩ := HM.out
      have HO := Aside0.mk ho
      have HD := Aside0.mk hD
      have HSZD := Aside0.mk ho.size_le
      clear ho hD HMV HBK HM
      go_wp2_with (at_range; refine wpList_range_own _ rfl _ 72 rfl 76 77 law76 Tryd.underlying72 RH _ _ D rfl HO.out ?_; intro wq hrg0 hg0 hs0)
      have HB0 := Aside0.mk (HB.out.grown hg0 HB.out.size (fun j hj => by cases hj))
      have HVI0 := Aside0.mk (HVI.out.other hg0 (fun key v hm => by
        obtain ⟨a, b, _, _, _, h4, h5⟩ := HVI.out.key key v hm
        obtain ⟨j, hj, _⟩ := h5.some_block h4
        rw [hj]
        intro e; cases e))
      have HR0 := Aside0.mk hrg0
      have hszr := HSZ.out
      obtain ⟨rb, hrb⟩ : ∃ rb, rb = wr.heap.size := ⟨_, rfl⟩
      rw [← hrb] at HR0 hszr ⊢
      have HRB : Aside0 (w.heap.size ≤ rb) := ⟨by rw [hrb]; exact HB.out.size⟩
      clear hrg0 hg0 hs0 HO HB HVI hrb
      go_frame
      go_loopw [16] (fun vo wr => ∃ left cnt L outl, Aside0 (wr.ranges Tryd.prog 76 RH w1.heap.size rb l.length D left cnt) ∧ Aside0 (Row encR 49 4 wr w.heap.size vo outl) ∧ Aside0 (ValI gs (okB gs l fr un) l w.heap.size wr M) ∧ Aside0 (Below w.heap.size w wr) ∧ Aside0 (Seen gs (okB gs l fr un) l left L) ∧ Aside0 (L.length + cnt ≤ l.length) ∧ Aside0 (outl = L.filterMap (readOf gs (okB gs l fr un) l))) (fun _ wr => wr.rangeLeft w1.heap.size rb)
      case atStart =>
        refine ⟨_, _, [], [], HR0, ⟨Row.nil _ _ _ _ _⟩, HVI0, HB0, ⟨by simp, by simp, fun h g hh hg => ?_⟩, ⟨by simpa using HSZD.out⟩, ⟨rfl⟩⟩
        constructor
        · intro hx; simp at hx
        · rintro ⟨h1, h2⟩
          obtain ⟨v, hv⟩ := HVI0.out.all h g h2
          rw [((HD.out _ _ (keyOf76 hh hg)).1 v hv).1] at h1
          cases h1
      case round =>
        clear HR0 HB0 HVI0 HSZD
        obtain ⟨left, cnt, L, outl, HRg, HOw, HVI, HB, HL, HLC, HOL⟩ := hrel
        go_wp2_with (at_next; refine wp_next_R law76 rfl _ rfl HD.out rfl HRg.out ?d1 ?d2)
        case d1 =>
          intro hleft
          have HLF := Aside0.mk hleft
          have hol : outl.length ≤ 100000 := by
            have h1 := HLC.out
            have h2 := List.length_filterMap_le (readOf gs (okB gs l fr un) l) L
            rw [← HOL.out] at h2
            omega
          obtain ⟨A8, c8, hv8, _⟩ := HOw.out.form
          subst hv8
          clear hleft HRg HVI
          go_wp2_with fail
          refine (SortR_any _ w.heap.size _ outl HOw.out (by omega)).mono ?_
          rintro e w5 ⟨rfl, r, hp, hs, ho5, hg5⟩
          have HB5 := Aside0.mk (HB.out.grown hg5 HB.out.size (fun j hj => (HOw.out.at_base j hj).1))
          have HP := Aside0.mk hp
          have HS := Aside0.mk hs
          have HO5 := Aside0.mk ho5
          clear hp hs ho5 hg5 HB HOw
          go_wp2
          go_ret
          refine ⟨_, r, rfl, HO5.out, strict_of HP.out (HS.out.imp (fun {a b} h => by omega)) (by rw [HOL.out]; exact reads_nodup HL.out.1), fun R => ?_, ?_, HB5.out⟩
          · rw [HP.out.mem_iff, HOL.out]
            exact seen_reads HL.out (fun x hx => (HN.out x hx).1) HLF.out R
          · rw [HP.out.length_eq, HOL.out]
            have h1 := HLC.out
            have h2 := List.length_filterMap_le (readOf gs (okB gs l fr un) l) L
            omega
        case d2 =>
          intro key kl v w2 cnt' hkey hMv hlk hrg hlt hgr hsz hen
          obtain ⟨h, g, hIh, hIg, rfl, hne, hRow⟩ := HVI.out.key key v hMv
          obtain rfl : kl = l2 h g := by rw [keyOf76 hIh hIg] at hkey; exact (Option.some.inj hkey).symm
          have hmi : ∃ b s1 s2 s3, wr.heap[rb]? = some (.mapIter b s1 s2 s3) := by
            obtain ⟨es, clock, since, seen, c0, _, _, _, _, hr, _⟩ := HRg.out
            exact ⟨_, _, _, _, hr⟩
          obtain ⟨b9, s9, s10, s11, hmi⟩ := hmi
          have HVI2 := Aside0.mk (HVI.out.obj hmi (fun _ _ _ e => by cases e) hgr)
          have HOw2 := Aside0.mk (HOw.out.other hgr (.inr (HOw.out.ne_obj hmi (fun _ _ _ e => by cases e))))
          have HB2 := Aside0.mk (HB.out.grown hgr HB.out.size (fun j hj => by injection hj with hj; have := HRB.out; omega))
          have HRow2 := Aside0.mk (hRow.other hgr (.inr (hRow.ne_obj hmi (fun _ _ _ e => by cases e))))
          have HSTEP := Aside0.mk (HL.out.step hIh hIg hlk hne)
          have HRg2 := Aside0.mk hrg
          have HCNT : Aside0 (cnt' < cnt ∧ wr.rangeLeft w1.heap.size rb = cnt) := ⟨hlt, HRg.out.left_eq⟩
          have HLEN : Aside0 ((spansOf gs (okB gs l fr un) l h g).length ≤ l.length) := ⟨spans_len _ _ _ _ _⟩
          obtain ⟨q, hq⟩ : ∃ q, q = spansOf gs (okB gs l fr un) l h g := ⟨_, rfl⟩
          rw [← hq] at hne HRow2 HLEN
          have HQ := Aside0.mk hq
          have hq0 : 0 < q.length := List.length_pos_iff.2 hne
          obtain ⟨g8, c12, hv8, hc8⟩ : ∃ g8 c12, v = .slice (some ⟨g8, 0, none⟩) q.length c12 ∧ q.length ≤ c12 := by
            rcases HRow2.out.2 with ⟨_, h0⟩ | ⟨g', cap', cur, rfl, _, _, hn, _⟩
            · omega
            · exact ⟨_, _, rfl, hn⟩
          subst hv8
          have hg8 : g8 < w2.heap.size := (HRow2.out.at_base g8 rfl).2
          obtain ⟨a0, a1⟩ := reads_S47 HRow2.out 0 hq0
          rw [Nat.zero_mul] at a0 a1
          obtain ⟨a, ha⟩ : ∃ a, a = q[0] := ⟨_, rfl⟩
          rw [← ha] at a0 a1
          have HA := Aside0.mk ha
          have hq0z : (0 : Int) < (q.length : Int) := by omega
          clear hkey hMv hlk hrg hlt hgr hsz hRow hmi hq ha HRg HVI HOw HB HL hIh hIg hne
          unfold k2 at hen
          go_upto_region 17 with fail
          obtain ⟨Wk, hWk⟩ : ∃ Wk, Wk = w2.alloc (.cells #[.int .i64 h, .int .i64 g] 76) := ⟨_, rfl⟩
          rw [← hWk]
          have hBK : Below w2.heap.size w2 Wk := by rw [hWk]; exact (Below.refl _ _).alloc (Nat.le_refl _) _
          have hT0 : TwoAt Wk g8 a Wk := by
            have h1 := (hBK.cell (World.block_lt_of_cell? w2 _ a0)).trans a0
            have h2 := (hBK.cell (World.block_lt_of_cell? w2 _ a1)).trans a1
            exact ⟨Below.refl _ _, h1, h2⟩
          have HT0 := Aside0.mk hT0
          have HBK := Aside0.mk hBK
          have HKB : Aside0 (Wk.heap[w2.heap.size]? = some (.cells #[.int .i64 h, .int .i64 g] 76 (0, 0))) := ⟨by rw [hWk]; exact al0 _ _⟩
          have hzk : w2.heap.size < Wk.heap.size := by rw [hWk]; simp
          clear hWk hBK hT0 a0 a1
          go_cut [19, 20] (fun v19 v20 wc => ∃ sb, v19 = .pointer (some ⟨sb, 0, none⟩) ∧ v20 = .bool (decide (a.f0 ≤ a.f1)) ∧ Wk.heap.size ≤ sb ∧ Aside0 (wc.heap[sb]? = some (.cells #[.int .i64 a.f0, .int .i64 a.f1] 47 (0, 0))) ∧ Aside0 (Below Wk.heap.size Wk wc))
          case first =>
            go_region_held3 (fun w' => Below Wk.heap.size Wk w' ∧ w'.cell? ⟨g8, 0, none⟩ = some (.int .i64 a.f0) ∧ w'.cell? ⟨g8, 1, none⟩ = some (.int .i64 a.f1)) (first | assumption | exact HT0.out.of (by repeat (first | (with_reducible first | exact Below.refl _ _ | apply below_alloc | apply pw_below_drewN | apply below_drew1 | refine below_set ?_ (by omega)) | exact hbk)))
              (first | (go_at_call 30; (with_reducible refine (span_Right.calls a.f0 a.f1 (decide (a.f0 ≤ a.f1)) _ rfl).mono ?_); rintro e w6 ⟨rfl, hb⟩; obtain ⟨hcc, hff⟩ := bcell hb; have hz := hb.size; have hbk : Below Wk.heap.size Wk w6 := below_step (by repeat (first | (with_reducible first | exact Below.refl _ _ | apply below_alloc | apply below_drew1))) hb))
            all_goals
              rename_i hHeld
              have HB9 := Aside0.mk hHeld.1
              have HBL9 : Aside0 (Wk.heap.size ≤ w6.heap.size) := ⟨hbk.size⟩
              have HBB := Aside0.mk hb
              clear hHeld hb hcc hff hz hbk
              go_wp2
              go_meet
              case rel => exact ⟨_, rfl, rfl, by first | exact Nat.le_refl _ | exact HBL9.out, by first | exact ⟨blk_put (blk_put ((HBB.out.block _ (by simp)).trans (al0 _ _)) 0 _ rfl) 1 _ rfl⟩ | exact ⟨al0 _ _⟩, HB9⟩
          case rest =>
            obtain ⟨sb, rfl, rfl, hsb, HSB, HBC⟩ := hcut
            by_cases hc1 : c12 = 1
            all_goals
              first | subst hc1 | skip
              have hq1z : (1 : Int) ≤ (q.length : Int) := by omega
              have hlq : q.length ≤ 100000 := by have := HLEN.out; omega
              go_wp2
              go_loopw [20, 117] (fun v20 i wr => ∃ (j : Nat) (m : S47 × Bool), j + 1 ≤ q.length ∧ i = .int .i64 j ∧ v20 = .bool m.2 ∧ Aside0 (m = meetL (q.take (j + 1))) ∧ Aside0 (wr.heap[sb]? = some (.cells #[.int .i64 m.1.f0, .int .i64 m.1.f1] 47 (0, 0))) ∧ Aside0 (Below Wk.heap.size Wk wr)) (fun _ i _ => q.length - (intOf i).toNat)
              case atStart => exact ⟨0, (a, decide (a.f0 ≤ a.f1)), by omega, rfl, rfl, ⟨by rw [meetL_one q hq0, ← HA.out]⟩, HSB, HBC⟩
              case round =>
                clear HSB HBC
                obtain ⟨j, m, hj, rfl, rfl, HM9, HSB, HBC⟩ := hrel
                by_cases hjl : j + 1 < q.length
                · first
                  | (exfalso; omega)
                  | (obtain ⟨b0, b1⟩ := reads_S47 HRow2.out (j + 1) hjl
                     rw [show (j + 1) * 2 = 2 + j * 2 by omega] at b0 b1
                     replace b0 := (HBK.out.cell (World.block_lt_of_cell? w2 _ b0)).trans b0
                     replace b1 := (HBK.out.cell (World.block_lt_of_cell? w2 _ b1)).trans b1
                     replace b0 := (HBC.out.cell (World.block_lt_of_cell? Wk _ b0)).trans b0
                     replace b1 := (HBC.out.cell (World.block_lt_of_cell? Wk _ b1)).trans b1
                     have HMS : Aside0 (meetL (q.take (j + 1 + 1)) = meetS m q[j + 1]) := ⟨by rw [meetL_step q (j + 1) (by omega) hjl, ← HM9.out]⟩
                     obtain ⟨b, hb⟩ : ∃ b, b = q[j + 1] := ⟨_, rfl⟩
                     rw [← hb] at b0 b1 HMS
                     clear hb
                     have hjz : (j : Int) < (q.length : Int) - 1 := by omega
                     have hc2 : ¬ (c12 : Int) = 1 := by omega
                     cases hm : m.2 with
                     | false =>
                       have HME : Aside0 (meetL (q.take (j + 1 + 1)) = m) := ⟨by rw [HMS.out]; unfold meetS; rw [hm]; rfl⟩
                       go_wp2
                       go_roundw
                       case rel => exact ⟨j + 1, m, by omega, by go_num, by rw [hm], ⟨HME.out.symm⟩, ⟨blk_alloc HSB.out _⟩, ⟨HBC.out.alloc HBC.out.size _⟩⟩
                       case measure => simp [intOf]; omega
                     | true =>
                       have HMF := Aside0.mk (meet_f m hm b)
                       have hsbw : sb < wr.heap.size := (Array.getElem?_eq_some_iff.1 HSB.out).1
                       have s0 : wr.cell? ⟨sb, 0, none⟩ = some (.int .i64 m.1.f0) := (blk_cell HSB.out 0).trans rfl
                       have s1 : wr.cell? ⟨sb, 1, none⟩ = some (.int .i64 m.1.f1) := (blk_cell HSB.out 1).trans rfl
                       clear hm
                       go_wp2_with fail
                       refine (span_Meet.calls m.1.f0 m.1.f1 b.f0 b.f1 _ _ _ _ HMF.out).mono ?_
                       rintro e w7 ⟨rfl, hb7⟩
                       have hs7 := (hb7.block sb (by have := (Array.getElem?_eq_some_iff.1 HSB.out).1; simp; omega)).trans (blk_alloc HSB.out _)
                       have HS7 := Aside0.mk hs7
                       have HB7 : Aside0 (Below Wk.heap.size Wk w7) := ⟨(HBC.out.alloc HBC.out.size _).trans (hb7.mono (by have := HBC.out.size; simp; omega))⟩
                       have t0 : w7.cell? ⟨sb, 0, none⟩ = some (.int .i64 m.1.f0) := (blk_cell hs7 0).trans rfl
                       have t1 : w7.cell? ⟨sb, 1, none⟩ = some (.int .i64 m.1.f1) := (blk_cell hs7 1).trans rfl
                       have f0 := blk_frozen hs7 0
                       have f1 := blk_frozen hs7 1
                       clear hb7 hs7 s0 s1 b0 b1
                       go_wp2
                       go_roundw
                       case rel => exact ⟨j + 1, meetS m b, by omega, by go_num, rfl, ⟨HMS.out.symm⟩, ⟨blk_put (blk_put HS7.out 0 _ rfl) 1 _ rfl⟩, ⟨below_set (below_set HB7.out hsb) hsb⟩⟩
                       case measure => simp [intOf]; omega)
                · obtain hjq : j + 1 = q.length := by omega
                  have hjz : ¬ (j : Int) < (q.length : Int) - 1 := by omega
                  have HM10 : Aside0 (m = meetL q) := ⟨by rw [HM9.out, hjq, List.take_length]⟩
                  have HRgw := Aside0.mk (ranges_below (ranges_below HRg2.out HBK.out) (HBC.out.mono (Nat.le_refl _)))
                  have HOww := Aside0.mk ((HOw2.out.below HBK.out).below HBC.out)
                  have HVIw := Aside0.mk ((HVI2.out.below HBK.out).below HBC.out)
                  have HBw : Aside0 (Below w.heap.size w wr) := ⟨(HB2.out.trans (HBK.out.mono HB2.out.size)).trans (HBC.out.mono (Nat.le_trans HB2.out.size (Nat.le_of_lt hzk)))⟩
                  have hol : outl.length ≤ 100000 := by
                    have h1 := HLC.out
                    have h2 := List.length_filterMap_le (readOf gs (okB gs l fr un) l) L
                    rw [← HOL.out] at h2
                    omega
                  have HLC2 : Aside0 ((L ++ [(h, g)]).length + cnt' ≤ l.length) := ⟨by
                    rw [List.length_append, List.length_singleton]
                    have h1 := HLC.out
                    have h2 := HCNT.out.1
                    omega⟩
                  cases hm : m.2 with
                  | false =>
                    have HOL2 : Aside0 (outl = (L ++ [(h, g)]).filterMap (readOf gs (okB gs l fr un) l)) := ⟨by
                      have e : readOf gs (okB gs l fr un) l (h, g) = none := by
                        unfold readOf
                        simp only
                        rw [← HQ.out, ← HM10.out, hm]
                        rfl
                      rw [List.filterMap_append, ← HOL.out]
                      simp [e]⟩
                    go_wp2
                    go_roundw
                    case rel => exact ⟨_, cnt', L ++ [(h, g)], outl, HRgw, HOww, HVIw, HBw, HSTEP, HLC2, HOL2⟩
                    case measure =>
                      rw [HRgw.out.left_eq, HCNT.out.2]
                      exact HCNT.out.1
                  | true =>
                    have HOL2 : Aside0 (outl ++ [⟨g, h, m.1⟩] = (L ++ [(h, g)]).filterMap (readOf gs (okB gs l fr un) l)) := ⟨by
                      have e : readOf gs (okB gs l fr un) l (h, g) = some ⟨g, h, m.1⟩ := by
                        unfold readOf
                        simp only
                        rw [← HQ.out, ← HM10.out, hm]
                        rfl
                      rw [List.filterMap_append, ← HOL.out]
                      simp [e]⟩
                    have s0 : wr.cell? ⟨sb, 0, none⟩ = some (.int .i64 m.1.f0) := (blk_cell HSB.out 0).trans rfl
                    have s1 : wr.cell? ⟨sb, 1, none⟩ = some (.int .i64 m.1.f1) := (blk_cell HSB.out 1).trans rfl
                    have hkb := (HBC.out.block _ hzk).trans HKB.out
                    have k0 : wr.cell? ⟨w2.heap.size, 0, none⟩ = some (.int .i64 h) := (blk_cell hkb 0).trans rfl
                    have k1 : wr.cell? ⟨w2.heap.size, 1, none⟩ = some (.int .i64 g) := (blk_cell hkb 1).trans rfl
                    have HLW := Aside0.mk (HOww.out.below ((Below.refl wr.heap.size wr).alloc (Nat.le_refl _) (.cells #[.int .i64 g, .int .i64 h, .int .i64 m.1.f0, .int .i64 m.1.f1] 49)))
                    have HLB : Aside0 (w.heap.size ≤ (wr.alloc (.cells #[.int .i64 g, .int .i64 h, .int .i64 m.1.f0, .int .i64 m.1.f1] 49)).heap.size) := ⟨by have := HBw.out.size; simp; omega⟩
                    have HLL := Aside0.mk (lit_cells (enc := encR) (x := ⟨g, h, m.1⟩) (al0 wr (.cells #[.int .i64 g, .int .i64 h, .int .i64 m.1.f0, .int .i64 m.1.f1] 49)) rfl)
                    clear hkb
                    go_wp2_with (at_builtin; (refine wpl_append_at (enc := encR) rfl (.tmp 130) (.tmp 137) 43 rfl w.heap.size 49 _ 4 32 Tryd.underlying43 info49 rfl (by decide) _ outl [⟨g, h, m.1⟩] encR_len rfl HLW.out encR_one ⟨wr.heap.size, 0, none⟩ 1 1 rfl rfl HLL.out (by simp only [maxLen, List.length_singleton]; omega) (by simp only [List.length_singleton]; omega) HLB.out ?_; intro v1 w9 ho9 hg9))
                    have hLB : Below wr.heap.size wr (wr.alloc (.cells #[.int .i64 g, .int .i64 h, .int .i64 m.1.f0, .int .i64 m.1.f1] 49)) := (Below.refl _ _).alloc (Nat.le_refl _) _
                    have hro := ranges_below HRgw.out hLB
                    obtain ⟨n1', n2'⟩ := ranges_objs hro HLW.out
                    have HRg9 := Aside0.mk (ranges_grown hro hg9 n1' n2')
                    have HVI9 := Aside0.mk ((HVIw.out.below hLB).apartR HLW.out hg9)
                    have HB9 : Aside0 (Below w.heap.size w w9) := ⟨(HBw.out.trans (hLB.mono HBw.out.size)).grown hg9 HLB.out (fun j hj => (HLW.out.at_base j hj).1)⟩
                    have HO9 := Aside0.mk ho9
                    clear hLB hro n1' n2' ho9 hg9 s0 s1 k0 k1
                    go_wp2
                    go_roundw
                    case rel => exact ⟨_, cnt', L ++ [(h, g)], _, HRg9, HO9, HVI9, HB9, HSTEP, HLC2, HOL2⟩
                    case measure =>
                      rw [HRg9.out.left_eq, HCNT.out.2]
                      exact HCNT.out.1

end Go.Proofs.YtioekkdodggakaaDoor.G
