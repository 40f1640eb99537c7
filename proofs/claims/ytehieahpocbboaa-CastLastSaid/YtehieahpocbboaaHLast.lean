import Derived.Deep.DeepCutAuto
import Derived.Test.YtehieahpocbboaaHOr
import Derived.Test.YtehieahpocbboaaHLp
import Derived.Test.YtehieahpocbboaaHAside
/-
  bournelaw29.CastLast, walked.
-/
namespace Go.Proofs.Ytehieahpocbboaa.G
open Go.RowKit Go.Proofs.YtehieahpocbboaaW.PrintWords Go.Proofs.YtehieahpocbboaaW.PrintLast Go.Proofs.YtehieahpocbboaaW.PrintMore
set_option linter.unusedVariables false
set_option linter.unusedSimpArgs false

set_option maxHeartbeats 4000000 in
set_option maxRecDepth 100000 in
theorem Last_few (A : Option Addr) (c : Nat) (l : List S29) (h : Int) (w : World) (hr : Kd.C k29 w A l.length l) (hc : l.length ≤ c) (hf : fewB l = false) :
    Calls Try.prog 7 #[.slice A l.length c, .int .i64 h] w fun e w' => e = .returned (.bool true) ∧ Below w.heap.size w w' := by
  have HR := Aside0.mk hr
  have HF := Aside0.mk (few_eq l 2001 (by omega))
  rw [hf] at HF
  clear hr hf
  go_enter Try.func7, Try.ntmps7
  go_wp2_with fail
  refine (small_calls _).mono ?_
  rintro e w1 ⟨rfl, hb1⟩
  have HB1 := Aside0.mk hb1
  clear hb1
  go_wp2_with fail
  refine (bournelaw29_few.calls 2001 A c l false _ (Kd.C_below HR.out HB1.out) hc HF.out).mono ?_
  rintro e w2 ⟨rfl, hb2⟩
  have HB2 := Aside0.mk (HB1.out.trans (hb2.below.mono HB1.out.size))
  clear hb2 HB1
  go_wp2
  go_ret
  exact ⟨rfl, HB2.out⟩

/-- Six cells, in a world later than W. -/
def SixAt (W w : World) (p q : Addr) (x0 x1 x2 y0 y1 y2 : Value) : Prop :=
  Below W.heap.size W w ∧ w.cell? ⟨p.block, p.off + 2, none⟩ = some x0 ∧ w.cell? ⟨p.block, p.off + 3, none⟩ = some x1 ∧ w.cell? ⟨p.block, p.off + 4, none⟩ = some x2 ∧ w.cell? q = some y0 ∧ w.cell? ⟨q.block, q.off + 1, none⟩ = some y1 ∧ w.cell? ⟨q.block, q.off + 2, none⟩ = some y2
theorem SixAt.step {W w w2 : World} {p q : Addr} {x0 x1 x2 y0 y1 y2 : Value} (hb : Below w.heap.size w w2) (h : SixAt W w p q x0 x1 x2 y0 y1 y2) : SixAt W w2 p q x0 x1 x2 y0 y1 y2 := by
  obtain ⟨h0, a0, a1, a2, b0, b1, b2⟩ := h
  have mv : ∀ (a : Addr) (v : Value), w.cell? a = some v → w2.cell? a = some v := fun a v ha => (hb.cell (World.block_lt_of_cell? w a ha)).trans ha
  exact ⟨h0.trans (hb.mono h0.size), mv _ _ a0, mv _ _ a1, mv _ _ a2, mv _ _ b0, mv _ _ b1, mv _ _ b2⟩

theorem sixBelow {w0 W w : World} {R : Prop} (hb : Below w0.heap.size w0 W) (h : Below W.heap.size W w ∧ R) : Below w0.heap.size w0 w := hb.trans (h.1.mono hb.size)
theorem lastIx_no {p : S29 → Bool} {r : List S29} {q : Nat} (h : p (rd_T29 r q) = false) : lastIx p r (q + 1) = lastIx p r q := by
  show (if p (rd_T29 r q) = true then (q : Int) else lastIx p r q) = _
  rw [h, if_neg (by simp)]
theorem lastIx_yes {p : S29 → Bool} {r : List S29} {q : Nat} (h : p (rd_T29 r q) = true) : lastIx p r (q + 1) = (q : Int) := by
  show (if p (rd_T29 r q) = true then (q : Int) else lastIx p r q) = _
  rw [if_pos h]

set_option maxHeartbeats 16000000 in
set_option maxRecDepth 100000 in
theorem Last_in (A : Option Addr) (c : Nat) (l : List S29) (h : Int) (w : World) (hr : Kd.C k29 w A l.length l) (hc : l.length ≤ c) (hcn : A = none → c = 0) (hok : OkN l) (hl : l.length ≤ 40) (hh : IsI h) (hf : fewB l = true) :
    Calls Try.prog 7 #[.slice A l.length c, .int .i64 h] w fun e w' => e = .returned (.bool true) ∧ Below w.heap.size w w' := by
  have hu29 := Try.underlying29
  have hu27 := Try.underlying27
  have HR := Aside0.mk hr
  have HOK := Aside0.mk hok
  have HCN := Aside0.mk hcn
  have HH := Aside0.mk hh
  have HF := Aside0.mk (few_eq l 2001 (by omega))
  rw [hf] at HF
  clear hr hok hcn hf hh
  go_enter Try.func7, Try.ntmps7
  go_wp2_with fail
  refine (small_calls _).mono ?_
  rintro e w1 ⟨rfl, hb1⟩
  have HB1 := Aside0.mk hb1
  clear hb1
  go_wp2_with fail
  refine (bournelaw29_few.calls 2001 A c l true _ (Kd.C_below HR.out HB1.out) hc HF.out).mono ?_
  rintro e w2 ⟨rfl, hb2⟩
  have HB2 := Aside0.mk (HB1.out.trans (hb2.below.mono HB1.out.size))
  clear hb2 HB1
  go_wp2_with fail
  refine (Admitted_any w A c l h _ HB2.out (C_from HR.out HB2.out) hc (by omega) HOK.out.2 HH.out).mono ?_
  rintro e w3 ⟨va, rfl, hoa, hb3⟩
  have HOA3 := Aside0.mk hoa
  have HB3 := Aside0.mk (HB2.out.trans (hb3.mono HB2.out.size))
  obtain ⟨Aa, ca, rfl, hlea⟩ := hoa.slice_
  clear hoa hb3 HB2
  go_wp2_with fail
  refine (Order_any w A c l _ HB3.out (C_from HR.out HB3.out) hc HCN.out hl HOK.out.2).mono ?_
  rintro e w4 ⟨vo, r, rfl, hperm, hsort, hor, hb4⟩
  have HOA4 := Aside0.mk (HOA3.out.below hb4)
  have HB4 := Aside0.mk (HB3.out.trans (hb4.mono HB3.out.size))
  obtain ⟨Ao, co, rfl, hleo⟩ := hor.slice_
  obtain ⟨_, _, he6, _, hrd6⟩ := HOA4.out.reads
  injection he6 with e61 e62 e63
  subst e61 e63
  have HRA := Aside0.mk hrd6
  obtain ⟨_, _, he7, _, hrd7⟩ := hor.reads
  injection he7 with e71 e72 e73
  subst e71 e73
  have HRO := Aside0.mk hrd7
  have HPM := Aside0.mk hperm
  have HST := Aside0.mk hsort
  have hrl : r.length ≤ 40 := by rw [hperm.length_eq]; exact hl
  clear hrd6 e62 hrd7 e72 hor hb4 HOA3 HB3 HOA4 hperm hsort HF
  obtain ⟨al, hal⟩ : ∃ al, al = admitted h l := ⟨_, rfl⟩
  rw [← hal] at HRA hlea ⊢
  have HAL := Aside0.mk hal
  have hal32 : al.length ≤ 32 := by rw [hal]; exact (admitted_ok h l HOK.out.2).1
  clear hal
  go_wp2
  go_loopg [9] al.length (fun kx s9 wr => ∃ j : Nat, j + kx = al.length ∧ s9 = .int .i64 j ∧ Aside0 (Below w4.heap.size w4 wr))
  case atStart => exact ⟨0, by omega, rfl, ⟨Below.refl _ _⟩⟩
  case round =>
    obtain ⟨j, hj, rfl, HB⟩ := hrel
    by_cases hlt : j < al.length
    · have hltz : (j : Int) < (al.length : Int) := by omega
      obtain ⟨ad6, A7, c7, hA6, g0, g1, g2, hl7, hC7⟩ := at_R27 HRA.out j (by omega) (by omega)
      cases hA6
      rw [Int.toNat_natCast] at g0 g1 g2
      have HX := Aside0.mk (last_ok h l r HOK.out.2 HPM.out HST.out (rd_T27 al j) (by rw [← HAL.out]; exact (take_rd_T27 al j hlt).2))
      have HIC := Aside0.mk ((admitted_ok h l HOK.out.2).2 (rd_T27 al j) (by rw [← HAL.out]; exact (take_rd_T27 al j hlt).2))
      go_upto_region 10 with fail
      go_cut [45] (fun v wc => v = .bool false ∧ Aside0 (Below w4.heap.size w4 wc))
      case first =>
        replace g0 := (HB.out.cell (World.block_lt_of_cell? w4 _ g0)).trans g0
        cases j with
        | zero =>
          clear g1 g2
          go_wp2_with fail
          go_quiet (fail)
          rename_i nq
          go_wp2
          go_meet
          case rel => exact ⟨rfl, ⟨pw_below_drewN HB.out nq⟩⟩
        | succ jp =>
          obtain ⟨ad8, A8, c8, hA8, q0, _, _, _, _⟩ := at_R27 HRA.out jp (by omega) (by omega)
          cases hA8
          rw [Int.toNat_natCast] at q0
          replace q0 := (HB.out.cell (World.block_lt_of_cell? w4 _ q0)).trans q0
          have hasc : (rd_T27 al (jp : Int)).f0 < (rd_T27 al ((jp + 1 : Nat) : Int)).f0 := by rw [HAL.out]; exact admitted_lt h l jp (by rw [← HAL.out]; exact hlt)
          obtain ⟨x0, hx0⟩ : ∃ x0, x0 = (rd_T27 al (jp : Int)).f0 := ⟨_, rfl⟩
          obtain ⟨x1, hx1⟩ : ∃ x1, x1 = (rd_T27 al ((jp + 1 : Nat) : Int)).f0 := ⟨_, rfl⟩
          rw [← hx0] at hasc q0
          rw [← hx1] at hasc g0
          have hge : decide (x0 ≥ x1) = false := decide_eq_false (by omega)
          have hge' : ¬ x1 ≤ x0 := by omega
          have hpj : (0 : Int) < (jp : Int) + 1 := by omega
          have e0 : ((jp : Int) + 1).toNat = jp + 1 := by omega
          have wj : IntKind.i64.wrap (jp : Int) = (jp : Int) := by rw [IntKind.wrap_i64]; omega
          have b1 : (jp : Int) + 1 < (al.length : Int) := by omega
          have b2 : (jp : Int) < (al.length : Int) := by omega
          have b3 : (0 : Int) ≤ (jp : Int) + 1 := by omega
          clear g1 g2 hx0 hx1 hC7
          go_wp2_with fail
          go_quiet (fail)
          rename_i nq
          go_wp2
          go_meet
          case rel => exact ⟨rfl, ⟨pw_below_drewN HB.out nq⟩⟩
      case rest =>
        clear HB
        obtain ⟨rfl, HB⟩ := hcut
        obtain ⟨x, hx⟩ : ∃ x, x = rd_T27 al j := ⟨_, rfl⟩
        rw [← hx] at g0 g1 g2 hl7 hC7 HX HIC
        have HC7 := Aside0.mk hC7
        have G0 := Aside0.mk g0
        have G1 := Aside0.mk g1
        have G2 := Aside0.mk g2
        clear hx hC7 g0 g1 g2
        go_wp2
        go_loopg [10, 11] r.length (fun kx s10 s11 wr2 => ∃ q : Nat, q + kx = r.length ∧ s10 = .int .i64 (lastIx (takesL h x.f0) r q) ∧ s11 = .int .i64 q ∧ Aside0 (Below w4.heap.size w4 wr2))
        case atStart => exact ⟨0, by omega, rfl, rfl, HB⟩
        case round =>
          clear HB
          obtain ⟨q, hq, rfl, rfl, HB⟩ := hrel
          by_cases hqt : q < r.length
          · have hqz : (q : Int) < (r.length : Int) := by omega
            obtain ⟨ad9, A9, c9, hA9, o0, o1, o2, _, _, _, _⟩ := at_R29 HRO.out q (by omega) (by omega)
            cases hA9
            rw [Int.toNat_natCast] at o0 o1 o2
            replace o0 := (HB.out.cell (World.block_lt_of_cell? w4 _ o0)).trans o0
            replace o1 := (HB.out.cell (World.block_lt_of_cell? w4 _ o1)).trans o1
            replace o2 := (HB.out.cell (World.block_lt_of_cell? w4 _ o2)).trans o2
            have g0 := (HB.out.cell (World.block_lt_of_cell? w4 _ G0.out)).trans G0.out
            obtain ⟨nn, hnn⟩ : ∃ nn, nn = rd_T29 r q := ⟨_, rfl⟩
            rw [← hnn] at o0 o1 o2
            have HN := Aside0.mk hnn
            clear hnn
            obtain ⟨lq, hlq⟩ : ∃ lq, lq = lastIx (takesL h x.f0) r q := ⟨_, rfl⟩
            rw [← hlq]
            have HLQ := Aside0.mk hlq
            clear hlq
            by_cases e1 : nn.f2.f0 = x.f0
            · rw [e1] at o2
              have E1 := Aside0.mk e1
              clear e1
              by_cases e2 : nn.f1 ≤ h
              · by_cases e3 : 0 ≤ nn.f0
                · by_cases e4 : nn.f0 < 3
                  · have HT : Aside0 (lastIx (takesL h x.f0) r (q + 1) = q) := ⟨lastIx_yes (by rw [← HN.out]; unfold takesL; rw [E1.out, decide_eq_true rfl, adm_yes e2 e3 e4]; rfl)⟩
                    go_wp2_with fail
                    go_quiet (fail)
                    rename_i nq
                    go_wp2
                    go_roundg (r.length - (q + 1))
                    case measure => omega
                    case rel => exact ⟨q + 1, by omega, by rw [HT.out], by simp, ⟨pw_below_drewN HB.out nq⟩⟩
                  · have e4' : 3 ≤ nn.f0 := by omega
                    have HT : Aside0 (lastIx (takesL h x.f0) r (q + 1) = lq) := ⟨by rw [HLQ.out]; exact lastIx_no (by rw [← HN.out]; unfold takesL; rw [adm_no (.inr (.inr e4')), Bool.and_false])⟩
                    go_wp2_with fail
                    go_quiet (fail)
                    rename_i nq
                    go_wp2
                    go_roundg (r.length - (q + 1))
                    case measure => omega
                    case rel => exact ⟨q + 1, by omega, by rw [HT.out], by simp, ⟨pw_below_drewN HB.out nq⟩⟩
                · have e3' : nn.f0 < 0 := by omega
                  have d1 : decide (nn.f0 ≥ 0) = false := decide_eq_false (by omega)
                  have d2 : decide (0 ≤ nn.f0) = false := decide_eq_false (by omega)
                  clear e3
                  have HT : Aside0 (lastIx (takesL h x.f0) r (q + 1) = lq) := ⟨by rw [HLQ.out]; exact lastIx_no (by rw [← HN.out]; unfold takesL; rw [adm_no (.inr (.inl e3')), Bool.and_false])⟩
                  clear e3'
                  go_wp2_with fail
                  go_quiet (fail)
                  rename_i nq
                  go_wp2
                  go_roundg (r.length - (q + 1))
                  case measure => omega
                  case rel => exact ⟨q + 1, by omega, by rw [HT.out], by simp, ⟨pw_below_drewN HB.out nq⟩⟩
              · have e2' : h < nn.f1 := by omega
                have d1 : decide (nn.f1 ≤ h) = false := decide_eq_false (by omega)
                clear e2
                have HT : Aside0 (lastIx (takesL h x.f0) r (q + 1) = lq) := ⟨by rw [HLQ.out]; exact lastIx_no (by rw [← HN.out]; unfold takesL; rw [adm_no (.inl e2'), Bool.and_false])⟩
                clear e2'
                go_wp2_with fail
                go_quiet (fail)
                rename_i nq
                go_wp2
                go_roundg (r.length - (q + 1))
                case measure => omega
                case rel => exact ⟨q + 1, by omega, by rw [HT.out], by simp, ⟨pw_below_drewN HB.out nq⟩⟩
            · have hbe : (nn.f2.f0 == x.f0) = false := beq_false_of_ne e1
              have E1 := Aside0.mk e1
              clear e1
              have HT : Aside0 (lastIx (takesL h x.f0) r (q + 1) = lq) := ⟨by rw [HLQ.out]; exact lastIx_no (by rw [← HN.out]; unfold takesL; rw [decide_eq_false E1.out, Bool.false_and])⟩
              go_wp2_with fail
              go_quiet (fail)
              rename_i nq
              go_wp2
              go_roundg (r.length - (q + 1))
              case measure => omega
              case rel => exact ⟨q + 1, by omega, by rw [HT.out], by simp, ⟨pw_below_drewN HB.out nq⟩⟩
          · obtain rfl : q = r.length := by omega
            obtain ⟨jj, hjj, ej, hk2, hcast⟩ := HX.out
            rw [ej]
            obtain ⟨ad9, A9, c9, hA9, o0, _, o2, o3, o4, hl9, hC9⟩ := at_R29 HRO.out jj (by omega) (by omega)
            cases hA9
            rw [Int.toNat_natCast] at o0 o2 o3 o4
            obtain ⟨nn, hnn⟩ : ∃ nn, nn = rd_T29 r jj := ⟨_, rfl⟩
            rw [← hnn] at o0 o2 o3 o4 hl9 hC9 hk2 hcast
            rw [hcast] at o2 o3 o4 hl9 hC9
            obtain ⟨kd, hkd⟩ : ∃ kd, kd = nn.f0 := ⟨_, rfl⟩
            rw [← hkd] at o0 hk2
            have HC9 := Aside0.mk hC9
            have hbk : (kd == 2) = false := beq_false_of_ne hk2
            have hjn : ¬ (jj : Int) < 0 := by omega
            have hjz : (jj : Int) < (r.length : Int) := by omega
            replace o0 := (HB.out.cell (World.block_lt_of_cell? w4 _ o0)).trans o0
            have HS0 : Aside0 (SixAt wr wr (ad9.add (jj * 5)) (ad6.add (j * 3)) (.int .i64 x.f0) (.int .i64 x.f1) (.slice A9 x.f2.length c9) (.int .i64 x.f0) (.int .i64 x.f1) (.slice A7 x.f2.length c7)) :=
              ⟨⟨Below.refl _ _, (HB.out.cell (World.block_lt_of_cell? w4 _ o2)).trans o2, (HB.out.cell (World.block_lt_of_cell? w4 _ o3)).trans o3, (HB.out.cell (World.block_lt_of_cell? w4 _ o4)).trans o4, (HB.out.cell (World.block_lt_of_cell? w4 _ G0.out)).trans G0.out, (HB.out.cell (World.block_lt_of_cell? w4 _ G1.out)).trans G1.out, (HB.out.cell (World.block_lt_of_cell? w4 _ G2.out)).trans G2.out⟩⟩
            have HBW := Aside0.mk (HB4.out.trans (HB.out.mono HB4.out.size))
            have HSM := Aside0.mk (Same_eq x x HIC.out HIC.out 1400000 (by omega))
            rw [beq_self_eq_true] at HSM
            clear hcast hkd hnn ej hk2 o2 o3 o4 hC9 HRA HRO HPM HST HOK HR
            go_upto_region 20 with fail
            clear o0 hbk
            go_region_held3 (fun w' => Below wr.heap.size wr w' ∧ w'.cell? ⟨(ad9.add (jj * 5)).block, (ad9.add (jj * 5)).off + 2, none⟩ = some (.int .i64 x.f0) ∧ w'.cell? ⟨(ad9.add (jj * 5)).block, (ad9.add (jj * 5)).off + 3, none⟩ = some (.int .i64 x.f1) ∧ w'.cell? ⟨(ad9.add (jj * 5)).block, (ad9.add (jj * 5)).off + 4, none⟩ = some (.slice A9 x.f2.length c9) ∧ w'.cell? (ad6.add (j * 3)) = some (.int .i64 x.f0) ∧ w'.cell? ⟨(ad6.add (j * 3)).block, (ad6.add (j * 3)).off + 1, none⟩ = some (.int .i64 x.f1) ∧ w'.cell? ⟨(ad6.add (j * 3)).block, (ad6.add (j * 3)).off + 2, none⟩ = some (.slice A7 x.f2.length c7)) (first | assumption | exact SixAt.step (below_drew1 (Below.refl _ _)) HS0.out | exact SixAt.step hb (by assumption))
              (first | (go_at_call 23; (with_reducible refine (bourneref29_Same.calls 1400000 x.f0 x.f1 A9 c9 x.f2 x.f0 x.f1 A7 c7 x.f2 true _ (Kd.C_below HC9.out (sixBelow HBW.out (by assumption))) hl9 (Kd.C_below HC7.out (sixBelow HBW.out (by assumption))) hl7 HSM.out).mono ?_); rintro e w' ⟨rfl, hb⟩))
            all_goals
              rename_i hHeld
              obtain ⟨hbS, _, _, _, _, _, _⟩ := hHeld
              have HBS := Aside0.mk (HB.out.trans (hbS.mono HB.out.size))
              clear hbS
              go_wp2
              go_roundg (al.length - (j + 1))
              case measure => omega
              case rel => exact ⟨j + 1, by omega, by simp, HBS⟩
    · have hltz : ¬ (j : Int) < (al.length : Int) := by omega
      have h32 : (al.length : Int) ≤ 32 := by omega
      go_wp2
      go_ret
      exact ⟨by first | rfl | simp, HB4.out.trans (HB.out.mono HB4.out.size)⟩

theorem Last_calls (A : Option Addr) (c : Nat) (l : List S29) (h : Int) (w : World) (hr : Kd.C k29 w A l.length l) (hc : l.length ≤ c) (hcn : A = none → c = 0) (hw : ∀ x ∈ l, WfN x) (hh : IsI h) :
    Calls Try.prog 7 #[.slice A l.length c, .int .i64 h] w fun e w' => e = .returned (.bool true) ∧ Below w.heap.size w w' := by
  cases hf : fewB l with
  | false => exact Last_few A c l h w hr hc hf
  | true =>
    obtain ⟨hok, hl⟩ := fewB_ok hf hw
    exact Last_in A c l h w hr hc hcn hok hl hh hf
end Go.Proofs.Ytehieahpocbboaa.G
