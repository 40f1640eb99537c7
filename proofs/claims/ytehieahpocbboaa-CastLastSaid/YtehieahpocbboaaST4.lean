import Derived.Deep.DeepCutAuto
import Derived.Deep.CutBlock
import Derived.Test.YtehieahpocbboaaST3
namespace Go.Proofs.Ytehieahpocbboaa.ST
open Go.Shelf Go.RowKit Go.Lib Go.Sort
set_option linter.unusedVariables false
set_option linter.unusedSimpArgs false
variable {P : Program} {α : Type} [Inhabited α]

set_option maxHeartbeats 8000000 in
set_option maxRecDepth 1000000 in
theorem symMerge (k : Nat) (L : StL P k) (enc : α → List Value) (cf : α → α → Int) (g : Nat) (cb : Array Value) (blk off cap : Nat) (d0 : Array α) (w0 : World)
    (eg : ∀ args w, (callFunc g args).run P w = .ok (.enter g args) w) (hcmp : CmpB P g cb enc k cf blk off d0.size w0) (hO : SWO (ltOf cf))
    (R : RowK enc k w0 blk off d0) (hsz0 : d0.size < 4611686018427387904) : ∀ (N : Nat),
    ∀ (a m b : Nat) (d : Array α) (w : World), b - a ≤ N → d0.size = d.size → SB enc k w0 blk off d w → a < m → m < b → b ≤ d.size → SortedIn (ltOf cf) a m d → SortedIn (ltOf cf) m b d →
      Calls P 71 #[.slice (some ⟨blk, off, none⟩) d.size cap, .int .i64 a, .int .i64 m, .int .i64 b, .func (.func g) #[] cb] w fun e w' => e = .returned (.tuple #[]) ∧ ∃ d' : Array α, SB enc k w0 blk off d' w' ∧ PermIn a b d d' ∧ SortedIn (ltOf cf) a b d' := by
  intro N
  induction N with
  | zero => intro a m b d w hN _ _ h1 h2; omega
  | succ N ih =>
  intro a m b d w hN hs S ham hmb hb hl hr
  have hsz : d.size < 4611686018427387904 := by omega
  by_cases c1 : m = a + 1
  · exact symMerge1 k L enc cf g cb blk off cap a m b d0 d w0 w eg hcmp hO R hs S c1 hmb hb hsz hr
  by_cases c2 : b = m + 1
  · exact symMerge2 k L enc cf g cb blk off cap a m b d0 d w0 w eg hcmp hO R hs S (by omega) c2 hb hsz hl
  have IH : Aside _ := ih
  have mixed := L.mixed; have t0 := L.t0; have a0 := L.a0; have z0 := L.z0; have v0 := L.v0; have t3 := L.t3; have a3 := L.a3; have z3 := L.z3; have v3 := L.v3; have t4 := L.t4; have a4 := L.a4; have z4 := L.z4; have v4 := L.v4; have t22 := L.t22; have a22 := L.a22; have z22 := L.z22; have v22 := L.v22; have t87 := L.t87; have a87 := L.a87; have z87 := L.z87; have v87 := L.v87; have t82 := L.t82; have a82 := L.a82; have z82 := L.z82; have v82 := L.v82; have aE := L.aE; have zE := L.zE
  have FG := L.f71
  have e71 : ∀ args w, (callFunc 71 args).run P w = .ok (.enter 71 args) w := enters_of L.f71 (by kernel_rfl) rfl
  have e79 : ∀ args w, (callFunc 79 args).run P w = .ok (.enter 79 args) w := enters_of L.f79 (by kernel_rfl) rfl
  have LL : Aside (StL P k) := L
  have S0 : Aside (SB enc k w0 blk off d w) := S
  have HC : Aside _ := hcmp
  have HO : Aside (SWO (ltOf cf)) := hO
  have HL : Aside (SortedIn (ltOf cf) a m d) := hl
  have HS : Aside (SortedIn (ltOf cf) m b d) := hr
  clear ih S L hcmp hO hr hl
  have ham1 : a + 1 < m := by omega
  have hmb1 : m + 1 < b := by omega
  clear c1 c2
  have hb1 : ((m : Int) - (a : Int) == 1) = false := by rw [beq_eq_false_iff_ne]; omega
  have hb2 : ((b : Int) - (m : Int) == 1) = false := by rw [beq_eq_false_iff_ne]; omega
  have hm1 : ¬ (m : Int) - (a : Int) = 1 := by omega
  have hm2 : ¬ (b : Int) - (m : Int) = 1 := by omega
  obtain ⟨mid, hmid, hma, hmb', HMID⟩ : ∃ mid : Nat, ((a : Int) + (b : Int)) / 2 = (mid : Int) ∧ 2 * mid ≤ a + b ∧ a + b ≤ 2 * mid + 1 ∧ Aside (mid = (a + b) / 2) := ⟨(a + b) / 2, by omega, by omega, by omega, rfl⟩
  go_enter FG, Try.ntmps71
  go_upto_if 140 with fail
  go_cut [20, 21] (fun v20 v21 wc => wc = w ∧ ∃ lo hi : Nat, v20 = .int .i64 lo ∧ v21 = .int .i64 hi ∧ Aside ((mid < m ∧ lo = mid + m - b ∧ hi = mid) ∨ (m ≤ mid ∧ lo = a ∧ hi = m)))
  case first =>
    as_aux_lemma =>
    by_cases hgt : mid < m
    · have hgz : (mid : Int) < (m : Int) := by omega
      go_wp2
      go_meet
      case rel => exact ⟨rfl, mid + m - b, mid, by congr 1; omega, rfl, Or.inl ⟨hgt, rfl, rfl⟩⟩
    · have hgz : ¬ (mid : Int) < (m : Int) := by omega
      go_wp2
      go_meet
      case rel => exact ⟨rfl, a, m, rfl, rfl, Or.inr ⟨by omega, rfl, rfl⟩⟩
  case rest =>
    obtain ⟨rfl, lo, hi, rfl, rfl, HLH⟩ := hcut
    have hlo1 : a ≤ lo := by have := HLH.out; omega
    have hhi1 : hi ≤ m := by have := HLH.out; omega
    have hlh : lo ≤ hi := by have := HLH.out; omega
    have hn1 : m + hi ≤ mid + m := by have := HLH.out; omega
    have hn2 : mid + m ≤ b + lo := by have := HLH.out; omega
    go_wp2
    go_loopg [20, 21] (hi - lo) (fun kx s20 s21 wr => ∃ (s r : Nat), s20 = .int .i64 s ∧ s21 = .int .i64 r ∧ lo ≤ s ∧ s ≤ r ∧ r ≤ hi ∧ r - s ≤ kx ∧ Aside (SB enc k w0 blk off d wr) ∧ Hid (∀ x, lo ≤ x → x < s → ltOf cf d[mid + m - 1 - x]! d[x]! = false) ∧ Hid (∀ x, r ≤ x → x < hi → ltOf cf d[mid + m - 1 - x]! d[x]! = true))
    case atStart => exact ⟨lo, hi, rfl, rfl, Nat.le_refl _, hlh, Nat.le_refl _, Nat.le_refl _, S0, fun x h1 h2 => by omega, fun x h1 h2 => by omega⟩
    case round =>
      clear S0
      obtain ⟨s, r, rfl, rfl, hms, hsr, hrh, hkx, S1, H1, H2⟩ := hrel
      by_cases hlt : s < r
      · as_aux_lemma =>
        have hltz : (s : Int) < (r : Int) := by omega
        obtain ⟨h, hh, hih, hhj⟩ : ∃ h : Nat, ((s : Int) + (r : Int)) / 2 = (h : Int) ∧ s ≤ h ∧ h < r := ⟨(s + r) / 2, by omega, by omega, by omega⟩
        go_wp2_with fail
        clear hh
        obtain ⟨u, hu, HU⟩ : ∃ u : Nat, (mid : Int) + (m : Int) - 1 - (h : Int) = (u : Int) ∧ Aside (u = mid + m - 1 - h) := ⟨mid + m - 1 - h, by omega, rfl⟩
        have hub : u < d.size := by have := HU.out; omega
        have eaqi : ((u : Int)).toNat = u := by omega
        have paqi : (0 : Int) ≤ (u : Int) := by omega
        have baqi : (u : Int) < (d.size : Int) := by omega
        have raqi : IntKind.i64.wrap ((u : Int)) = (u : Int) := by rw [IntKind.wrap_i64]; omega
        have eaqj : ((h : Int)).toNat = h := by omega
        have paqj : (0 : Int) ≤ (h : Int) := by omega
        have baqj : (h : Int) < (d.size : Int) := by omega
        have raqj : IntKind.i64.wrap ((h : Int)) = (h : Int) := by rw [IntKind.wrap_i64]; omega
        obtain ⟨xq, hxq⟩ : ∃ x, x = d[u]! := ⟨_, rfl⟩
        obtain ⟨yq, hyq⟩ : ∃ x, x = d[h]! := ⟨_, rfl⟩
        have lqa := S1.out.ld R (by omega) P (u) (by omega)
        have lqb := S1.out.ld R (by omega) P (h) (by omega)
        rw [← hxq] at lqa
        rw [← hyq] at lqb
        have hcq := S1.out.cmp HC.out (by omega) xq yq
        have HX : Aside (xq = d[u]! ∧ yq = d[h]!) := ⟨hxq, hyq⟩
        clear hxq hyq
        by_cases hvq : cf xq yq < 0
        · have hdq : decide (cf xq yq < 0) = true := decide_eq_true hvq
          refine region_sd (by assumption) (by kernel_rfl) ?_
          repeat (quiet_step (first | (go_at_fn g; refine hcq _ _)))
          refine wpQuiet_nil ?_
          intro _ hw'
          obtain ⟨⟨nq, osq⟩, hw''⟩ := hw'
          subst hw''
          have S2 : Aside (SB enc k w0 blk off d (grow (sd wr nq) osq)) := S1.out.grown nq osq
          clear lqa lqb hcq S1
          generalize grow (sd wr nq) osq = w2 at S2 ⊢
          clear nq osq
          go_wp2
          have hn : ltOf cf d[mid + m - 1 - h]! d[h]! = true := by rw [← HU.out, ← HX.out.1, ← HX.out.2]; exact decide_eq_true hvq
          go_roundg (h - s)
          case measure => omega
          case rel => exact ⟨s, h, rfl, rfl, hms, hih, by omega, Nat.le_refl _, S2, H1, sym_dn HO.out HL.out HS.out hlo1 hhi1 (by omega) (by omega) hn1 hn2 hn⟩
        · have hdq : decide (cf xq yq < 0) = false := decide_eq_false hvq
          refine region_sd (by assumption) (by kernel_rfl) ?_
          repeat (quiet_step (first | (go_at_fn g; refine hcq _ _)))
          refine wpQuiet_nil ?_
          intro _ hw'
          obtain ⟨⟨nq, osq⟩, hw''⟩ := hw'
          subst hw''
          have S2 : Aside (SB enc k w0 blk off d (grow (sd wr nq) osq)) := S1.out.grown nq osq
          clear lqa lqb hcq S1
          generalize grow (sd wr nq) osq = w2 at S2 ⊢
          clear nq osq
          go_wp2
          have hn : ltOf cf d[mid + m - 1 - h]! d[h]! = false := by rw [← HU.out, ← HX.out.1, ← HX.out.2]; exact decide_eq_false (by omega)
          go_roundg (r - (h + 1))
          case measure => omega
          case rel => exact ⟨h + 1, r, by simp, rfl, by omega, by omega, hrh, Nat.le_refl _, S2, sym_up HO.out HL.out HS.out hlo1 hhi1 (by omega) (by omega) hn1 hn2 hn, H2⟩
      · have hltz : ¬ (s : Int) < (r : Int) := by omega
        obtain rfl : s = r := by omega
        clear hkx
        -- the end of the rotation
        obtain ⟨e, he, HE⟩ : ∃ e : Nat, (mid : Int) + (m : Int) - (s : Int) = (e : Int) ∧ Aside (e = mid + m - s) := ⟨mid + m - s, by omega, rfl⟩
        have hme : m ≤ e := by have := HE.out; omega
        have hmide : mid ≤ e := by have := HE.out; omega
        have heb : e ≤ b := by have := HE.out; omega
        have hsm : s ≤ m := by omega
        have hsmid : s ≤ mid := by have := HLH.out; omega
        go_upto_region 39 with fail
        go_cut [185] (fun v wc => wc = wr ∧ v = .bool (decide (s < m ∧ m < e)))
        case first =>
          as_aux_lemma =>
          by_cases q1 : s < m
          · have q1z : (s : Int) < (m : Int) := by omega
            by_cases q2 : m < e
            · have q2z : (m : Int) < (e : Int) := by omega
              go_wp2
              go_meet
              case rel => exact ⟨rfl, by rw [decide_eq_true ⟨q1, q2⟩]⟩
            · have q2z : ¬ (m : Int) < (e : Int) := by omega
              go_wp2
              go_meet
              case rel => exact ⟨rfl, by rw [decide_eq_false (fun h => q2 h.2)]⟩
          · have q1z : ¬ (s : Int) < (m : Int) := by omega
            go_wp2
            go_meet
            case rel => exact ⟨rfl, by rw [decide_eq_false (fun h => q1 h.1)]⟩
        case rest =>
        obtain ⟨rfl, rfl⟩ := hcut
        go_upto_if 185 with fail
        go_cut [] (fun wc => ∃ d1 : Array α, d1.size = d.size ∧ Aside (SB enc k w0 blk off d1 wc) ∧ Hid (PermIn a b d d1) ∧ Hid (Rot d s m e d1))
        case first =>
          as_aux_lemma =>
          by_cases q0 : s < m ∧ m < e
          · have q0d : decide (s < m ∧ m < e) = true := decide_eq_true q0
            have hc := rotate (P := P) k LL.out enc g cb blk off cap s m e d0 d w0 wc R hs S1.out q0.1 q0.2 (by omega) hsz
            clear S1
            rw [q0d]
            go_wp2_with (go_at_fn 79; refine hc.mono ?_; rintro e1 w1 ⟨rfl, d1, S3, hR, hP⟩)
            go_meet
            case rel => exact ⟨d1, hP.1, S3, permIn_mono _ _ _ _ _ _ (by omega) (by omega) hb hP, hR⟩
          · have q0d : decide (s < m ∧ m < e) = false := decide_eq_false q0
            rw [q0d]
            go_wp2
            go_meet
            case rel => exact ⟨d, rfl, S1, permIn_refl d a b, Rot.triv d s m e (by omega) hsm hme⟩
        case rest =>
          clear S1
          obtain ⟨d1, hd1, S1, HP, HR⟩ := hcut
          have HALL : Aside (SortedIn (ltOf cf) a s d1 ∧ SortedIn (ltOf cf) s ((a + b) / 2) d1 ∧ SortedIn (ltOf cf) ((a + b) / 2) ((a + b) / 2 + m - s) d1 ∧ SortedIn (ltOf cf) ((a + b) / 2 + m - s) b d1 ∧ ∀ p q, a ≤ p → p < (a + b) / 2 → (a + b) / 2 ≤ q → q < b → ltOf cf d1[q]! d1[p]! = false) := by
            have hmidE := HMID.out
            have heE := HE.out
            have hlhE := HLH.out
            subst hmidE heE
            exact sym_halves HO.out HL.out HS.out (by omega) hmb hlhE hms hrh H1.out H2.out HR.out
          clear H1 H2 HR
          go_upto_region 41 with fail
          go_cut [199] (fun v wc' => wc' = wc ∧ v = .bool (decide (a < s ∧ s < mid)))
          case first =>
            as_aux_lemma =>
            by_cases q1 : a < s
            · have q1z : (a : Int) < (s : Int) := by omega
              by_cases q2 : s < mid
              · have q2z : (s : Int) < (mid : Int) := by omega
                go_wp2
                go_meet
                case rel => exact ⟨rfl, by rw [decide_eq_true ⟨q1, q2⟩]⟩
              · have q2z : ¬ (s : Int) < (mid : Int) := by omega
                go_wp2
                go_meet
                case rel => exact ⟨rfl, by rw [decide_eq_false (fun h => q2 h.2)]⟩
            · have q1z : ¬ (a : Int) < (s : Int) := by omega
              go_wp2
              go_meet
              case rel => exact ⟨rfl, by rw [decide_eq_false (fun h => q1 h.1)]⟩
          case rest =>
          obtain ⟨rfl, rfl⟩ := hcut
          go_upto_if 199 with fail
          go_cut [] (fun wc => ∃ d2 : Array α, d2.size = d.size ∧ Aside (SB enc k w0 blk off d2 wc) ∧ Hid (PermIn a mid d1 d2) ∧ Hid (SortedIn (ltOf cf) a mid d2))
          case first =>
            as_aux_lemma =>
            by_cases q0 : a < s ∧ s < mid
            · have q0d : decide (a < s ∧ s < mid) = true := decide_eq_true q0
              have hc := IH.out a s mid d1 wc (by omega) (by omega) S1.out q0.1 q0.2 (by omega) HALL.out.1 (by have := HALL.out.2.1; have e2 := HMID.out; rw [← e2] at this; exact this)
              rw [hd1] at hc
              clear S1
              rw [q0d]
              go_wp2_with (go_at_fn 71; refine hc.mono ?_; rintro e1 w1 ⟨rfl, d2, S3, hP, hS⟩)
              go_meet
              case rel => exact ⟨d2, by rw [hP.1, hd1], S3, hP, hS⟩
            · have q0d : decide (a < s ∧ s < mid) = false := decide_eq_false q0
              rw [q0d]
              go_wp2
              go_meet
              case rel =>
                refine ⟨d1, hd1, S1, permIn_refl d1 a mid, ?_⟩
                have h1 := HALL.out.1
                have h2 := HALL.out.2.1
                have e2 := HMID.out
                rw [← e2] at h2
                rcases (show s = a ∨ s = mid by omega) with e3 | e3
                · rw [e3] at h2; exact h2
                · rw [e3] at h1; exact h1
          case rest =>
            clear S1
            obtain ⟨d2, hd2, S1, HP2, HS2⟩ := hcut
            have HR1 : Aside (SortedIn (ltOf cf) mid e d2 ∧ SortedIn (ltOf cf) e b d2) := by
              obtain ⟨_, _, h3, h4, _⟩ := HALL.out
              have e2 := HMID.out
              have e3 := HE.out
              rw [← e2, ← e3] at h3
              rw [← e2, ← e3] at h4
              refine ⟨fun i j h5 h6 h7 => ?_, fun i j h5 h6 h7 => ?_⟩
              · rw [HP2.out.2.1 i (Or.inr h5), HP2.out.2.1 j (Or.inr (by omega))]; exact h3 i j h5 h6 h7
              · rw [HP2.out.2.1 i (Or.inr (by omega)), HP2.out.2.1 j (Or.inr (by omega))]; exact h4 i j h5 h6 h7
            have fin : ∀ d3 : Array α, PermIn mid b d2 d3 → SortedIn (ltOf cf) mid b d3 → PermIn a b d d3 ∧ SortedIn (ltOf cf) a b d3 := fun d3 h1 h2 => by
              have e2 := HMID.out
              refine ⟨permIn_trans _ _ _ _ _ HP.out (permIn_trans _ _ _ _ _ (permIn_mono _ _ _ _ _ _ (Nat.le_refl _) (by omega) (by omega) HP2.out) (permIn_mono _ _ _ _ _ _ (by omega) (Nat.le_refl _) (by omega) h1)), ?_⟩
              refine join_halves HO.out (d1 := d1) (d2 := d2) (mid := mid) (by omega) (by omega) (by omega) (fun p q h3 h4 h5 h6 => ?_) HP2.out HS2.out h1 h2
              exact HALL.out.2.2.2.2 p q h3 (by omega) (by omega) h6
            have FIN : Aside _ := fin
            clear fin HP HP2 HS2 HALL
            by_cases q1 : mid < e
            · have q1z : (mid : Int) < (e : Int) := by omega
              by_cases q2 : e < b
              · as_aux_lemma =>
                have q2z : (e : Int) < (b : Int) := by omega
                have hc := IH.out mid e b d2 wc (by omega) (by omega) S1.out q1 q2 (by omega) HR1.out.1 HR1.out.2
                rw [hd2] at hc
                clear S1
                go_wp2_with (go_at_fn 71; refine hc.mono ?_; rintro e1 w1 ⟨rfl, d3, S3, hP, hS⟩)
                go_end0
                exact ⟨rfl, d3, S3, FIN.out d3 hP hS⟩
              · as_aux_lemma =>
                have q2z : ¬ (e : Int) < (b : Int) := by omega
                go_wp2
                go_end0
                exact ⟨rfl, d2, S1.out, FIN.out d2 (permIn_refl d2 mid b) (by have := HR1.out.1; rwa [show e = b by omega] at this)⟩
            · as_aux_lemma =>
              have q1z : ¬ (mid : Int) < (e : Int) := by omega
              go_wp2
              go_end0
              exact ⟨rfl, d2, S1.out, FIN.out d2 (permIn_refl d2 mid b) (by have := HR1.out.2; rwa [show e = mid by omega] at this)⟩
end Go.Proofs.Ytehieahpocbboaa.ST
