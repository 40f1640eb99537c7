import Derived.Test.YtehieahpocbboaaST2
namespace Go.Proofs.Ytehieahpocbboaa.ST
open Go.Shelf Go.RowKit Go.Lib Go.Sort
set_option linter.unusedVariables false
set_option linter.unusedSimpArgs false
variable {P : Program} {α : Type} [Inhabited α]

set_option maxHeartbeats 8000000 in
set_option maxRecDepth 1000000 in
theorem symMerge1 (k : Nat) (L : StL P k) (enc : α → List Value) (cf : α → α → Int) (g : Nat) (cb : Array Value) (blk off cap a m b : Nat) (d0 d : Array α) (w0 w : World)
    (eg : ∀ args w, (callFunc g args).run P w = .ok (.enter g args) w) (hcmp : CmpB P g cb enc k cf blk off d0.size w0) (hO : SWO (ltOf cf))
    (R : RowK enc k w0 blk off d0) (hs : d0.size = d.size) (S : SB enc k w0 blk off d w) (ham : m = a + 1) (hmb : m < b) (hb : b ≤ d.size) (hsz : d.size < 4611686018427387904) (hr : SortedIn (ltOf cf) m b d) :
    Calls P 71 #[.slice (some ⟨blk, off, none⟩) d.size cap, .int .i64 a, .int .i64 m, .int .i64 b, .func (.func g) #[] cb] w fun e w' => e = .returned (.tuple #[]) ∧ ∃ d' : Array α, SB enc k w0 blk off d' w' ∧ PermIn a b d d' ∧ SortedIn (ltOf cf) a b d' := by
  have mixed := L.mixed; have t0 := L.t0; have a0 := L.a0; have z0 := L.z0; have v0 := L.v0; have t3 := L.t3; have a3 := L.a3; have z3 := L.z3; have v3 := L.v3; have t4 := L.t4; have a4 := L.a4; have z4 := L.z4; have v4 := L.v4; have t22 := L.t22; have a22 := L.a22; have z22 := L.z22; have v22 := L.v22; have t87 := L.t87; have a87 := L.a87; have z87 := L.z87; have v87 := L.v87; have t82 := L.t82; have a82 := L.a82; have z82 := L.z82; have v82 := L.v82; have aE := L.aE; have zE := L.zE
  have FG := L.f71
  have S0 : Aside (SB enc k w0 blk off d w) := S
  have HC : Aside _ := hcmp
  have HO : Aside (SWO (ltOf cf)) := hO
  have HS : Aside (SortedIn (ltOf cf) m b d) := hr
  clear S L hcmp hO hr
  have hm1 : (m : Int) - (a : Int) = 1 := by omega
  have HM : Aside (m = a + 1) := ham
  have ham1 : a + 1 ≤ m := by omega
  have ham2 : m ≤ a + 1 := by omega
  clear ham
  go_enter FG, Try.ntmps71
  go_wp2
  go_loopg [10, 11] (b - m) (fun kx s10 s11 wr => ∃ (i j : Nat), s10 = .int .i64 i ∧ s11 = .int .i64 j ∧ m ≤ i ∧ i ≤ j ∧ j ≤ b ∧ j - i ≤ kx ∧ Aside (SB enc k w0 blk off d wr) ∧ Hid (∀ x, m ≤ x → x < i → ltOf cf d[x]! d[a]! = true) ∧ Hid (∀ x, j ≤ x → x < b → ltOf cf d[x]! d[a]! = false))
  case atStart => exact ⟨m, b, rfl, rfl, Nat.le_refl _, by omega, Nat.le_refl _, Nat.le_refl _, S0, fun x h1 h2 => by omega, fun x h1 h2 => by omega⟩
  case round =>
    clear S0
    obtain ⟨i, j, rfl, rfl, hmi, hij, hjb, hkx, S1, H1, H2⟩ := hrel
    by_cases hlt : i < j
    · have hltz : (i : Int) < (j : Int) := by omega
      obtain ⟨h, hh, hih, hhj⟩ : ∃ h : Nat, ((i : Int) + (j : Int)) / 2 = (h : Int) ∧ i ≤ h ∧ h < j := ⟨(i + j) / 2, by omega, by omega, by omega⟩
      go_wp2_with fail

      clear hh
      have eaqi : ((h : Int)).toNat = h := by omega
      have paqi : (0 : Int) ≤ (h : Int) := by omega
      have baqi : (h : Int) < (d.size : Int) := by omega
      have raqi : IntKind.i64.wrap ((h : Int)) = (h : Int) := by rw [IntKind.wrap_i64]; omega
      have eaqj : ((a : Int)).toNat = a := by omega
      have paqj : (0 : Int) ≤ (a : Int) := by omega
      have baqj : (a : Int) < (d.size : Int) := by omega
      have raqj : IntKind.i64.wrap ((a : Int)) = (a : Int) := by rw [IntKind.wrap_i64]; omega
      obtain ⟨xq, hxq⟩ : ∃ x, x = d[h]! := ⟨_, rfl⟩
      obtain ⟨yq, hyq⟩ : ∃ x, x = d[a]! := ⟨_, rfl⟩
      have lqa := S1.out.ld R (by omega) P (h) (by omega)
      have lqb := S1.out.ld R (by omega) P (a) (by omega)
      rw [← hxq] at lqa
      rw [← hyq] at lqb
      have hcq := S1.out.cmp HC.out (by omega) xq yq
      have HX : Aside (xq = d[h]! ∧ yq = d[a]!) := ⟨hxq, hyq⟩
      clear hxq hyq
      by_cases hvq : cf xq yq < 0
      · have hdq : decide (cf xq yq < 0) = true := decide_eq_true hvq
        refine region_sd (by assumption) (by kernel_rfl) ?_
        repeat (quiet_step (first | (go_at_fn g; refine hcq _ _)))
        refine wpQuiet_nil ?_
        intro _ hw'
        obtain ⟨⟨nq, osq⟩, hw''⟩ := hw'
        subst hw''
        have S2 : Aside (SB enc k w0 blk off d (grow (sd wr nq) osq)) := S1.out.grown nq osq
        clear lqa lqb hcq S1
        generalize grow (sd wr nq) osq = w2 at S2 ⊢
        clear nq osq
        go_wp2
        have hn : ltOf cf d[h]! d[a]! = true := by rw [← HX.out.1, ← HX.out.2]; exact decide_eq_true hvq
        go_roundg (j - (h + 1))
        case measure => omega
        case rel => exact ⟨h + 1, j, by simp, rfl, by omega, by omega, hjb, Nat.le_refl _, S2, up_step HO.out HS.out H1.out hmi hih (by omega) hn, H2⟩
      · have hdq : decide (cf xq yq < 0) = false := decide_eq_false hvq
        refine region_sd (by assumption) (by kernel_rfl) ?_
        repeat (quiet_step (first | (go_at_fn g; refine hcq _ _)))
        refine wpQuiet_nil ?_
        intro _ hw'
        obtain ⟨⟨nq, osq⟩, hw''⟩ := hw'
        subst hw''
        have S2 : Aside (SB enc k w0 blk off d (grow (sd wr nq) osq)) := S1.out.grown nq osq
        clear lqa lqb hcq S1
        generalize grow (sd wr nq) osq = w2 at S2 ⊢
        clear nq osq
        go_wp2
        have hn : ltOf cf d[h]! d[a]! = false := by rw [← HX.out.1, ← HX.out.2]; exact decide_eq_false (by omega)
        go_roundg (h - i)
        case measure => omega
        case rel => exact ⟨i, h, rfl, rfl, hmi, hih, by omega, Nat.le_refl _, S2, H1, dn_step HO.out HS.out (by omega) hn⟩
    · have hltz : ¬ (i : Int) < (j : Int) := by omega
      obtain rfl : i = j := by omega
      clear hkx
      go_wp2_with fail
      go_loopg [13] (i - 1 - a) (fun kx s13 wr => ∃ (q : Nat) (dk : Array α), s13 = .int .i64 q ∧ a ≤ q ∧ q + 1 ≤ i ∧ i - 1 - q ≤ kx ∧ dk.size = d.size ∧ Aside (SB enc k w0 blk off dk wr) ∧ Hid (PermIn a b d dk) ∧ Hid (Rot d a (a + 1) (q + 1) dk))
      case atStart => exact ⟨a, d, rfl, Nat.le_refl _, by omega, Nat.le_refl _, rfl, S1, permIn_refl d a b, Rot.triv d a (a + 1) (a + 1) (Or.inr rfl) (by omega) (by omega)⟩
      case round =>
        clear S1
        obtain ⟨q, dk, rfl, haq, hqi, hkx, hds, S1, HP, HR⟩ := hrel
        by_cases hlt2 : q + 1 < i
        · have hltz2 : (q : Int) < (i : Int) - 1 := by omega
          go_wp2_with fail
          have HQ : Hid (PermIn a b d (swp dk q (q + 1))) := permIn_trans _ _ _ _ _ HP.out (swp_permIn dk a b q (q + 1) (by omega) (by omega) (by omega) (by omega) (by omega))
          have HE : Hid (Rot d a (a + 1) (q + 2) (swp dk q (q + 1))) := Rot.up haq (by omega) HR.out
          clear HP HR
          have easi : ((q : Int)).toNat = q := by omega
          have pasi : (0 : Int) ≤ (q : Int) := by omega
          have basi : (q : Int) < (d.size : Int) := by omega
          have rasi : IntKind.i64.wrap ((q : Int)) = (q : Int) := by rw [IntKind.wrap_i64]; omega
          have easj : ((q : Int) + 1).toNat = q + 1 := by omega
          have pasj : (0 : Int) ≤ (q : Int) + 1 := by omega
          have basj : (q : Int) + 1 < (d.size : Int) := by omega
          have rasj : IntKind.i64.wrap ((q : Int) + 1) = (q : Int) + 1 := by rw [IntKind.wrap_i64]; omega
          have S2 : Aside (SB enc k w0 blk off (swp dk (q) (q + 1)) ((wr.drew.setCells blk (off + (q) * k) (enc dk[q + 1]!)).setCells blk (off + (q + 1) * k) (enc dk[q]!))) := S1.out.swapped R (q) (q + 1) (by omega) (by omega)
          have lsa := S1.out.ld1 R (by omega) P (q) (by omega)
          have lsb := S1.out.ld1 R (by omega) P (q + 1) (by omega)
          have ssa := S1.out.st1 R (by omega) P (q) (by omega) dk[q + 1]!
          have ssb := S1.out.st2 R (by omega) P (q) (q + 1) (by omega) (by omega) dk[q + 1]! dk[q]!
          have nsa : (enc dk[q]!).length = k := R.hk _
          have nsb : (enc dk[q + 1]!).length = k := R.hk _
          generalize enc dk[q]! = cIs at S2 lsa ssb nsa
          generalize enc dk[q + 1]! = cJs at S2 lsb ssa ssb nsb
          clear S1
          go_wp2_with fail
          go_big_region_o
          clear lsa lsb ssa ssb
          generalize (wr.drew.setCells blk (off + (q) * k) cJs).setCells blk (off + (q + 1) * k) cIs = w2 at S2 ⊢
          go_wp2
          go_roundg (i - 1 - (q + 1))
          case measure => omega
          case rel => exact ⟨q + 1, swp dk q (q + 1), by simp, by omega, by omega, Nat.le_refl _, by rw [size_swp]; exact hds, S2, HQ, HE⟩
        · have hltz2 : ¬ (q : Int) < (i : Int) - 1 := by omega
          obtain rfl : i = q + 1 := by omega
          go_wp2
          (try simp only [Exit.inBlock, Exit.then]); refine bodyPost_ret (results_none rfl _ _ _) rfl ?_
          have ham := HM.out
          subst ham
          exact ⟨rfl, dk, S1.out, HP.out, ins_up HO.out HR.out hmi hjb HS.out H1.out H2.out⟩

set_option maxHeartbeats 8000000 in
set_option maxRecDepth 1000000 in
theorem symMerge2 (k : Nat) (L : StL P k) (enc : α → List Value) (cf : α → α → Int) (g : Nat) (cb : Array Value) (blk off cap a m b : Nat) (d0 d : Array α) (w0 w : World)
    (eg : ∀ args w, (callFunc g args).run P w = .ok (.enter g args) w) (hcmp : CmpB P g cb enc k cf blk off d0.size w0) (hO : SWO (ltOf cf))
    (R : RowK enc k w0 blk off d0) (hs : d0.size = d.size) (S : SB enc k w0 blk off d w) (ham : a + 1 < m) (hmb : b = m + 1) (hb : b ≤ d.size) (hsz : d.size < 4611686018427387904) (hr : SortedIn (ltOf cf) a m d) :
    Calls P 71 #[.slice (some ⟨blk, off, none⟩) d.size cap, .int .i64 a, .int .i64 m, .int .i64 b, .func (.func g) #[] cb] w fun e w' => e = .returned (.tuple #[]) ∧ ∃ d' : Array α, SB enc k w0 blk off d' w' ∧ PermIn a b d d' ∧ SortedIn (ltOf cf) a b d' := by
  have mixed := L.mixed; have t0 := L.t0; have a0 := L.a0; have z0 := L.z0; have v0 := L.v0; have t3 := L.t3; have a3 := L.a3; have z3 := L.z3; have v3 := L.v3; have t4 := L.t4; have a4 := L.a4; have z4 := L.z4; have v4 := L.v4; have t22 := L.t22; have a22 := L.a22; have z22 := L.z22; have v22 := L.v22; have t87 := L.t87; have a87 := L.a87; have z87 := L.z87; have v87 := L.v87; have t82 := L.t82; have a82 := L.a82; have z82 := L.z82; have v82 := L.v82; have aE := L.aE; have zE := L.zE
  have FG := L.f71
  have S0 : Aside (SB enc k w0 blk off d w) := S
  have HC : Aside _ := hcmp
  have HO : Aside (SWO (ltOf cf)) := hO
  have HS : Aside (SortedIn (ltOf cf) a m d) := hr
  clear S L hcmp hO hr
  have hm1 : ¬ (m : Int) - (a : Int) = 1 := by omega
  have hb1 : ((m : Int) - (a : Int) == 1) = false := beq_eq_false_iff_ne.2 hm1
  have hm2 : (b : Int) - (m : Int) = 1 := by omega
  have HM : Aside (b = m + 1) := hmb
  have hmb1 : m + 1 ≤ b := by omega
  have hmb2 : b ≤ m + 1 := by omega
  clear hmb
  have hb2 : ((b : Int) - (m : Int) == 1) = true := beq_iff_eq.2 hm2
  go_enter FG, Try.ntmps71
  go_wp2
  (try simp only [hb1])
  (try simp only [hb2])
  go_loopg [14, 15] (m - a) (fun kx s14 s15 wr => ∃ (i j : Nat), s14 = .int .i64 i ∧ s15 = .int .i64 j ∧ a ≤ i ∧ i ≤ j ∧ j ≤ m ∧ j - i ≤ kx ∧ Aside (SB enc k w0 blk off d wr) ∧ Hid (∀ x, a ≤ x → x < i → ltOf cf d[m]! d[x]! = false) ∧ Hid (∀ x, j ≤ x → x < m → ltOf cf d[m]! d[x]! = true))
  case atStart => exact ⟨a, m, rfl, rfl, Nat.le_refl _, by omega, Nat.le_refl _, Nat.le_refl _, S0, fun x h1 h2 => by omega, fun x h1 h2 => by omega⟩
  case round =>
    clear S0
    obtain ⟨i, j, rfl, rfl, hmi, hij, hjb, hkx, S1, H1, H2⟩ := hrel
    by_cases hlt : i < j
    · have hltz : (i : Int) < (j : Int) := by omega
      obtain ⟨h, hh, hih, hhj⟩ : ∃ h : Nat, ((i : Int) + (j : Int)) / 2 = (h : Int) ∧ i ≤ h ∧ h < j := ⟨(i + j) / 2, by omega, by omega, by omega⟩
      go_wp2_with fail

      clear hh
      have eaqi : ((m : Int)).toNat = m := by omega
      have paqi : (0 : Int) ≤ (m : Int) := by omega
      have baqi : (m : Int) < (d.size : Int) := by omega
      have raqi : IntKind.i64.wrap ((m : Int)) = (m : Int) := by rw [IntKind.wrap_i64]; omega
      have eaqj : ((h : Int)).toNat = h := by omega
      have paqj : (0 : Int) ≤ (h : Int) := by omega
      have baqj : (h : Int) < (d.size : Int) := by omega
      have raqj : IntKind.i64.wrap ((h : Int)) = (h : Int) := by rw [IntKind.wrap_i64]; omega
      obtain ⟨xq, hxq⟩ : ∃ x, x = d[m]! := ⟨_, rfl⟩
      obtain ⟨yq, hyq⟩ : ∃ x, x = d[h]! := ⟨_, rfl⟩
      have lqa := S1.out.ld R (by omega) P (m) (by omega)
      have lqb := S1.out.ld R (by omega) P (h) (by omega)
      rw [← hxq] at lqa
      rw [← hyq] at lqb
      have hcq := S1.out.cmp HC.out (by omega) xq yq
      have HX : Aside (xq = d[m]! ∧ yq = d[h]!) := ⟨hxq, hyq⟩
      clear hxq hyq
      by_cases hvq : cf xq yq < 0
      · have hdq : decide (cf xq yq < 0) = true := decide_eq_true hvq
        refine region_sd (by assumption) (by kernel_rfl) ?_
        repeat (quiet_step (first | (go_at_fn g; refine hcq _ _)))
        refine wpQuiet_nil ?_
        intro _ hw'
        obtain ⟨⟨nq, osq⟩, hw''⟩ := hw'
        subst hw''
        have S2 : Aside (SB enc k w0 blk off d (grow (sd wr nq) osq)) := S1.out.grown nq osq
        clear lqa lqb hcq S1
        generalize grow (sd wr nq) osq = w2 at S2 ⊢
        clear nq osq
        go_wp2
        have hn : ltOf cf d[m]! d[h]! = true := by rw [← HX.out.1, ← HX.out.2]; exact decide_eq_true hvq
        go_roundg (h - i)
        case measure => omega
        case rel => exact ⟨i, h, rfl, rfl, hmi, hih, by omega, Nat.le_refl _, S2, H1, dn_step' HO.out HS.out (by omega) hn⟩
      · have hdq : decide (cf xq yq < 0) = false := decide_eq_false hvq
        refine region_sd (by assumption) (by kernel_rfl) ?_
        repeat (quiet_step (first | (go_at_fn g; refine hcq _ _)))
        refine wpQuiet_nil ?_
        intro _ hw'
        obtain ⟨⟨nq, osq⟩, hw''⟩ := hw'
        subst hw''
        have S2 : Aside (SB enc k w0 blk off d (grow (sd wr nq) osq)) := S1.out.grown nq osq
        clear lqa lqb hcq S1
        generalize grow (sd wr nq) osq = w2 at S2 ⊢
        clear nq osq
        go_wp2
        have hn : ltOf cf d[m]! d[h]! = false := by rw [← HX.out.1, ← HX.out.2]; exact decide_eq_false (by omega)
        go_roundg (j - (h + 1))
        case measure => omega
        case rel => exact ⟨h + 1, j, by simp, rfl, by omega, by omega, hjb, Nat.le_refl _, S2, up_step' HO.out HS.out (by omega) hn, H2⟩
    · have hltz : ¬ (i : Int) < (j : Int) := by omega
      obtain rfl : i = j := by omega
      clear hkx
      go_wp2_with fail
      go_loopg [17] (m - i) (fun kx s17 wr => ∃ (q : Nat) (dk : Array α), s17 = .int .i64 q ∧ i ≤ q ∧ q ≤ m ∧ q - i ≤ kx ∧ dk.size = d.size ∧ Aside (SB enc k w0 blk off dk wr) ∧ Hid (PermIn a b d dk) ∧ Hid (Rot d q m (m + 1) dk))
      case atStart => exact ⟨m, d, rfl, by omega, Nat.le_refl _, Nat.le_refl _, rfl, S1, permIn_refl d a b, Rot.triv d m m (m + 1) (Or.inl rfl) (by omega) (by omega)⟩
      case round =>
        clear S1
        obtain ⟨q, dk, rfl, haq, hqi, hkx, hds, S1, HP, HR⟩ := hrel
        by_cases hlt2 : i < q
        · have hltz2 : (i : Int) < (q : Int) := by omega
          go_wp2_with fail
          have HQ : Hid (PermIn a b d (swp dk q (q - 1))) := permIn_trans _ _ _ _ _ HP.out (swp_permIn dk a b q (q - 1) (by omega) (by omega) (by omega) (by omega) (by omega))
          have HE : Hid (Rot d (q - 1) m (m + 1) (swp dk q (q - 1))) := Rot.down (by omega) hqi (by omega) HR.out
          clear HP HR
          have easi : ((q : Int)).toNat = q := by omega
          have pasi : (0 : Int) ≤ (q : Int) := by omega
          have basi : (q : Int) < (d.size : Int) := by omega
          have rasi : IntKind.i64.wrap ((q : Int)) = (q : Int) := by rw [IntKind.wrap_i64]; omega
          have easj : ((q : Int) - 1).toNat = q - 1 := by omega
          have pasj : (0 : Int) ≤ (q : Int) - 1 := by omega
          have basj : (q : Int) - 1 < (d.size : Int) := by omega
          have rasj : IntKind.i64.wrap ((q : Int) - 1) = (q : Int) - 1 := by rw [IntKind.wrap_i64]; omega
          have S2 : Aside (SB enc k w0 blk off (swp dk (q) (q - 1)) ((wr.drew.setCells blk (off + (q) * k) (enc dk[q - 1]!)).setCells blk (off + (q - 1) * k) (enc dk[q]!))) := S1.out.swapped R (q) (q - 1) (by omega) (by omega)
          have lsa := S1.out.ld1 R (by omega) P (q) (by omega)
          have lsb := S1.out.ld1 R (by omega) P (q - 1) (by omega)
          have ssa := S1.out.st1 R (by omega) P (q) (by omega) dk[q - 1]!
          have ssb := S1.out.st2 R (by omega) P (q) (q - 1) (by omega) (by omega) dk[q - 1]! dk[q]!
          have nsa : (enc dk[q]!).length = k := R.hk _
          have nsb : (enc dk[q - 1]!).length = k := R.hk _
          generalize enc dk[q]! = cIs at S2 lsa ssb nsa
          generalize enc dk[q - 1]! = cJs at S2 lsb ssa ssb nsb
          clear S1
          go_wp2_with fail
          go_big_region_o
          clear lsa lsb ssa ssb
          generalize (wr.drew.setCells blk (off + (q) * k) cJs).setCells blk (off + (q - 1) * k) cIs = w2 at S2 ⊢
          go_wp2
          go_roundg (q - 1 - i)
          case measure => omega
          case rel => exact ⟨q - 1, swp dk q (q - 1), by congr 1; omega, by omega, by omega, Nat.le_refl _, by rw [size_swp]; exact hds, S2, HQ, HE⟩
        · have hltz2 : ¬ (i : Int) < (q : Int) := by omega
          obtain rfl : i = q := by omega
          go_wp2
          (try simp only [Exit.inBlock, Exit.then]); refine bodyPost_ret (results_none rfl _ _ _) rfl ?_
          have hmb := HM.out
          subst hmb
          exact ⟨rfl, dk, S1.out, HP.out, ins_down HO.out HR.out hmi hjb HS.out H1.out H2.out⟩
end Go.Proofs.Ytehieahpocbboaa.ST
