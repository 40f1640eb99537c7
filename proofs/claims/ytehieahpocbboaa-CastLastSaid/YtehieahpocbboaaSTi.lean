import Derived.Test.YtehieahpocbboaaST2
namespace Go.Proofs.Ytehieahpocbboaa.ST
open Go.Shelf Go.RowKit Go.Lib Go.Sort
set_option linter.unusedVariables false
set_option linter.unusedSimpArgs false
variable {P : Program} {α : Type} [Inhabited α]

set_option maxHeartbeats 8000000 in
set_option maxRecDepth 1000000 in
theorem insSort (k : Nat) (L : StL P k) (enc : α → List Value) (cf : α → α → Int) (g : Nat) (cb : Array Value) (blk off cap a b : Nat) (d0 d : Array α) (w0 w : World)
    (eg : ∀ args w, (callFunc g args).run P w = .ok (.enter g args) w) (hcmp : CmpB P g cb enc k cf blk off d0.size w0)
    (R : RowK enc k w0 blk off d0) (hs : d0.size = d.size) (S : SB enc k w0 blk off d w) (hab : a ≤ b) (hb : b ≤ d.size) (hsz : d.size < 4611686018427387904) :
    Calls P 70 #[.slice (some ⟨blk, off, none⟩) d.size cap, .int .i64 a, .int .i64 b, .func (.func g) #[] cb] w fun e w' => e = .returned (.tuple #[]) ∧ SB enc k w0 blk off (Sort.insertionSort (ltOf cf) d a b) w' := by
  have mixed := L.mixed; have t0 := L.t0; have a0 := L.a0; have z0 := L.z0; have v0 := L.v0; have t3 := L.t3; have a3 := L.a3; have z3 := L.z3; have v3 := L.v3; have t4 := L.t4; have a4 := L.a4; have z4 := L.z4; have v4 := L.v4; have t22 := L.t22; have a22 := L.a22; have z22 := L.z22; have v22 := L.v22; have t87 := L.t87; have a87 := L.a87; have z87 := L.z87; have v87 := L.v87; have t82 := L.t82; have a82 := L.a82; have z82 := L.z82; have v82 := L.v82; have aE := L.aE; have zE := L.zE
  have FG := L.f70
  have S0 : Aside (SB enc k w0 blk off d w) := S
  have HC : Aside _ := hcmp
  clear S L hcmp
  go_enter FG, Try.ntmps70
  go_wp2
  go_loopg [8] (b - a) (fun kx s8 wr => ∃ (i : Nat) (dk : Array α), s8 = .int .i64 i ∧ a < i ∧ i ≤ b + 1 ∧ b + 1 - i ≤ kx + 1 ∧ dk.size = d.size ∧ Aside (SB enc k w0 blk off dk wr) ∧ Hid (insOuter (ltOf cf) a b i dk = insOuter (ltOf cf) a b (a + 1) d))
  case atStart => exact ⟨a + 1, d, by go_num, by omega, by omega, by omega, rfl, S0, rfl⟩
  case round =>
    clear S0
    obtain ⟨i, dk, rfl, hai, hib, hg1, hsk, S1, HO⟩ := hrel
    by_cases hlt : i < b
    · have hltz : (i : Int) < (b : Int) := by omega
      go_wp2
      go_loopg [9] i (fun kx s9 wr => ∃ (j : Nat) (dj : Array α), s9 = .int .i64 j ∧ a ≤ j ∧ j ≤ i ∧ j ≤ kx ∧ dj.size = d.size ∧ Aside (SB enc k w0 blk off dj wr) ∧ Hid (insInner (ltOf cf) a j dj = insInner (ltOf cf) a i dk))
      case atStart => exact ⟨i, dk, rfl, by omega, Nat.le_refl _, Nat.le_refl _, hsk, S1, rfl⟩
      case round =>
        clear S1
        obtain ⟨j, dj, rfl, haj, hji, hg2, hsj, S1, HI⟩ := hrel
        have out : (j ≤ a ∨ ltOf cf dj[j]! dj[j - 1]! = false) → Hid (insOuter (ltOf cf) a b (i + 1) dj = insOuter (ltOf cf) a b (a + 1) d) := fun hs => by
          show _ = _
          rw [← HO.out, insOuter_go _ _ _ _ _ hlt, ← HI.out, insInner_stop _ _ _ _ hs]
        have OUT : Aside _ := out
        clear out
        by_cases hja : a < j
        · have hjaz : (a : Int) < (j : Int) := by omega
          obtain ⟨jp, rfl⟩ : ∃ jp, j = jp + 1 := ⟨j - 1, by omega⟩
          have hjaz' : (a : Int) < (jp : Int) + 1 := by omega
          go_wp2_with fail
          have eaqi : ((jp : Int) + 1).toNat = jp + 1 := by omega
          have paqi : (0 : Int) ≤ (jp : Int) + 1 := by omega
          have baqi : (jp : Int) + 1 < (d.size : Int) := by omega
          have raqi : IntKind.i64.wrap ((jp : Int) + 1) = (jp : Int) + 1 := by rw [IntKind.wrap_i64]; omega
          have eaqj : ((jp : Int)).toNat = jp := by omega
          have paqj : (0 : Int) ≤ (jp : Int) := by omega
          have baqj : (jp : Int) < (d.size : Int) := by omega
          have raqj : IntKind.i64.wrap ((jp : Int)) = (jp : Int) := by rw [IntKind.wrap_i64]; omega
          obtain ⟨xq, hxq⟩ : ∃ x, x = dj[jp + 1]! := ⟨_, rfl⟩
          obtain ⟨yq, hyq⟩ : ∃ x, x = dj[jp]! := ⟨_, rfl⟩
          have lqa := S1.out.ld R (by omega) P (jp + 1) (by omega)
          have lqb := S1.out.ld R (by omega) P (jp) (by omega)
          rw [← hxq] at lqa
          rw [← hyq] at lqb
          have hcq := S1.out.cmp HC.out (by omega) xq yq
          have HX : Aside (xq = dj[jp + 1]! ∧ yq = dj[jp]!) := ⟨hxq, hyq⟩
          clear hxq hyq
          by_cases hvq : cf xq yq < 0
          · have hdq : decide (cf xq yq < 0) = true := decide_eq_true hvq
            refine region_sd (by assumption) (by kernel_rfl) ?_
            repeat (quiet_step (first | (go_at_fn g; refine hcq _ _)))
            refine wpQuiet_nil ?_
            intro _ hw'
            obtain ⟨⟨nq, osq⟩, hw''⟩ := hw'
            subst hw''
            have S2 : Aside (SB enc k w0 blk off dj (grow (sd wr nq) osq)) := S1.out.grown nq osq
            clear lqa lqb hcq S1
            generalize grow (sd wr nq) osq = w2 at S2 ⊢
            clear nq osq
            go_wp2
            have hn : ltOf cf dj[jp + 1]! dj[jp]! = true := by rw [← HX.out.1, ← HX.out.2]; exact decide_eq_true hvq
            clear HX hdq hvq
            have HE : Hid (insInner (ltOf cf) a jp (swp dj (jp + 1) jp) = insInner (ltOf cf) a i dk) := by
              show _ = _
              have := insInner_go (ltOf cf) a (jp + 1) dj hja (by simp only [Nat.add_sub_cancel]; exact hn)
              simp only [Nat.add_sub_cancel] at this
              rw [← HI.out, this]
            clear hn HI OUT
            have S1 := S2
            clear S2
            generalize w2 = wr at S1 ⊢
            clear w2
            have easi : ((jp : Int) + 1).toNat = jp + 1 := by omega
            have pasi : (0 : Int) ≤ (jp : Int) + 1 := by omega
            have basi : (jp : Int) + 1 < (d.size : Int) := by omega
            have rasi : IntKind.i64.wrap ((jp : Int) + 1) = (jp : Int) + 1 := by rw [IntKind.wrap_i64]; omega
            have easj : ((jp : Int)).toNat = jp := by omega
            have pasj : (0 : Int) ≤ (jp : Int) := by omega
            have basj : (jp : Int) < (d.size : Int) := by omega
            have rasj : IntKind.i64.wrap ((jp : Int)) = (jp : Int) := by rw [IntKind.wrap_i64]; omega
            have S2 : Aside (SB enc k w0 blk off (swp dj (jp + 1) (jp)) ((wr.drew.setCells blk (off + (jp + 1) * k) (enc dj[jp]!)).setCells blk (off + (jp) * k) (enc dj[jp + 1]!))) := S1.out.swapped R (jp + 1) (jp) (by omega) (by omega)
            have lsa := S1.out.ld1 R (by omega) P (jp + 1) (by omega)
            have lsb := S1.out.ld1 R (by omega) P (jp) (by omega)
            have ssa := S1.out.st1 R (by omega) P (jp + 1) (by omega) dj[jp]!
            have ssb := S1.out.st2 R (by omega) P (jp + 1) (jp) (by omega) (by omega) dj[jp]! dj[jp + 1]!
            have nsa : (enc dj[jp + 1]!).length = k := R.hk _
            have nsb : (enc dj[jp]!).length = k := R.hk _
            generalize enc dj[jp + 1]! = cIs at S2 lsa ssb nsa
            generalize enc dj[jp]! = cJs at S2 lsb ssa ssb nsb
            clear S1
            go_wp2_with fail
            go_big_region_o
            clear lsa lsb ssa ssb
            generalize (wr.drew.setCells blk (off + (jp + 1) * k) cJs).setCells blk (off + (jp) * k) cIs = w2 at S2 ⊢
            go_wp2
            go_roundg jp
            case measure => omega
            case rel => exact ⟨jp, swp dj (jp + 1) jp, by first | rfl | go_num | (congr 1; omega), by omega, by omega, Nat.le_refl _, by rw [size_swp]; exact hsj, S2, HE⟩
          · have hdq : decide (cf xq yq < 0) = false := decide_eq_false hvq
            refine region_sd (by assumption) (by kernel_rfl) ?_
            repeat (quiet_step (first | (go_at_fn g; refine hcq _ _)))
            refine wpQuiet_nil ?_
            intro _ hw'
            obtain ⟨⟨nq, osq⟩, hw''⟩ := hw'
            subst hw''
            have S2 : Aside (SB enc k w0 blk off dj (grow (sd wr nq) osq)) := S1.out.grown nq osq
            clear lqa lqb hcq S1
            generalize grow (sd wr nq) osq = w2 at S2 ⊢
            clear nq osq
            go_wp2
            have hn : ltOf cf dj[jp + 1]! dj[jp]! = false := by rw [← HX.out.1, ← HX.out.2]; exact decide_eq_false (by omega)
            go_roundg (b - (i + 1))
            case measure => omega
            case rel => exact ⟨i + 1, dj, by go_num, by omega, by omega, by omega, hsj, S2, OUT.out (Or.inr (by simpa using hn))⟩
        · have hjaz : decide ((j : Int) > (a : Int)) = false := decide_eq_false (by omega)
          have hjaz' : ¬ (a : Int) < (j : Int) := by omega
          have S2 : Aside (SB enc k w0 blk off dj wr.drew) := S1.out.drew
          clear S1
          go_wp2_with fail
          go_big_region_o
          all_goals go_wp2
          go_roundg (b - (i + 1))
          case measure => omega
          case rel => exact ⟨i + 1, dj, by go_num, by omega, by omega, by omega, hsj, S2, OUT.out (Or.inl (by omega))⟩
    · have hltz : ¬ (i : Int) < (b : Int) := by omega
      go_wp2
      go_end0
      refine ⟨rfl, ?_⟩
      unfold Sort.insertionSort
      rw [← HO.out, insOuter_stop _ _ _ _ _ hlt]
      exact S1.out
end Go.Proofs.Ytehieahpocbboaa.ST
