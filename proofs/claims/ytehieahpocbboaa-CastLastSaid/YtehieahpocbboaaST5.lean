import Derived.Test.YtehieahpocbboaaST4
import Derived.Test.YtehieahpocbboaaSTi
namespace Go.Proofs.Ytehieahpocbboaa.ST
open Go.Shelf Go.RowKit Go.Lib Go.Sort
set_option linter.unusedVariables false
set_option linter.unusedSimpArgs false
variable {P : Program} {α : Type} [Inhabited α]

set_option maxHeartbeats 8000000 in
set_option maxRecDepth 1000000 in
theorem stable (k : Nat) (L : StL P k) (enc : α → List Value) (cf : α → α → Int) (g : Nat) (cb : Array Value) (blk off cap : Nat) (d : Array α) (w : World)
    (eg : ∀ args w, (callFunc g args).run P w = .ok (.enter g args) w) (hcmp : CmpB P g cb enc k cf blk off d.size w) (hO : SWO (ltOf cf))
    (R : RowK enc k w blk off d) (h40 : d.size ≤ 40) :
    Calls P 54 #[.slice (some ⟨blk, off, none⟩) d.size cap, .int .i64 d.size, .func (.func g) #[] cb] w fun e w' => e = .returned (.tuple #[]) ∧ ∃ d' : Array α, SB enc k w blk off d' w' ∧ PermIn 0 d.size d d' ∧ SortedIn (ltOf cf) 0 d.size d' := by
  have mixed := L.mixed; have t0 := L.t0; have a0 := L.a0; have z0 := L.z0; have v0 := L.v0; have t3 := L.t3; have a3 := L.a3; have z3 := L.z3; have v3 := L.v3; have t4 := L.t4; have a4 := L.a4; have z4 := L.z4; have v4 := L.v4; have t22 := L.t22; have a22 := L.a22; have z22 := L.z22; have v22 := L.v22; have t87 := L.t87; have a87 := L.a87; have z87 := L.z87; have v87 := L.v87
  have FG := L.f54
  have e70 : ∀ args w, (callFunc 70 args).run P w = .ok (.enter 70 args) w := enters_of L.f70 (by kernel_rfl) rfl
  have e71 : ∀ args w, (callFunc 71 args).run P w = .ok (.enter 71 args) w := enters_of L.f71 (by kernel_rfl) rfl
  have hsz : d.size < 4611686018427387904 := by omega
  have INS : Aside (∀ (a b : Nat) (d' : Array α) (w' : World), d'.size = d.size → SB enc k w blk off d' w' → a ≤ b → b ≤ d.size → Calls P 70 #[.slice (some ⟨blk, off, none⟩) d.size cap, .int .i64 a, .int .i64 b, .func (.func g) #[] cb] w' fun e w' => e = .returned (.tuple #[]) ∧ ∃ d2 : Array α, d2.size = d.size ∧ SB enc k w blk off d2 w' ∧ PermIn a b d' d2 ∧ SortedIn (ltOf cf) a b d2) := fun a b d' w' hs S hab hb => by
    have h := insSort k L enc cf g cb blk off cap a b d d' w w' eg hcmp R hs.symm S hab (by omega) (by omega)
    rw [hs] at h
    refine h.mono ?_
    rintro e w' ⟨rfl, S'⟩
    have hh := insertionSort_holds hO d' a b hab (by omega)
    exact ⟨rfl, _, by rw [hh.1.1, hs], S', hh.1, hh.2⟩
  have MRG : Aside (∀ (m : Nat) (d' : Array α) (w' : World), d'.size = d.size → SB enc k w blk off d' w' → 0 < m → m < d.size → SortedIn (ltOf cf) 0 m d' → SortedIn (ltOf cf) m d.size d' → Calls P 71 #[.slice (some ⟨blk, off, none⟩) d.size cap, .int .i64 (0 : Nat), .int .i64 m, .int .i64 d.size, .func (.func g) #[] cb] w' fun e w' => e = .returned (.tuple #[]) ∧ ∃ d2 : Array α, d2.size = d.size ∧ SB enc k w blk off d2 w' ∧ PermIn 0 d.size d' d2 ∧ SortedIn (ltOf cf) 0 d.size d2) := fun m d' w' hs S h1 h2 h3 h4 => by
    have h := symMerge k L enc cf g cb blk off cap d w eg hcmp hO R hsz d.size 0 m d.size d' w' (by omega) hs.symm S h1 h2 (by omega) h3 h4
    rw [hs] at h
    refine h.mono ?_
    rintro e w' ⟨rfl, d2, S', hP, hS⟩
    exact ⟨rfl, d2, by rw [hP.1, hs], S', hP, hS⟩
  have S0 : Aside (SB enc k w blk off d w) := SB.start R.hH
  have PM : Aside (∀ (d1 d2 : Array α) (a b : Nat), a ≤ b → b ≤ d.size → d1.size = d.size → PermIn a b d1 d2 → PermIn 0 d.size d1 d2) := fun d1 d2 a b h1 h2 h3 h => permIn_mono _ _ _ _ _ _ (by omega) h2 (by omega) h
  clear hcmp hO R eg L
  have hn40 : (d.size : Int) ≤ 40 := by omega
  by_cases hA : d.size < 20
  · have hAz : ¬ (20 : Int) ≤ (d.size : Int) := by omega
    have hAz2 : ¬ (20 : Int) < (d.size : Int) := by omega
    have hc := INS.out 0 d.size d w rfl S0.out (by omega) (by omega)
    go_enter FG, Try.ntmps54
    go_wp2
    refine wp_loop_rounds 1 ?_
    rw [rounds_succ]
    go_wp2_with (go_at_fn 70; refine hc.mono ?_; rintro e w1 ⟨rfl, d1, hd1, S1, hP, hS⟩)
    refine wp_loop_rounds 1 ?_
    rw [rounds_succ]
    go_wp2
    go_end0
    exact ⟨rfl, d1, S1, hP, hS⟩
  · by_cases hB : d.size = 40
    · have hBz : (d.size : Int) = 40 := by omega
      have hc := INS.out 0 20 d w rfl S0.out (by omega) (by omega)
      have h1 : (20 : Int) ≤ (d.size : Int) := by omega
      have h2 : (40 : Int) ≤ (d.size : Int) := by omega
      have h3 : ¬ (60 : Int) ≤ (d.size : Int) := by omega
      have h3' : ¬ (80 : Int) ≤ (d.size : Int) := by omega
      have h4 : (20 : Int) < (d.size : Int) := by omega
      have h5 : ¬ (40 : Int) < (d.size : Int) := by omega
      have h6 : ¬ (60 : Int) < (d.size : Int) := by omega
      have HB : Aside (d.size = 40) := hB
      have h40' : 40 ≤ d.size := by omega
      clear hB hBz
      go_enter FG, Try.ntmps54
      go_wp2
      refine wp_loop_rounds 3 ?_
      rw [rounds_succ]
      go_wp2_with (go_at_fn 70; refine hc.mono ?_; rintro e w1 ⟨rfl, d1, hd1, S1, hP1, hS1⟩)
      have hc2 := INS.out 20 40 d1 w1 hd1 S1 (by omega) (by omega)
      have K1 : Aside (PermIn 0 20 d d1 ∧ SortedIn (ltOf cf) 0 20 d1) := ⟨hP1, hS1⟩
      clear hc S1 hP1 hS1
      rw [rounds_succ]
      go_wp2_with (go_at_fn 70; refine hc2.mono ?_; rintro e w2 ⟨rfl, d2, hd2, S2, hP2, hS2⟩)
      have hc4 := INS.out 40 d.size d2 w2 hd2 S2 (by omega) (by omega)
      have K2 : Aside (PermIn 20 40 d1 d2 ∧ SortedIn (ltOf cf) 20 40 d2) := ⟨hP2, hS2⟩
      clear hc2 hP2 hS2 S2
      have K3 : Aside (PermIn 0 d.size d d2 ∧ SortedIn (ltOf cf) 0 20 d2) := by
        refine ⟨permIn_trans _ _ _ _ _ (PM.out _ _ 0 20 (by omega) (by omega) rfl K1.out.1) (PM.out _ _ 20 40 (by omega) (by omega) hd1 K2.out.1), fun i j hi hij hj => ?_⟩
        rw [K2.out.1.2.1 i (Or.inl (by omega)), K2.out.1.2.1 j (Or.inl (by omega))]
        exact K1.out.2 i j hi hij hj
      rw [rounds_succ]
      go_wp2_with (go_at_fn 70; refine hc4.mono ?_; rintro e w5 ⟨rfl, d5, hd5, S5, hP5, hS5⟩)
      have K5 : Aside (PermIn 0 d.size d d5 ∧ SortedIn (ltOf cf) 0 20 d5 ∧ SortedIn (ltOf cf) 20 d.size d5) := by
        refine ⟨permIn_trans _ _ _ _ _ K3.out.1 (PM.out _ _ 40 d.size (by omega) (by omega) hd2 hP5), fun i j hi hij hj => ?_, fun i j hi hij hj => ?_⟩
        · rw [hP5.2.1 i (Or.inl (by omega)), hP5.2.1 j (Or.inl (by omega))]
          exact K3.out.2 i j hi hij hj
        · rw [hP5.2.1 i (by omega), hP5.2.1 j (by omega)]
          exact K2.out.2 i j hi hij (by omega)
      clear hP5 hS5 hc4
      have hc3 := MRG.out 20 d5 w5 hd5 S5 (by omega) (by omega) K5.out.2.1 K5.out.2.2
      rw [show (Value.int .i64 (d.size : Int)) = Value.int .i64 40 by congr 1; omega] at hc3
      clear S5
      refine wp_loop_rounds 2 ?_
      rw [rounds_succ]
      go_wp2
      refine wp_loop_rounds 2 ?_
      rw [rounds_succ]
      go_wp2_with (go_at_fn 71; refine hc3.mono ?_; rintro e w3 ⟨rfl, d3, hd3, S3, hP3, hS3⟩)
      have K4 : Aside (PermIn 0 d.size d5 d3 ∧ SortedIn (ltOf cf) 0 d.size d3) := ⟨hP3, hS3⟩
      clear hP3 hS3 hc3
      rw [rounds_succ]
      go_wp2
      rw [rounds_succ]
      go_wp2
      go_end0
      exact ⟨rfl, d3, S3, permIn_trans _ _ _ _ _ K5.out.1 K4.out.1, K4.out.2⟩
    · have h1 : (20 : Int) ≤ (d.size : Int) := by omega
      have h2 : ¬ (40 : Int) ≤ (d.size : Int) := by omega
      have hc := INS.out 0 20 d w rfl S0.out (by omega) (by omega)
      go_enter FG, Try.ntmps54
      go_wp2
      refine wp_loop_rounds 2 ?_
      rw [rounds_succ]
      go_wp2_with (go_at_fn 70; refine hc.mono ?_; rintro e w1 ⟨rfl, d1, hd1, S1, hP1, hS1⟩)
      have hc2 := INS.out 20 d.size d1 w1 hd1 S1 (by omega) (by omega)
      have K1 : Aside (PermIn 0 20 d d1 ∧ SortedIn (ltOf cf) 0 20 d1) := ⟨hP1, hS1⟩
      clear hc S1 hP1 hS1
      rw [rounds_succ]
      go_wp2_with (go_at_fn 70; refine hc2.mono ?_; rintro e w2 ⟨rfl, d2, hd2, S2, hP2, hS2⟩)
      have K2 : Aside (PermIn 20 d.size d1 d2 ∧ SortedIn (ltOf cf) 20 d.size d2) := ⟨hP2, hS2⟩
      clear hc2 hP2 hS2
      have K3 : Aside (PermIn 0 d.size d d2 ∧ SortedIn (ltOf cf) 0 20 d2) := by
        refine ⟨permIn_trans _ _ _ _ _ (PM.out _ _ 0 20 (by omega) (by omega) rfl K1.out.1) (PM.out _ _ 20 d.size (by omega) (by omega) hd1 K2.out.1), fun i j hi hij hj => ?_⟩
        rw [K2.out.1.2.1 i (Or.inl (by omega)), K2.out.1.2.1 j (Or.inl (by omega))]
        exact K1.out.2 i j hi hij hj
      by_cases hC : d.size = 20
      · have hCz : ¬ (20 : Int) < (d.size : Int) := by omega
        refine wp_loop_rounds 1 ?_
        rw [rounds_succ]
        go_wp2
        go_end0
        exact ⟨rfl, d2, S2, by have := K3.out.1; rwa [hC] at this, K3.out.2⟩
      · have hCz : (20 : Int) < (d.size : Int) := by omega
        have hc3 := MRG.out 20 d2 w2 hd2 S2 (by omega) (by omega) K3.out.2 K2.out.2
        clear S2
        refine wp_loop_rounds 2 ?_
        rw [rounds_succ]
        go_wp2
        refine wp_loop_rounds 1 ?_
        rw [rounds_succ]
        go_wp2_with (go_at_fn 71; refine hc3.mono ?_; rintro e w3 ⟨rfl, d3, hd3, S3, hP3, hS3⟩)
        have K4 : Aside (PermIn 0 d.size d2 d3 ∧ SortedIn (ltOf cf) 0 d.size d3) := ⟨hP3, hS3⟩
        clear hP3 hS3 hc3
        rw [rounds_succ]
        go_wp2
        go_end0
        exact ⟨rfl, d3, S3, permIn_trans _ _ _ _ _ K3.out.1 K4.out.1, K4.out.2⟩
end Go.Proofs.Ytehieahpocbboaa.ST
