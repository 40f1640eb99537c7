import Derived.Test.YtehieahpocbboaaST1
namespace Go.Proofs.Ytehieahpocbboaa.ST
open Go.Shelf Go.RowKit Go.Lib Go.Sort
set_option linter.unusedVariables false
set_option linter.unusedSimpArgs false
variable {P : Program} {α : Type} [Inhabited α]

set_option maxHeartbeats 4000000 in
set_option maxRecDepth 1000000 in
theorem rotate (k : Nat) (L : StL P k) (enc : α → List Value) (g : Nat) (cb : Array Value) (blk off cap a m b : Nat) (d0 d : Array α) (w0 w : World)
    (R : RowK enc k w0 blk off d0) (hs : d0.size = d.size) (S : SB enc k w0 blk off d w) (ham : a < m) (hmb : m < b) (hb : b ≤ d.size) (hsz : d.size < 4611686018427387904) :
    Calls P 79 #[.slice (some ⟨blk, off, none⟩) d.size cap, .int .i64 a, .int .i64 m, .int .i64 b, .func (.func g) #[] cb] w fun e w' => e = .returned (.tuple #[]) ∧ ∃ d' : Array α, SB enc k w0 blk off d' w' ∧ Rot d a m b d' ∧ PermIn a b d d' := by
  have mixed := L.mixed; have t0 := L.t0; have a0 := L.a0; have z0 := L.z0; have v0 := L.v0; have t3 := L.t3; have a3 := L.a3; have z3 := L.z3; have v3 := L.v3; have t4 := L.t4; have a4 := L.a4; have z4 := L.z4; have v4 := L.v4; have t22 := L.t22; have a22 := L.a22; have z22 := L.z22; have v22 := L.v22; have t87 := L.t87; have a87 := L.a87; have z87 := L.z87; have v87 := L.v87
  have FG := L.f79
  have S0 : Aside (SB enc k w0 blk off d w) := S
  have e81 : ∀ args w, (callFunc 81 args).run P w = .ok (.enter 81 args) w := enters_of L.f81 (by kernel_rfl) rfl
  have LL : Aside (StL P k) := L
  clear S L
  go_enter FG, Try.ntmps79
  go_wp2
  go_loopg [10, 11] (b - a) (fun kx s10 s11 wr => ∃ (i j : Nat) (dk : Array α), s10 = .int .i64 i ∧ s11 = .int .i64 j ∧ 0 < i ∧ 0 < j ∧ i ≤ m - a ∧ j ≤ b - m ∧ i + j ≤ kx ∧ dk.size = d.size ∧ Aside (SB enc k w0 blk off dk wr) ∧ Hid (PermIn a b d dk) ∧ Hid (∀ d', Rot dk (m - i) m (m + j) d' → Rot d a m b d'))
  case atStart =>
    exact ⟨m - a, b - m, d, by congr 1; omega, by congr 1; omega, by omega, by omega, Nat.le_refl _, Nat.le_refl _, by omega, rfl, S0, permIn_refl d a b, fun d' h => by rwa [show m - (m - a) = a by omega, show m + (b - m) = b by omega] at h⟩
  case round =>
    clear S0
    obtain ⟨i, j, dk, rfl, rfl, hi, hj, hia, hjb, hkx, hds, S1, HP, HR⟩ := hrel
    by_cases hne : i = j
    · subst hne
      have hc := swapRange (P := P) k LL.out enc g cb blk off cap (m - i) m i d0 dk w0 wr R (by omega) S1.out (by omega) (by omega) (by omega)
      have HQ : Hid (PermIn a b d (swapR dk (m - i) m i)) := permIn_trans _ _ _ _ _ HP.out (perm_swapR dk (m - i) m a b i (by omega) (by omega) (by omega) (by omega) (by omega))
      have HE : Hid (Rot d a m b (swapR dk (m - i) m i)) := HR.out _ (Rot.stepE (by omega) (by omega))
      rw [hds] at hc
      have em : ((m - i : Nat) : Int) = (m : Int) - (i : Int) := by omega
      rw [em] at hc
      clear S1 HP HR
      go_wp2_with (go_at_fn 81; refine hc.mono ?_; rintro e w1 ⟨rfl, S3⟩)
      go_end0
      exact ⟨rfl, _, S3, HE.out, HQ.out⟩
    · have hnz : ¬ (i : Int) = (j : Int) := by omega
      have hnz' : ((i : Int) == (j : Int)) = false := by simpa using hnz
      by_cases hgt : j < i
      · have hgz : (j : Int) < (i : Int) := by omega
        have hc := swapRange (P := P) k LL.out enc g cb blk off cap (m - i) m j d0 dk w0 wr R (by omega) S1.out (by omega) (by omega) (by omega)
        have HQ : Hid (PermIn a b d (swapR dk (m - i) m j)) := permIn_trans _ _ _ _ _ HP.out (perm_swapR dk (m - i) m a b j (by omega) (by omega) (by omega) (by omega) (by omega))
        have HE : Hid (∀ d', Rot (swapR dk (m - i) m j) (m - (i - j)) m (m + j) d' → Rot d a m b d') := fun d' h => HR.out d' (Rot.stepL hgt (by omega) (by omega) h)
        rw [hds] at hc
        have em : ((m - i : Nat) : Int) = (m : Int) - (i : Int) := by omega
        rw [em] at hc
        clear S1 HP HR
        go_wp2_with (go_at_fn 81; refine hc.mono ?_; rintro e w1 ⟨rfl, S3⟩)
        go_roundg (i - j + j)
        case measure => omega
        case rel => exact ⟨i - j, j, swapR dk (m - i) m j, by congr 1; omega, rfl, by omega, hj, by omega, hjb, by omega, by rw [size_swapR]; exact hds, S3, HQ, HE⟩
      · have hgz : ¬ (j : Int) < (i : Int) := by omega
        have hc := swapRange (P := P) k LL.out enc g cb blk off cap (m - i) (m + j - i) i d0 dk w0 wr R (by omega) S1.out (by omega) (by omega) (by omega)
        have HQ : Hid (PermIn a b d (swapR dk (m - i) (m + j - i) i)) := permIn_trans _ _ _ _ _ HP.out (perm_swapR dk (m - i) (m + j - i) a b i (by omega) (by omega) (by omega) (by omega) (by omega))
        have HE : Hid (∀ d', Rot (swapR dk (m - i) (m + j - i) i) (m - i) m (m + (j - i)) d' → Rot d a m b d') := fun d' h => HR.out d' (Rot.stepR (by omega) (by omega) (by omega) h)
        rw [hds] at hc
        have em : ((m - i : Nat) : Int) = (m : Int) - (i : Int) := by omega
        have em2 : ((m + j - i : Nat) : Int) = (m : Int) + (j : Int) - (i : Int) := by omega
        rw [em, em2] at hc
        clear S1 HP HR
        go_wp2_with (go_at_fn 81; refine hc.mono ?_; rintro e w1 ⟨rfl, S3⟩)
        go_roundg (i + (j - i))
        case measure => omega
        case rel => exact ⟨i, j - i, swapR dk (m - i) (m + j - i) i, rfl, by congr 1; omega, hi, by omega, hia, by omega, by omega, by rw [size_swapR]; exact hds, S3, HQ, HE⟩
end Go.Proofs.Ytehieahpocbboaa.ST
