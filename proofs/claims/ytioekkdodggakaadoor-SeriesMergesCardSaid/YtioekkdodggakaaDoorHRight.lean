import Derived.Test.YtioekkdodggakaaDoorHGram
namespace Go.Proofs.YtioekkdodggakaaDoor.G
open Go.RowKit Go.Proofs.YtioekkdodggakaaDoorW.PrintWords Go.Proofs.YtioekkdodggakaaDoorW.PrintLast Go.Proofs.YtioekkdodggakaaDoorW.PrintMore
set_option linter.unusedVariables false
def rightB (ng : Nat) (x : S29) : Bool := formedB x && decide (x.f0 < (ng : Int))
set_option maxHeartbeats 4000000 in
set_option maxRecDepth 100000 in
theorem Right_calls (u0 : ByteArray) (A1 : Option Addr) (n1 c1 : Nat) (u2 : Int) (A3 : Option Addr) (n3 c3 : Nat) (A4 : Option Addr) (n4 c4 : Nat) (A5 : Option Addr) (n5 c5 : Nat) (A6 : Option Addr) (n6 c6 : Nat) (A7 : Option Addr) (n7 c7 : Nat) (A8 : Option Addr) (n8 c8 : Nat) (A9 : Option Addr) (n9 c9 : Nat) (u10 : Int) (x : S29) (w : World) (hg : Gl w) :
    Calls Tryd.prog 13 #[.agg #[.string u0, .slice A1 n1 c1, .int .i64 u2, .slice A3 n3 c3, .slice A4 n4 c4, .slice A5 n5 c5, .slice A6 n6 c6, .slice A7 n7 c7, .slice A8 n8 c8, .slice A9 n9 c9, .int .i64 u10], .agg #[.int .i64 x.f0, .int .i64 x.f1, .int .i64 x.f2, .int .i64 x.f3, .string x.f4]] w fun e w' => e = .returned (.bool (rightB n6 x)) ∧ Below w.heap.size w w' := by
  have hu29 := Tryd.underlying29
  have hu41 := Tryd.underlying41
  have HG := Aside0.mk hg
  clear hg
  go_enter Tryd.func13, Tryd.ntmps13
  go_wp2_with fail
  generalize hW1 : (w.alloc _).alloc _ = W1
  have hB1 : Below w.heap.size w W1 := by rw [← hW1]; exact ((Below.refl _ _).alloc (Nat.le_refl _) _).alloc (by simp) _
  have p0 : W1.cell? ⟨w.heap.size + 1, 0, none⟩ = some (.int .i64 x.f0) := by rw [← hW1]; exact (blk_cell (al1 _ _ _) 0).trans rfl
  have p1 : W1.cell? ⟨w.heap.size, 6, none⟩ = some (.slice A6 n6 c6) := by rw [← hW1]; exact (blk_cell (blk_alloc (al0 _ _) _) 6).trans rfl
  refine (formed_calls x _ (HG.out.below hB1)).mono ?_
  rintro e w1 ⟨rfl, hb⟩
  have q0 : w1.cell? ⟨w.heap.size + 1, 0, none⟩ = some (.int .i64 x.f0) := (hb.cell (World.block_lt_of_cell? W1 _ p0)).trans p0
  have q1 : w1.cell? ⟨w.heap.size, 6, none⟩ = some (.slice A6 n6 c6) := (hb.cell (World.block_lt_of_cell? W1 _ p1)).trans p1
  have HB := Aside0.mk (hB1.trans (hb.mono hB1.size))
  clear p0 p1 hB1 hb hW1 HG
  cases hf : formedB x with
  | false =>
    have HF : Aside0 (rightB n6 x = false) := ⟨by unfold rightB; rw [hf]; rfl⟩
    clear hf
    go_wp2
    go_ret
    exact ⟨by rw [HF.out]; first | done | rfl | (simp; done), HB.out⟩
  | true =>
    have HF : Aside0 (rightB n6 x = decide (x.f0 < (n6 : Int))) := ⟨by unfold rightB; rw [hf]; rfl⟩
    clear hf
    go_wp2
    go_ret
    exact ⟨by rw [HF.out]; first | done | rfl | (simp; done), HB.out⟩
end Go.Proofs.YtioekkdodggakaaDoor.G
