/-
  A sector of one byte: what it is.
-/
import Derived.Test.YtgdalpjglmlmkaaDNew
namespace Go.Proofs.Ytgdalpjglmlmkaa.D
open Go.RowKit Go.Maps Go.Proofs.YtgdalpjglmlmkaaW.PrintWords Go.Proofs.YtgdalpjglmlmkaaW.PrintLast Go.Proofs.YtgdalpjglmlmkaaW.PrintMore
set_option linter.unusedVariables false
set_option linter.unusedSimpArgs false

theorem rep_set (j n : Nat) (x : Int) (h : j < n) : (List.replicate j x ++ List.replicate (n - j) 0).set j x = List.replicate (j + 1) x ++ List.replicate (n - (j + 1)) 0 := by
  rw [List.set_append_right _ _ (by simp), List.length_replicate, Nat.sub_self, show n - j = (n - (j + 1)) + 1 by omega, List.replicate_succ, List.set_cons_zero, List.replicate_succ' (n := j)]
  simp
theorem sector_l0 (c : Int) : ∀ m j : Nat, j + m = 64 → X.furlonglaw8_sector.l0 (m + 1) c (List.replicate j (c % 256) ++ List.replicate (64 - j) 0) j = some (sec c)
  | 0, j, h => by
    obtain rfl : j = 64 := by omega
    rw [X.furlonglaw8_sector.l0, if_neg (by simp)]
    simp only [Nat.sub_self, List.replicate_zero, List.append_nil]
    rfl
  | m + 1, j, h => by
    rw [X.furlonglaw8_sector.l0, if_pos (by simp; omega), if_pos (by omega), Int.toNat_natCast, rep_set _ _ _ (by omega), show wrap64 ((j : Int) + 1) = ((j + 1 : Nat) : Int) by unfold wrap64; omega]
    exact sector_l0 c m (j + 1) (by omega)
theorem sector_f (c : Int) : X.furlonglaw8_sector.f 65 c = some (sec c) := by
  unfold X.furlonglaw8_sector.f
  rw [if_pos (by decide)]
  exact sector_l0 c 64 0 rfl
theorem sector_calls (c : Int) (W : World) : Calls Try.prog 11 #[.int .i64 c] W fun e w' => e = .returned (.string (sec c)) ∧ Below W.heap.size W w' :=
  X.furlonglaw8_sector.calls 65 c (sec c) W (sector_f c)
end Go.Proofs.Ytgdalpjglmlmkaa.D
