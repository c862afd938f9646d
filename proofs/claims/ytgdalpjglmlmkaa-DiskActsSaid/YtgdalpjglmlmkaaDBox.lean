/-
  How the disk's laws read their arguments: a crash, a row of whole numbers.
-/
import Derived.Test.YtgdalpjglmlmkaaOpen
import Derived.Test.YtgdalpjglmlmkaaProg
namespace Go.Proofs.Ytgdalpjglmlmkaa.D
open Go.RowKit Go.Proofs.YtgdalpjglmlmkaaW.PrintWords Go.Proofs.YtgdalpjglmlmkaaW.PrintLast Go.Proofs.YtgdalpjglmlmkaaW.PrintMore Go.Proofs.Ytgdalpjglmlmkaa.Open
set_option linter.unusedVariables false

theorem oWeak {P : Program} {α : Type} {d : Kd α} {t : TypeId} {ok ok' : α → Prop} (h : Opn P d t ok) (hk : ∀ x, ok x → ok' x) : Opn P d t ok' :=
  ⟨fun hr => by obtain ⟨x, hx, ho⟩ := h.open_ hr; exact ⟨x, hx, hk x ho⟩⟩
abbrev CrashT : Type := Int × Int × Int
def kCrash : Kd CrashT := Kd.iso (Kd.pair (Kd.int .i64) (Kd.pair (Kd.int .i64) (Kd.int .i64))) (fun x : CrashT => x)
theorem kCrash_open {w : World} {x : CrashT} {cs : List Value} (h : kCrash.K w x cs) : cs = [.int .i64 x.1, .int .i64 x.2.1, .int .i64 x.2.2] := by
  obtain ⟨_, _, rfl, rfl, _, _, rfl, rfl, rfl⟩ := h
  exact rfl
theorem oCrash : Opn Try.prog kCrash 34 (fun _ => True) :=
  oWeak (Opn.struct (g := fun p : CrashT => p) Try.underlying34 (by kernel_rfl) (fun _ => rfl) (OpnFs.cons rfl (by kernel_rfl) (Opn.int Try.underlying3) (OpnFs.cons rfl (by kernel_rfl) (Opn.int Try.underlying3) (OpnFs.last rfl (by kernel_rfl) (Opn.int Try.underlying3))))) (fun _ _ => trivial)
theorem oInts : Opn Try.prog (Kd.slice 3 (Kd.int .i64)) 50 (fun _ => True) :=
  oWeak (Opn.slice Try.underlying50 (by kernel_rfl) (Opn.int Try.underlying3)) (fun _ _ => trivial)
end Go.Proofs.Ytgdalpjglmlmkaa.D
