/-
  The cover's arguments laid open.
-/
import Derived.Test.YtngcljnhcbbdmaaPAwake
import Derived.Test.YtngcljnhcbbdmaaOpen
namespace Go.Proofs.Ytngcljnhcbbdmaa.C
open Go.RowKit Go.Proofs.YtngcljnhcbbdmaaW.PrintWords Go.Proofs.YtngcljnhcbbdmaaW.PrintLast Go.Proofs.YtngcljnhcbbdmaaW.PrintMore
open Go.Proofs.Ytngcljnhcbbdmaa.Open
set_option linter.unusedVariables false
set_option linter.unusedSimpArgs false

theorem oWeak {P : Program} {α : Type} {d : Kd α} {t : TypeId} {ok ok' : α → Prop} (h : Opn P d t ok) (hk : ∀ x, ok x → ok' x) : Opn P d t ok' :=
  ⟨fun hr => by obtain ⟨x, hx, ho⟩ := h.open_ hr; exact ⟨x, hx, hk x ho⟩⟩
theorem oRange : Opn Try.prog k41 41 (fun _ => True) :=
  oWeak (Opn.struct (g := fun p : Int × Int => (⟨p.1, p.2⟩ : S41)) Try.underlying41 (by kernel_rfl) (fun _ => rfl) (OpnFs.cons rfl (by kernel_rfl) (Opn.int Try.underlying3) (OpnFs.last rfl (by kernel_rfl) (Opn.int Try.underlying3)))) (fun _ _ => trivial)
theorem oRanges : Opn Try.prog (Kd.slice 41 k41) 24 (fun l => l.length ≤ 9223372036854775807) :=
  oWeak (Opn.slice Try.underlying24 (by kernel_rfl) oRange) (fun _ h => h.1)
abbrev BoxT : Type := Int × Int × Int × Int
def kBox : Kd BoxT := Kd.iso (Kd.pair (Kd.int .i64) (Kd.pair (Kd.int .i64) (Kd.pair (Kd.int .i64) (Kd.int .i64)))) (fun x : BoxT => x)
theorem kBox_open {w : World} {x : BoxT} {cs : List Value} (h : kBox.K w x cs) : cs = [.int .i64 x.1, .int .i64 x.2.1, .int .i64 x.2.2.1, .int .i64 x.2.2.2] := by
  obtain ⟨_, _, rfl, rfl, _, _, rfl, rfl, _, _, rfl, rfl, rfl⟩ := h
  exact rfl
theorem oBox : Opn Try.prog kBox 23 (fun _ => True) :=
  oWeak (Opn.struct (g := fun p : BoxT => p) Try.underlying23 (by kernel_rfl) (fun _ => rfl) (OpnFs.cons rfl (by kernel_rfl) (Opn.int Try.underlying3) (OpnFs.cons rfl (by kernel_rfl) (Opn.int Try.underlying3) (OpnFs.cons rfl (by kernel_rfl) (Opn.int Try.underlying3) (OpnFs.last rfl (by kernel_rfl) (Opn.int Try.underlying3)))))) (fun _ _ => trivial)
end Go.Proofs.Ytngcljnhcbbdmaa.C
