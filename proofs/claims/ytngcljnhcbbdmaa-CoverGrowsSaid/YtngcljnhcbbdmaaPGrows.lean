/-
  Plain: what the law CoverGrows computes is true, whatever the arguments.
-/
import Derived.Test.YtngcljnhcbbdmaaPBox
import Derived.Test.YtngcljnhcbbdmaaC11
namespace Go.Proofs.Ytngcljnhcbbdmaa.C
open Go.RowKit Go.Proofs.YtngcljnhcbbdmaaW.PrintWords Go.Proofs.YtngcljnhcbbdmaaW.PrintLast Go.Proofs.YtngcljnhcbbdmaaW.PrintMore
set_option linter.unusedVariables false
set_option linter.unusedSimpArgs false

theorem CoverGrows.ev (a b c d a' b' c' d' : Int) : Ev (fun k => furlonglaw6_CoverGrows.f k a b c d a' b' c' d') true := by
  unfold furlonglaw6_CoverGrows.f
  refine Ev.bind awake_true (Ev.pos rfl ?_)
  by_cases h : boxMay a b c d
  · obtain ⟨R, e, n, _, m, _, _⟩ := Of_may h
    by_cases h' : boxMay a' b' c' d'
    · obtain ⟨R', e', n', _, m', _, _⟩ := Of_may h'
      refine Ev.bind e (Ev.bind e' (Ev.bind (Ev.const (num _)) (Ev.pos rfl (Ev.bind (Ev.const (num _)) (Ev.succ ?_)))))
      simp only [furlonglaw6_CoverGrows.j0]
      refine Ev.neg (by simp) ?_
      obtain ⟨h1, h2, h3, h4, h5, h6⟩ := h
      obtain ⟨g1, g2, g3, g4, g5, g6⟩ := h'
      have x0 : mn a a' ≤ a ∧ mn a a' ≤ a' ∧ 0 ≤ mn a a' := by unfold mn; split <;> omega
      have x1 : mn b b' ≤ b ∧ mn b b' ≤ b' ∧ 0 ≤ mn b b' := by unfold mn; split <;> omega
      have x2 : c ≤ mx c c' ∧ c' ≤ mx c c' ∧ mx c c' ≤ 4294967295 := by unfold mx; split <;> omega
      have x3 : d ≤ mx d d' ∧ d' ≤ mx d d' ∧ mx d d' ≤ 4294967295 := by unfold mx; split <;> omega
      have hB : boxMay (mn a a') (mn b b') (mx c c') (mx d d') := by unfold boxMay; omega
      obtain ⟨B, eB, nB, _, mB, _, _⟩ := Of_may hB
      obtain ⟨U, eU, nU, mU⟩ := Union_norm n n'
      have sub : ∀ e, Mem U e → Mem B e := by
        intro z hz
        have hz' : Mem R z ∨ Mem R' z := by have := (mU z).1 hz; simpa [opU] using this
        rw [mB]
        rcases hz' with hz | hz
        · obtain ⟨q0, q1⟩ := (m z).1 hz
          refine ⟨q0, ?_⟩
          obtain ⟨i, j, p1, p2, p3, p4, p5⟩ := mem_grid.1 q1
          exact mem_grid.2 ⟨i, j, by omega, by omega, by omega, by omega, p5⟩
        · obtain ⟨q0, q1⟩ := (m' z).1 hz
          refine ⟨q0, ?_⟩
          obtain ⟨i, j, p1, p2, p3, p4, p5⟩ := mem_grid.1 q1
          exact mem_grid.2 ⟨i, j, by omega, by omega, by omega, by omega, p5⟩
      refine Ev.bind eB (Ev.bind eU (Ev.bind (Less_is nU nB Norm.nil (fun z => ⟨fun hz => absurd hz Mem.nil, fun hz => absurd (sub z hz.1) hz.2⟩)) (Ev.bind (Common_is nU nB nU (fun z => ⟨fun hz => ⟨hz, sub z hz⟩, fun hz => hz.1⟩)) ?_)))
      refine Ev.bind (Ev.const (num _)) (Ev.pos rfl ?_)
      refine Ev.bind (Ev.const (num _)) (Ev.pos rfl ?_)
      refine Ev.bind (Ev.const (num _)) (Ev.pos rfl (Ev.pos rfl ?_))
      refine Ev.bind (Ev.const (num _)) (Ev.pos rfl ?_)
      exact Ev.bind (same_true _ nU.short) (Ev.const rfl)
    · refine Ev.bind e (Ev.bind (Of_not h') (Ev.bind (Ev.const (num _)) (Ev.pos rfl (Ev.bind (Ev.const (num _)) (Ev.succ ?_)))))
      simp only [furlonglaw6_CoverGrows.j0]
      exact Ev.pos (by simp) (Ev.const rfl)
  · have hj : ∀ R' : List S41, Ev (fun k => furlonglaw6_CoverGrows.j0 k [] R' true a b c d a' b' c' d') true := by
      intro R'
      refine Ev.succ ?_
      simp only [furlonglaw6_CoverGrows.j0]
      exact Ev.pos (by simp) (Ev.const rfl)
    by_cases h' : boxMay a' b' c' d'
    · obtain ⟨R', e', _⟩ := Of_may h'
      exact Ev.bind (Of_not h) (Ev.bind e' (Ev.bind (Ev.const (num _)) (Ev.neg (by omega) (hj _))))
    · exact Ev.bind (Of_not h) (Ev.bind (Of_not h') (Ev.bind (Ev.const (num _)) (Ev.neg (by omega) (hj _))))
theorem CoverGrows.pure (x : BoxT) (_ : True) (y : BoxT) (_ : True) : ∃ k, furlonglaw6_CoverGrows.f k x.1 x.2.1 x.2.2.1 x.2.2.2 y.1 y.2.1 y.2.2.1 y.2.2.2 = some true := (CoverGrows.ev _ _ _ _ _ _ _ _).at
end Go.Proofs.Ytngcljnhcbbdmaa.C
