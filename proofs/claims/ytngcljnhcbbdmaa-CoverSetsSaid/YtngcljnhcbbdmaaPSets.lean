/-
  Plain: what the law CoverSets computes is true, whatever the arguments.
-/
import Derived.Test.YtngcljnhcbbdmaaPBox
import Derived.Test.YtngcljnhcbbdmaaC10
namespace Go.Proofs.Ytngcljnhcbbdmaa.C
open Go.RowKit Go.Proofs.YtngcljnhcbbdmaaW.PrintWords Go.Proofs.YtngcljnhcbbdmaaW.PrintLast Go.Proofs.YtngcljnhcbbdmaaW.PrintMore
set_option linter.unusedVariables false
set_option linter.unusedSimpArgs false

open Classical in
theorem CoverSets.ev (a b : List S41) (d : Int) (ha : a.length ≤ 9223372036854775807) (hb : b.length ≤ 9223372036854775807) : Ev (fun k => furlonglaw6_CoverSets.f k a b d) true := by
  unfold furlonglaw6_CoverSets.f
  refine Ev.bind awake_true (Ev.pos rfl ?_)
  by_cases h : Norm a ∧ Norm b
  · obtain ⟨na, nb⟩ := h
    obtain ⟨U, eU, nU, mU⟩ := Union_norm na nb
    obtain ⟨I, eI, nI, mI⟩ := Common_norm na nb
    obtain ⟨L, eL, nL, mL⟩ := Less_norm na nb
    obtain ⟨M, eM, nM, mM⟩ := Less_norm nb na
    simp only [opU, opC, opL, Bool.or_eq_true, Bool.and_eq_true, Bool.not_eq_true', decide_eq_true_iff, decide_eq_false_iff_not] at mU mI mL mM
    refine Ev.bind eU (Ev.bind eI (Ev.bind eL (Ev.bind eM (Ev.bind (may_true na) (Ev.pos rfl (Ev.bind (may_true nb) (Ev.succ ?_)))))))
    simp only [furlonglaw6_CoverSets.j0]
    have hj : Ev (fun k => furlonglaw6_CoverSets.j1 k a U 0 I 0 L 0 M 0 false) true := by
      refine Ev.succ ?_
      simp only [furlonglaw6_CoverSets.j1]
      refine Ev.neg (by simp) ?_
      refine Ev.bind (Union_is nL nI na (fun d => by rw [mL, mI]; by_cases h1 : Mem a d <;> by_cases h2 : Mem b d <;> simp [h1, h2])) ?_
      refine Ev.bind (Union_is na nM nU (fun d => by rw [mM, mU]; by_cases h1 : Mem a d <;> by_cases h2 : Mem b d <;> simp [h1, h2])) ?_
      refine Ev.bind (Ev.const (num _)) (Ev.pos rfl ?_)
      refine Ev.bind (Ev.const (num _)) (Ev.pos rfl ?_)
      refine Ev.bind (Ev.const (num _)) (Ev.pos rfl ?_)
      refine Ev.bind (Ev.const (num _)) (Ev.pos rfl ?_)
      refine Ev.bind (Ev.const (num _)) (Ev.pos rfl ?_)
      refine Ev.bind (Ev.const (num _)) (Ev.pos rfl ?_)
      refine Ev.bind (same_true _ na.short) (Ev.pos rfl ?_)
      refine Ev.bind (same_true _ nU.short) (Ev.pos rfl ?_)
      refine Ev.bind (may_true nU) (Ev.pos rfl ?_)
      refine Ev.bind (may_true nI) (Ev.pos rfl ?_)
      exact Ev.bind (may_true nL) (Ev.const rfl)
    refine Ev.neg (by simp) ?_
    refine Ev.bind (Ev.const (has_spec a d)) (Ev.bind (Ev.const (has_spec b d)) (Ev.bind (Ev.const (has_spec U d)) ?_))
    have xU : decide (Mem U d) = (decide (Mem a d) || decide (Mem b d)) := by rw [Bool.eq_iff_iff]; simp [mU]
    have xI : decide (Mem I d) = (decide (Mem a d) && decide (Mem b d)) := by rw [Bool.eq_iff_iff]; simp [mI]
    have xL : decide (Mem L d) = (decide (Mem a d) && !decide (Mem b d)) := by rw [Bool.eq_iff_iff]; simp [mL]
    simp only [has_spec, xU, xI, xL, Option.bind_some]
    by_cases h1 : Mem a d
    · simp only [decide_eq_true h1, Bool.true_or, Bool.true_and, if_true, bne_self_eq_false, Bool.false_eq_true, if_false]
      exact hj
    · simp only [decide_eq_false h1, Bool.false_or, Bool.false_and, if_true, bne_self_eq_false, Bool.false_eq_true, if_false]
      exact hj
  · have h' : ¬ (Norm b ∧ Norm a) := fun x => h ⟨x.2, x.1⟩
    refine Ev.bind (Union_not ha hb h) (Ev.bind (Common_not ha hb h) (Ev.bind (Less_not ha hb h) (Ev.bind (Less_not hb ha h') ?_)))
    have hj : Ev (fun k => furlonglaw6_CoverSets.j0 k a b d [] 600 [] 600 [] 600 [] 600 true) true := by
      refine Ev.succ ?_
      simp only [furlonglaw6_CoverSets.j0]
      refine Ev.pos trivial ?_
      refine Ev.bind (Ev.const (num _)) (Ev.pos rfl ?_)
      refine Ev.bind (Ev.const (num _)) (Ev.pos rfl ?_)
      refine Ev.bind (Ev.const (num _)) (Ev.pos rfl ?_)
      exact Ev.bind (Ev.const (num _)) (Ev.const rfl)
    by_cases na : Norm a
    · have nb : ¬ Norm b := fun nb => h ⟨na, nb⟩
      exact Ev.bind (may_true na) (Ev.pos rfl (Ev.bind (may_false hb nb) hj))
    · exact Ev.bind (may_false ha na) (Ev.neg (by simp) hj)
theorem CoverSets.pure (l0 : List S41) (h0 : l0.length ≤ 9223372036854775807) (l1 : List S41) (h1 : l1.length ≤ 9223372036854775807) (d : Int) (_ : (Lit.int .i64 d).wf = true) : ∃ k, furlonglaw6_CoverSets.f k l0 l1 d = some true := (CoverSets.ev l0 l1 d h0 h1).at
end Go.Proofs.Ytngcljnhcbbdmaa.C
