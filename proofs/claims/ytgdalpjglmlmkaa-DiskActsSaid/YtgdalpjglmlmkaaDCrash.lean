/-
  The disk's Crash, walked.
-/
import Derived.Test.YtgdalpjglmlmkaaDSync
import Derived.Test.YtgdalpjglmlmkaaDKeys
namespace Go.Proofs.Ytgdalpjglmlmkaa.D
open Go.RowKit Go.Maps Go.Sort Go.Proofs.YtgdalpjglmlmkaaW.PrintWords Go.Proofs.YtgdalpjglmlmkaaW.PrintLast Go.Proofs.YtgdalpjglmlmkaaW.PrintMore
set_option linter.unusedVariables false
set_option linter.unusedSimpArgs false

/-- the keys of what is fresh, rising -/
def Dk.keys (d : Dk) : List Nat := (List.range d.F.length).filter fun i => (d.F.getD i none).isSome
theorem keys_of {d : Dk} {D : DataW Unit} (hf : Fresh D d.F) {W : World} {bm n : Nat} (hown : W.ownsMap Try.prog 3 (plainElem Try.prog 9) bm n D) {ss : List Int} (hp : ss.Perm (intKeys D)) : ss.mergeSort (fun x y => decide (x ≤ y)) = d.keys.map Int.ofNat := by
  obtain ⟨es, he, h1, h2⟩ := hown.entries law3
  subst he
  have hmem : ∀ x : Int, x ∈ d.keys.map Int.ofNat ↔ Maps.has (.map es : DataW Unit) (.int .i64 x) = true := by
    intro x
    rw [List.mem_map]
    constructor
    · rintro ⟨i, hi, rfl⟩
      have h := List.mem_filter.1 hi
      have hlt := List.mem_range.1 h.1
      show Maps.has _ (.int .i64 (i : Int)) = true
      rw [(hf.1 i hlt).1]
      exact h.2
    · intro hx
      obtain ⟨i, hi, e⟩ := hf.2 _ hx
      injection e with _ e
      subst e
      refine ⟨i, List.mem_filter.2 ⟨List.mem_range.2 hi, ?_⟩, rfl⟩
      show (d.F.getD i none).isSome = true
      rw [← (hf.1 i hi).1]
      exact hx
  have hlt : (d.keys.map Int.ofNat).Pairwise (· < ·) := by
    refine List.pairwise_map.2 (((List.pairwise_lt_range (n := d.F.length)).filter _).imp ?_)
    intro x y hxy
    show (x : Int) < y
    omega
  have hk : ∀ p ∈ es, ∃ x, p.1 = .int .i64 x := by
    intro p hp2
    obtain ⟨i, hi, e⟩ := hf.2 p.1 (by
      rw [Maps.has_eq, List.any_eq_true]
      have h3 := h2 p hp2
      refine ⟨p, hp2, ?_⟩
      generalize p.1 = l at h3
      cases l <;> first | (simp [Lit.sameKey]; done) | (exact absurd h3 (by simp [WideAt.IsKeyLit])))
    exact ⟨_, e⟩
  have hq : (d.keys.map Int.ofNat).Perm (intKeys (.map es : DataW Unit)) := perm_intKeys h1 hk (hlt.imp fun h => Int.ne_of_lt h) hmem
  have hs := List.pairwise_mergeSort (le := fun x y : Int => decide (x ≤ y)) (fun x y z p q => by simp at p q ⊢; omega) (fun x y => by simp; omega) ss
  have hpp : (ss.mergeSort (fun x y => decide (x ≤ y))).Perm (d.keys.map Int.ofNat) := (List.mergeSort_perm ss _).trans (hp.trans hq.symm)
  refine hpp.eq_of_pairwise (le := fun x y : Int => x ≤ y) (fun a b _ _ h1 h2 => Int.le_antisymm h1 h2) (hs.imp fun h => by simpa using h) (hlt.imp fun h => Int.le_of_lt h)
end Go.Proofs.Ytgdalpjglmlmkaa.D
