/-
  slices.Sort at []int, by the shelf's contract: a row of the call's own holds its numbers in ascending order; nothing else turns.
-/
import Derived.Test.YtngcljnhcbbdmaaGBase
import Derived.Test.YtngcljnhcbbdmaaShelf
import Derived.Sort.OwnSortedInts
import Derived.Shelf.Slices.In.SortNone
namespace Go.Proofs.Ytngcljnhcbbdmaa.C
open Go.RowKit Go.Proofs.YtngcljnhcbbdmaaW.PrintWords Go.Proofs.YtngcljnhcbbdmaaW.PrintLast Go.Proofs.YtngcljnhcbbdmaaW.PrintMore
set_option linter.unusedVariables false
set_option linter.unusedSimpArgs false

def sortZ (l : List Int) : List Int := l.mergeSort fun x y => decide (x ≤ y)
def slices_Sort_int_int.f (l0 : List Int) : Option (List Int) := if l0.length < 4611686018427387904 then some (sortZ l0) else none

set_option maxHeartbeats 8000000 in
set_option maxRecDepth 100000 in
theorem slices_Sort_int_int.calls (P0_ : Nat → Prop) (u9000_ : Value) (l0 : List Int) (r : List Int) (w0 w : World) (hB : Below w0.heap.size w0 w) (ho0 : Kd.R (Kd.int .i64) 3 w w0.heap.size P0_ u9000_ l0) (h : slices_Sort_int_int.f l0 = some r) :
    Calls Try.prog 25 #[u9000_] w fun e w' => e = .returned (.tuple #[]) ∧ Kd.R (Kd.int .i64) 3 w' w0.heap.size (fun k_ => (P0_ k_ ∨ w.heap.size ≤ k_)) u9000_ r ∧ Below w0.heap.size w0 w' ∧ Kept w w' (fun k_ => P0_ k_) := by
  unfold slices_Sort_int_int.f at h
  split at h
  case isFalse => simp at h
  case isTrue hsz =>
  obtain rfl := Option.some.inj h
  have hown := Kd.own_of_R ho0
  have hR := ho0.1
  rcases hown.2 with ⟨hv, h0⟩ | ⟨g, cap, cur, hv, hbase, hb, h1, h2, h3, h4⟩
  · subst hv
    have hl : l0 = [] := List.eq_nil_of_length_eq_zero h0
    subst hl
    refine (Any.slices_Sort_int_none Try.lays189 none 0 w).mono ?_
    rintro e w' ⟨rfl, rfl⟩
    exact ⟨rfl, by simpa [sortZ] using Kd.R_nil _ _ _ _ _, hB, Kept.refl _ _⟩
  · subst hv
    have ht : cur.toList.take l0.length = l0.map (Value.int .i64) := by simpa [encs] using h4
    have hlt : g < w.heap.size := (Array.getElem?_eq_some_iff.1 hb).1
    have hP : P0_ g := hR g rfl
    have hcon := Any.slices_Sort_int Try.lays189 g 0 cap l0 w (holds_of_blockI hb ht) hlt hsz
    refine hcon.mono ?_
    rintro e w' ⟨rfl, n, os, rfl⟩
    have hll : (sortZ l0).length = l0.length := by simp [sortZ]
    have ho := ownsRow_sortedI (n := n) (os := os) (ts := sortZ l0) (ss := l0) hll hbase hb h1 h2 h3
    have hg := grownBy_sortedI (w := w) (g := g) (n := n) (os := os) (sortZ l0).toArray
    refine ⟨rfl, ?_, below_of_grownBy hB hg hbase, kept_of_grownBy hg hP⟩
    refine Kd.R_of_own ?_ (fun k hk => .inl (hR k hk))
    rw [hll]
    exact ho
end Go.Proofs.Ytngcljnhcbbdmaa.C
