/-
  cover.Has, walked: it tells whether a place lies in one of the ranges; what lay in memory before is as it was.
-/
import Derived.Test.YtngcljnhcbbdmaaGBase
import Derived.Test.YtngcljnhcbbdmaaShelf
import Derived.Lib.SliceRun
namespace Go.Proofs.Ytngcljnhcbbdmaa.C
open Go.RowKit Go.Proofs.YtngcljnhcbbdmaaW.PrintWords Go.Proofs.YtngcljnhcbbdmaaW.PrintLast Go.Proofs.YtngcljnhcbbdmaaW.PrintMore
set_option linter.unusedVariables false
set_option linter.unusedSimpArgs false

def inRange (d : Int) (x : S41) : Bool := decide (x.f0 ≤ d) && decide (d < x.f1)
def cover_Has.f (l0 : List (S41)) (a1 : Int) : Option (Bool) := some (l0.any (inRange a1))

theorem has_closure (d : Int) (B : Nat) (w : World) (hB : B < w.heap.size) (hcell : w.cell? ⟨B, 0, none⟩ = some (.int .i64 d)) :
    PredBelow Try.prog 35 #[.pointer (some ⟨B, 0, none⟩)] (fun x => .agg (enc41 x).toArray) (fun x => inRange d x) w := fun W x hb => by
  have hc : W.cell? ⟨B, 0, none⟩ = some (.int .i64 d) := (hb.cell (p := ⟨B, 0, none⟩) hB).trans hcell
  have hBW : B < W.heap.size := Nat.lt_of_lt_of_le hB hb.size
  have hne : B ≠ W.heap.size := by omega
  show Calls Try.prog 35 #[.agg #[.int .i64 x.f0, .int .i64 x.f1], .pointer (some ⟨B, 0, none⟩)] W _
  by_cases h1 : x.f0 ≤ d
  · have h1b : decide (x.f0 ≤ d) = true := decide_eq_true h1
    go_enter Try.func35, Try.ntmps35
    go_wp2
    all_goals (go_ret; exact ⟨by simp [inRange, *], hb.alloc hb.size _⟩)
  · have h1b : decide (x.f0 ≤ d) = false := decide_eq_false h1
    go_enter Try.func35, Try.ntmps35
    go_wp2
    all_goals (go_ret; exact ⟨by simp [inRange, *], hb.alloc hb.size _⟩)

set_option maxHeartbeats 1000000 in
/-- no element: the loop has no round -/
theorem containsNone (A : Option Addr) (c : Nat) (fv : Value) (w : World) :
    Calls Try.prog 34 #[.slice A 0 c, fv] w fun e w' => e = .returned (.bool false) ∧ w' = w := by
  have h42 : ∀ W : World, Calls Try.prog 42 #[.slice A 0 c, fv] W fun e w' => e = .returned (.int .i64 (-1)) ∧ w' = W := by
    intro W
    go_enter Try.func42, Try.ntmps42
    go_wp2
    refine wp_loop_rounds 1 ?_
    rw [rounds_succ]
    go_wp2
    go_ret
    exact ⟨rfl, rfl⟩
  go_enter Try.func34, Try.ntmps34
  go_wp2_with (go_at_call 42; refine (h42 _).mono ?_; rintro e w' ⟨rfl, rfl⟩)
  go_ret
  exact ⟨rfl, rfl⟩

set_option maxHeartbeats 8000000 in
set_option maxRecDepth 100000 in
theorem cover_Has.calls (A0 : Option Addr) (c0 : Nat) (l0 : List (S41)) (a1 : Int) (r : Bool) (w : World) (hr0 : Kd.C k41 w A0 l0.length l0) (hc0 : l0.length ≤ c0) (h : cover_Has.f l0 a1 = some r) :
    Calls Try.prog 18 #[.slice A0 l0.length c0, .int .i64 a1] w fun e w' => e = .returned (.bool r) ∧ Below w.heap.size w w' := by
  obtain rfl := Option.some.inj h
  clear h
  rcases Nat.eq_zero_or_pos l0.length with h0 | hp
  · have hl : l0 = [] := List.eq_nil_of_length_eq_zero h0
    subst hl
    have hcon := containsNone A0 c0 (.func (.func 35) #[] #[.pointer (some ⟨w.heap.size, 0, none⟩)]) (w.alloc (.cells #[.int .i64 a1] 3))
    clear hr0 hc0 h0
    go_enter Try.func18, Try.ntmps18
    go_wp2_with (go_at_call 34; refine hcon.mono ?_; rintro e w' ⟨rfl, rfl⟩)
    go_ret
    exact ⟨rfl, (Below.refl _ w).alloc (Nat.le_refl _) _⟩
  · obtain ⟨b, o, rfl, hb, hcell⟩ := has_cells hr0 hp
    have hm := hr0.2.1
    have eg : ∀ args w, (callFunc 35 args).run Try.prog w = .ok (.enter 35 args) w := enters_of Try.func35 (by kernel_rfl) rfl
    have hcon := AnyQ.slices_ContainsFunc Try.laysH8 2 Try.isAgg41 Try.sizeOf41 enc41 (fun _ => rfl) (inRange a1) 35 #[.pointer (some ⟨w.heap.size, 0, none⟩)] eg b o l0.length c0 l0 (w.alloc (.cells #[.int .i64 a1] 3))
      (has_closure a1 w.heap.size _ (by simp) (by simp)) (Nat.le_refl _) hm (by simp; omega) (fun j hj i v hi => Lib.cell?_alloc_some _ (hcell j hj i v hi))
    rw [List.take_length] at hcon
    change Calls Try.prog 34 _ _ _ at hcon
    generalize l0.any (inRange a1) = r at hcon ⊢
    generalize l0.length = n at hcon hm ⊢
    clear hcell hr0 hc0 hp
    go_enter Try.func18, Try.ntmps18
    go_wp2_with (go_at_call 34; refine hcon.mono ?_; rintro e w' ⟨rfl, hb'⟩)
    go_ret
    exact ⟨rfl, ((Below.refl _ w).alloc (Nat.le_refl _) _).trans (hb'.mono (by simp))⟩
end Go.Proofs.Ytngcljnhcbbdmaa.C
