-- PRINTED by print.py (a twelfth state) out of the translation. Not trusted: Lean checks it.
import Derived.Test.YtngcljnhcbbdmaaC0
import Derived.Test.YtngcljnhcbbdmaaC4
import Derived.Test.YtngcljnhcbbdmaaC5
namespace Go.Proofs.Ytngcljnhcbbdmaa.C
open Go.RowKit Go.Proofs.YtngcljnhcbbdmaaW.PrintWords Go.Proofs.YtngcljnhcbbdmaaW.PrintLast Go.Proofs.YtngcljnhcbbdmaaW.PrintMore
attribute [local go_sem] max2_int min2_int max_two min_two max_three min_three max_four min_four   -- for this text's walks alone
set_option linter.unusedVariables false
set_option linter.unusedSimpArgs false

/-! ### furlongref1_Mix: function 13 -/
mutual
def furlongref1_Mix.j0 : Nat → Int → List (S41) → List (S41) → Bool → Option ((List (S41)) × Int)
  | 0, _, _, _, _ => none
  | k + 1, x0, x1, x2, x21 => if x21 = true then (some (([] : List (S41)), 600)) else (furlongref1_Mix.l0 k x0 x1 x2 ([] : List (S41)) (-1))
def furlongref1_Mix.l0 : Nat → Int → List (S41) → List (S41) → List (S41) → Int → Option ((List (S41)) × Int)
  | 0, _, _, _, _, _ => none
  | k + 1, x0, x1, x2, x8, x9 => if x9 < 4294967296 then ((furlongref1_HasRange.f k x1 x9).bind fun t181 => ((furlongref1_HasRange.f k x2 x9).bind fun t182 => (if x9 ≥ 0 then (if x0 = 0 then (if t181 = true then (furlongref1_Mix.j2 k x0 x1 x2 x8 x9 true) else (if t182 = true then (furlongref1_Mix.j2 k x0 x1 x2 x8 x9 true) else (if x0 = 1 then (if x0 = 2 then (furlongref1_Mix.j2 k x0 x1 x2 x8 x9 false) else (furlongref1_Mix.j2 k x0 x1 x2 x8 x9 false)) else (if x0 = 2 then (furlongref1_Mix.j2 k x0 x1 x2 x8 x9 false) else (furlongref1_Mix.j2 k x0 x1 x2 x8 x9 false))))) else (if x0 = 1 then (if t181 = true then (if t182 = true then (furlongref1_Mix.j2 k x0 x1 x2 x8 x9 true) else (if x0 = 2 then (furlongref1_Mix.j2 k x0 x1 x2 x8 x9 (!t182)) else (furlongref1_Mix.j2 k x0 x1 x2 x8 x9 false))) else (if x0 = 2 then (furlongref1_Mix.j2 k x0 x1 x2 x8 x9 false) else (furlongref1_Mix.j2 k x0 x1 x2 x8 x9 false))) else (if x0 = 2 then (if t181 = true then (furlongref1_Mix.j2 k x0 x1 x2 x8 x9 (!t182)) else (furlongref1_Mix.j2 k x0 x1 x2 x8 x9 false)) else (furlongref1_Mix.j2 k x0 x1 x2 x8 x9 false)))) else (furlongref1_Mix.j2 k x0 x1 x2 x8 x9 false)))) else (some (x8, 0))
def furlongref1_Mix.j2 : Nat → Int → List (S41) → List (S41) → List (S41) → Int → Bool → Option ((List (S41)) × Int)
  | 0, _, _, _, _, _, _ => none
  | k + 1, x0, x1, x2, x8, x9, x12 => (furlongref1_after.f k x1 x9).bind fun t183 => ((furlongref1_after.f k x2 x9).bind fun t184 => (if x12 = true then (if (x8.length : Int) > 0 then (if 0 ≤ (wrap64 ((x8.length : Int) - 1)) then (if (wrap64 ((x8.length : Int) - 1)) < (x8.length : Int) then (furlongref1_Mix.j3 k x0 x1 x2 x8 x9 x12 (mn t183 t184) (((rd_T41 x8 (wrap64 ((x8.length : Int) - 1))).f1) == x9)) else (none)) else (none)) else (furlongref1_Mix.j3 k x0 x1 x2 x8 x9 x12 (mn t183 t184) false)) else (furlongref1_Mix.j3 k x0 x1 x2 x8 x9 x12 (mn t183 t184) false)))
def furlongref1_Mix.j3 : Nat → Int → List (S41) → List (S41) → List (S41) → Int → Bool → Int → Bool → Option ((List (S41)) × Int)
  | 0, _, _, _, _, _, _, _, _ => none
  | k + 1, x0, x1, x2, x8, x9, x12, x13, x86 => if x86 = true then (if 0 ≤ (wrap64 ((x8.length : Int) - 1)) then (if (wrap64 ((x8.length : Int) - 1)) < (x8.length : Int) then (furlongref1_Mix.l0 k x0 x1 x2 (x8.set ((wrap64 ((x8.length : Int) - 1)) : Int).toNat (⟨(rd_T41 x8 (wrap64 ((x8.length : Int) - 1))).f0, x13⟩ : S41)) x13) else (none)) else (none)) else (if x12 = true then (if x8.length < 8796093022208 then (furlongref1_Mix.l0 k x0 x1 x2 (x8 ++ [(⟨x9, x13⟩ : S41)]) x13) else (none)) else (furlongref1_Mix.l0 k x0 x1 x2 x8 x13))
end
def furlongref1_Mix.f (k : Nat) (a0 : Int) (l1 : List (S41)) (l2 : List (S41)) : Option ((List (S41)) × Int) := (furlongref1_RangesMay.f k l1).bind fun t179 => (if t179 = true then ((furlongref1_RangesMay.f k l2).bind fun t180 => (furlongref1_Mix.j0 k a0 l1 l2 (!t180))) else (furlongref1_Mix.j0 k a0 l1 l2 true))
theorem furlongref1_Mix.mono_l : ∀ k, (∀ y0 y1 y2 y3, LeO (furlongref1_Mix.j0 k y0 y1 y2 y3) (furlongref1_Mix.j0 (k + 1) y0 y1 y2 y3)) ∧ (∀ y0 y1 y2 y3 y4, LeO (furlongref1_Mix.l0 k y0 y1 y2 y3 y4) (furlongref1_Mix.l0 (k + 1) y0 y1 y2 y3 y4)) ∧ (∀ y0 y1 y2 y3 y4 y5, LeO (furlongref1_Mix.j2 k y0 y1 y2 y3 y4 y5) (furlongref1_Mix.j2 (k + 1) y0 y1 y2 y3 y4 y5)) ∧ (∀ y0 y1 y2 y3 y4 y5 y6 y7, LeO (furlongref1_Mix.j3 k y0 y1 y2 y3 y4 y5 y6 y7) (furlongref1_Mix.j3 (k + 1) y0 y1 y2 y3 y4 y5 y6 y7))
  | 0 => ⟨fun _ _ _ _ r h => by simp [furlongref1_Mix.j0] at h, fun _ _ _ _ _ r h => by simp [furlongref1_Mix.l0] at h, fun _ _ _ _ _ _ r h => by simp [furlongref1_Mix.j2] at h, fun _ _ _ _ _ _ _ _ r h => by simp [furlongref1_Mix.j3] at h⟩
  | k + 1 => by
    obtain ⟨ih0, ih1, ih2, ih3⟩ := furlongref1_Mix.mono_l k
    refine ⟨?_, ?_, ?_, ?_⟩
    · intro y0 y1 y2 y3
      unfold furlongref1_Mix.j0
      repeat' first
      | (with_reducible exact ih0 _ _ _ _)
      | (with_reducible exact ih1 _ _ _ _ _)
      | (with_reducible exact ih2 _ _ _ _ _ _)
      | (with_reducible exact ih3 _ _ _ _ _ _ _ _)
      | (with_reducible exact furlongref1_HasRange.mono _ _ _)
      | (with_reducible exact furlongref1_RangesMay.mono _ _)
      | (with_reducible exact furlongref1_after.mono _ _ _)
      | (with_reducible exact LeO.refl _)
      | (with_reducible exact LeO.none _)
      | (with_reducible refine LeO.ite ?_ ?_)
      | (with_reducible refine LeO.bind ?_ (fun _ => ?_))
      | exact ih0 _ _ _ _
      | exact ih1 _ _ _ _ _
      | exact ih2 _ _ _ _ _ _
      | exact ih3 _ _ _ _ _ _ _ _
      | exact furlongref1_HasRange.mono _ _ _
      | exact furlongref1_RangesMay.mono _ _
      | exact furlongref1_after.mono _ _ _
      | exact LeO.none _
      | refine LeO.ite ?_ ?_
      | refine LeO.bind ?_ (fun _ => ?_)
    · intro y0 y1 y2 y3 y4
      unfold furlongref1_Mix.l0
      repeat' first
      | (with_reducible exact ih0 _ _ _ _)
      | (with_reducible exact ih1 _ _ _ _ _)
      | (with_reducible exact ih2 _ _ _ _ _ _)
      | (with_reducible exact ih3 _ _ _ _ _ _ _ _)
      | (with_reducible exact furlongref1_HasRange.mono _ _ _)
      | (with_reducible exact furlongref1_RangesMay.mono _ _)
      | (with_reducible exact furlongref1_after.mono _ _ _)
      | (with_reducible exact LeO.refl _)
      | (with_reducible exact LeO.none _)
      | (with_reducible refine LeO.ite ?_ ?_)
      | (with_reducible refine LeO.bind ?_ (fun _ => ?_))
      | exact ih0 _ _ _ _
      | exact ih1 _ _ _ _ _
      | exact ih2 _ _ _ _ _ _
      | exact ih3 _ _ _ _ _ _ _ _
      | exact furlongref1_HasRange.mono _ _ _
      | exact furlongref1_RangesMay.mono _ _
      | exact furlongref1_after.mono _ _ _
      | exact LeO.none _
      | refine LeO.ite ?_ ?_
      | refine LeO.bind ?_ (fun _ => ?_)
    · intro y0 y1 y2 y3 y4 y5
      unfold furlongref1_Mix.j2
      repeat' first
      | (with_reducible exact ih0 _ _ _ _)
      | (with_reducible exact ih1 _ _ _ _ _)
      | (with_reducible exact ih2 _ _ _ _ _ _)
      | (with_reducible exact ih3 _ _ _ _ _ _ _ _)
      | (with_reducible exact furlongref1_HasRange.mono _ _ _)
      | (with_reducible exact furlongref1_RangesMay.mono _ _)
      | (with_reducible exact furlongref1_after.mono _ _ _)
      | (with_reducible exact LeO.refl _)
      | (with_reducible exact LeO.none _)
      | (with_reducible refine LeO.ite ?_ ?_)
      | (with_reducible refine LeO.bind ?_ (fun _ => ?_))
      | exact ih0 _ _ _ _
      | exact ih1 _ _ _ _ _
      | exact ih2 _ _ _ _ _ _
      | exact ih3 _ _ _ _ _ _ _ _
      | exact furlongref1_HasRange.mono _ _ _
      | exact furlongref1_RangesMay.mono _ _
      | exact furlongref1_after.mono _ _ _
      | exact LeO.none _
      | refine LeO.ite ?_ ?_
      | refine LeO.bind ?_ (fun _ => ?_)
    · intro y0 y1 y2 y3 y4 y5 y6 y7
      unfold furlongref1_Mix.j3
      repeat' first
      | (with_reducible exact ih0 _ _ _ _)
      | (with_reducible exact ih1 _ _ _ _ _)
      | (with_reducible exact ih2 _ _ _ _ _ _)
      | (with_reducible exact ih3 _ _ _ _ _ _ _ _)
      | (with_reducible exact furlongref1_HasRange.mono _ _ _)
      | (with_reducible exact furlongref1_RangesMay.mono _ _)
      | (with_reducible exact furlongref1_after.mono _ _ _)
      | (with_reducible exact LeO.refl _)
      | (with_reducible exact LeO.none _)
      | (with_reducible refine LeO.ite ?_ ?_)
      | (with_reducible refine LeO.bind ?_ (fun _ => ?_))
      | exact ih0 _ _ _ _
      | exact ih1 _ _ _ _ _
      | exact ih2 _ _ _ _ _ _
      | exact ih3 _ _ _ _ _ _ _ _
      | exact furlongref1_HasRange.mono _ _ _
      | exact furlongref1_RangesMay.mono _ _
      | exact furlongref1_after.mono _ _ _
      | exact LeO.none _
      | refine LeO.ite ?_ ?_
      | refine LeO.bind ?_ (fun _ => ?_)
theorem furlongref1_Mix.mono : ∀ a0 a1 a2 k, LeO (furlongref1_Mix.f k a0 a1 a2) (furlongref1_Mix.f (k + 1) a0 a1 a2) := by
  intro a0 a1 a2 k
  obtain ⟨ih0, ih1, ih2, ih3⟩ := furlongref1_Mix.mono_l k
  unfold furlongref1_Mix.f
  repeat' first
      | (with_reducible exact ih0 _ _ _ _)
      | (with_reducible exact ih1 _ _ _ _ _)
      | (with_reducible exact ih2 _ _ _ _ _ _)
      | (with_reducible exact ih3 _ _ _ _ _ _ _ _)
      | (with_reducible exact furlongref1_HasRange.mono _ _ _)
      | (with_reducible exact furlongref1_RangesMay.mono _ _)
      | (with_reducible exact furlongref1_after.mono _ _ _)
      | (with_reducible exact LeO.refl _)
      | (with_reducible exact LeO.none _)
      | (with_reducible refine LeO.ite ?_ ?_)
      | (with_reducible refine LeO.bind ?_ (fun _ => ?_))
      | exact ih0 _ _ _ _
      | exact ih1 _ _ _ _ _
      | exact ih2 _ _ _ _ _ _
      | exact ih3 _ _ _ _ _ _ _ _
      | exact furlongref1_HasRange.mono _ _ _
      | exact furlongref1_RangesMay.mono _ _
      | exact furlongref1_after.mono _ _ _
      | exact LeO.none _
      | refine LeO.ite ?_ ?_
      | refine LeO.bind ?_ (fun _ => ?_)
set_option maxHeartbeats 8000000 in
set_option maxRecDepth 100000 in
theorem furlongref1_Mix.calls (k : Nat) (a0 : Int) (A1 : Option Addr) (c1 : Nat) (l1 : List (S41)) (A2 : Option Addr) (c2 : Nat) (l2 : List (S41)) (r1 : List (S41)) (r2 : Int) (w : World) (hr1 : Kd.C k41 w A1 l1.length l1) (hc1 : l1.length ≤ c1) (hr2 : Kd.C k41 w A2 l2.length l2) (hc2 : l2.length ≤ c2) (h : furlongref1_Mix.f k a0 l1 l2 = some (r1, r2)) :
    Calls Try.prog 13 #[.int .i64 a0, .slice A1 l1.length c1, .slice A2 l2.length c2] w fun e w' => ∃ v0_ : Value, e = .returned (.tuple #[v0_, .int .i64 r2]) ∧ Kd.R k41 41 w' w.heap.size (fun _ => True) v0_ r1 ∧ Below w.heap.size w w' := by
  have hu41 := Try.underlying41
  have HR1 := Aside0.mk hr1
  have HC1 := Aside0.mk hc1
  clear hr1 hc1
  have HR2 := Aside0.mk hr2
  have HC2 := Aside0.mk hc2
  clear hr2 hc2
  have HB := Aside0.mk (Below.refl w.heap.size w)
  have H : ((furlongref1_RangesMay.f k l1).bind fun t179 => (if t179 = true then ((furlongref1_RangesMay.f k l2).bind fun t180 => (furlongref1_Mix.j0 k a0 l1 l2 (!t180))) else (furlongref1_Mix.j0 k a0 l1 l2 true))) = some (r1, r2) := h
  clear h
  have HC4 := Aside0.mk H
  clear H
  go_enter Try.func13, Try.ntmps13
  go_upto_region 1 with (fail)
  go_cut [21] (fun v21 wc => ∃ (kq : Nat) (x21_3 : Bool), v21 = .bool x21_3 ∧ Aside0 (furlongref1_Mix.j0 kq a0 l1 l2 x21_3 = some (r1, r2)) ∧ Aside0 (kq ≤ k) ∧ Aside0 (Below w.heap.size w wc))
  case first =>
    have H := HC4.out
    clear HC4
    replace H := Option.bind_eq_some_iff.mp H
    obtain ⟨t179, A50, H⟩ := H
    replace H : (if t179 = true then ((furlongref1_RangesMay.f k l2).bind fun t180 => (furlongref1_Mix.j0 k a0 l1 l2 (!t180))) else (furlongref1_Mix.j0 k a0 l1 l2 true)) = some (r1, r2) := H
    have A5 := Aside0.mk A50
    clear A50
    by_cases c6 : t179 = true
    · subst c6
      have H1 : ((furlongref1_RangesMay.f k l2).bind fun t180 => (furlongref1_Mix.j0 k a0 l1 l2 (!t180))) = some (r1, r2) := by rw [if_pos rfl] at H; exact H
      clear H
      have H := H1
      clear H1
      replace H := Option.bind_eq_some_iff.mp H
      obtain ⟨t180, A70, H⟩ := H
      replace H : (furlongref1_Mix.j0 k a0 l1 l2 (!t180)) = some (r1, r2) := H
      have A7 := Aside0.mk A70
      clear A70
      have H' := Aside0.mk H
      clear H
      go_wp2_with (first | ((with_reducible refine gate_callee (f := 17) rfl ?_); refine goesL_ (some 15) rfl rfl Try.func17 (by kernel_rfl) rfl #[.slice A1 l1.length c1] rfl (by (try simp only [List.map_toArray, List.map_cons, List.map_nil]); first | done | rfl | (simp only [List.length_drop, List.length_take]; rfl)) ?_; (with_reducible refine (furlongref1_RangesMay.calls k _ _ l1 true _ ?side1 ?side2 A5.out).mono ?_); (case side1 => repeat (first | exact (Kd.C_below HR1.out HB.out) | (with_reducible refine Kd.C_alloc ?_ _) | (with_reducible refine Kd.C_drewN ?_ _) | (with_reducible refine Kd.C_drew ?_))); (case side2 => exact HC1.out); rintro e w' ⟨rfl, ⟨nd, rfl⟩⟩; refine ⟨_, rfl, ?_⟩) | (go_at_call 17; (with_reducible refine (furlongref1_RangesMay.calls k _ _ l2 t180 _ ?side1 ?side2 A7.out).mono ?_); (case side1 => repeat (first | exact (Kd.C_below HR2.out (by repeat (first | (with_reducible first | exact HB.out | apply below_alloc | apply pw_below_drewN | apply below_drew1) | exact HB.out))) | (with_reducible refine Kd.C_alloc ?_ _) | (with_reducible refine Kd.C_drewN ?_ _) | (with_reducible refine Kd.C_drew ?_))); (case side2 => exact HC2.out); rintro e w' ⟨rfl, ⟨nd, rfl⟩⟩))
      go_meet
      case rel => exact ⟨_, (!t180), (by first | rfl | (simp; done) | (simp [*]; done)), H', ⟨by first | omega | exact Nat.le_refl _⟩, ⟨by repeat (first | (with_reducible first | exact HB.out | apply below_alloc | apply pw_below_drewN | apply below_drew1) | exact HB.out)⟩⟩
    · replace c6 := Bool.eq_false_iff.mpr c6
      subst c6
      have H1 : (furlongref1_Mix.j0 k a0 l1 l2 true) = some (r1, r2) := by rw [if_neg (show ¬ (false = true) by decide)] at H; exact H
      clear H
      have H := H1
      clear H1
      have H' := Aside0.mk H
      clear H
      go_wp2_with (first | ((with_reducible refine gate_callee (f := 17) rfl ?_); refine goesL_ (some 15) rfl rfl Try.func17 (by kernel_rfl) rfl #[.slice A1 l1.length c1] rfl (by (try simp only [List.map_toArray, List.map_cons, List.map_nil]); first | done | rfl | (simp only [List.length_drop, List.length_take]; rfl)) ?_; (with_reducible refine (furlongref1_RangesMay.calls k _ _ l1 false _ ?side1 ?side2 A5.out).mono ?_); (case side1 => repeat (first | exact (Kd.C_below HR1.out HB.out) | (with_reducible refine Kd.C_alloc ?_ _) | (with_reducible refine Kd.C_drewN ?_ _) | (with_reducible refine Kd.C_drew ?_))); (case side2 => exact HC1.out); rintro e w' ⟨rfl, ⟨nd, rfl⟩⟩; refine ⟨_, rfl, ?_⟩))
      go_meet
      case rel => exact ⟨_, (true), (by first | rfl | (simp; done) | (simp [*]; done)), H', ⟨by first | omega | exact Nat.le_refl _⟩, ⟨by repeat (first | (with_reducible first | exact HB.out | apply below_alloc | apply pw_below_drewN | apply below_drew1) | exact HB.out)⟩⟩
  case rest =>
    clear HC4
    try clear c1
    try clear c2
    try clear p2
    try clear c6
    obtain ⟨kq, x21_3, rfl, HA, HJ3, HB⟩ := hcut
    cases kq with
    | zero => exact absurd HA.out (by simp [furlongref1_Mix.j0])
    | succ kj3 =>
      have H := HA.out
      clear HA
      simp only [furlongref1_Mix.j0] at H
      by_cases c8 : x21_3 = true
      · subst c8
        have H1 : (some (([] : List (S41)), 600)) = some (r1, r2) := by rw [if_pos rfl] at H; exact H
        clear H
        have H := H1
        clear H1
        simp only [Option.some.injEq, Prod.mk.injEq] at H
        obtain ⟨rfl, rfl⟩ := H
        go_wp2
        go_ret2
        exact ⟨_, by first | rfl | (simp [errW_none, errW_some] <;> rfl) | (simp [*, errW_none, errW_some] <;> rfl), by first | exact Kd.R_nil _ _ _ _ _ | exact Kd.N_nil _ _ _ _ _ | exact Kd.V_nil _ _ _ _ _ | exact Kd.Q_nil _ _ _ _ _ | exact Kd.S_nil _ _ _ _ _, by repeat (first | (with_reducible first | exact HB.out | apply below_alloc | apply pw_below_drewN | apply below_drew1) | exact HB.out)⟩
      · replace c8 := Bool.eq_false_iff.mpr c8
        subst c8
        have H1 : (furlongref1_Mix.l0 kj3 a0 l1 l2 ([] : List (S41)) (-1)) = some (r1, r2) := by rw [if_neg (show ¬ (false = true) by decide)] at H; exact H
        clear H
        have H := H1
        clear H1
        have H' := Aside0.mk H
        clear H
        go_wp2
        go_loopg [8, 9] kj3 (fun kq v8 v9 w' => ∃ (x8_2 : List (S41)) (x9_2 : Int), v9 = .int .i64 x9_2 ∧ Aside0 (furlongref1_Mix.l0 kq a0 l1 l2 x8_2 x9_2 = some (r1, r2)) ∧ Aside0 (kq ≤ kj3) ∧ Aside0 (Kd.R k41 41 w' w.heap.size (fun _ => True) v8 x8_2) ∧ Aside0 (Below w.heap.size w w'))
        case atStart => exact ⟨(([] : List (S41))), ((-1)), (by first | rfl | (simp; done) | (simp [*]; done)), H', ⟨Nat.le_refl _⟩, ⟨by first | exact Kd.R_nil _ _ _ _ _ | exact Kd.N_nil _ _ _ _ _ | exact Kd.V_nil _ _ _ _ _ | exact Kd.Q_nil _ _ _ _ _ | exact Kd.S_nil _ _ _ _ _⟩, ⟨by repeat (first | (with_reducible first | exact HB.out | apply below_alloc | apply pw_below_drewN | apply below_drew1) | exact HB.out)⟩⟩
        case round =>
          clear H'
          try clear c1
          try clear c2
          try clear p2
          try clear c6
          try clear c8
          try clear p2
          obtain ⟨x8_2, x9_2, rfl, HA, HK2, HO_8, HB⟩ := hrel
          cases gk with
          | zero => exact absurd HA.out (by simp [furlongref1_Mix.l0])
          | succ k2 =>
            have H := HA.out
            clear HA
            simp only [furlongref1_Mix.l0] at H
            by_cases c9 : x9_2 < 4294967296
            · rw [if_pos c9] at H
              have c9b0 : decide (x9_2 < 4294967296) = true := decide_eq_true c9
              clear c9
              replace H := Option.bind_eq_some_iff.mp H
              obtain ⟨t181, A100, H⟩ := H
              replace H : ((furlongref1_HasRange.f k2 l2 x9_2).bind fun t182 => (if x9_2 ≥ 0 then (if a0 = 0 then (if t181 = true then (furlongref1_Mix.j2 k2 a0 l1 l2 x8_2 x9_2 true) else (if t182 = true then (furlongref1_Mix.j2 k2 a0 l1 l2 x8_2 x9_2 true) else (if a0 = 1 then (if a0 = 2 then (furlongref1_Mix.j2 k2 a0 l1 l2 x8_2 x9_2 false) else (furlongref1_Mix.j2 k2 a0 l1 l2 x8_2 x9_2 false)) else (if a0 = 2 then (furlongref1_Mix.j2 k2 a0 l1 l2 x8_2 x9_2 false) else (furlongref1_Mix.j2 k2 a0 l1 l2 x8_2 x9_2 false))))) else (if a0 = 1 then (if t181 = true then (if t182 = true then (furlongref1_Mix.j2 k2 a0 l1 l2 x8_2 x9_2 true) else (if a0 = 2 then (furlongref1_Mix.j2 k2 a0 l1 l2 x8_2 x9_2 (!t182)) else (furlongref1_Mix.j2 k2 a0 l1 l2 x8_2 x9_2 false))) else (if a0 = 2 then (furlongref1_Mix.j2 k2 a0 l1 l2 x8_2 x9_2 false) else (furlongref1_Mix.j2 k2 a0 l1 l2 x8_2 x9_2 false))) else (if a0 = 2 then (if t181 = true then (furlongref1_Mix.j2 k2 a0 l1 l2 x8_2 x9_2 (!t182)) else (furlongref1_Mix.j2 k2 a0 l1 l2 x8_2 x9_2 false)) else (furlongref1_Mix.j2 k2 a0 l1 l2 x8_2 x9_2 false)))) else (furlongref1_Mix.j2 k2 a0 l1 l2 x8_2 x9_2 false))) = some (r1, r2) := H
              have A10 := Aside0.mk A100
              clear A100
              replace H := Option.bind_eq_some_iff.mp H
              obtain ⟨t182, A110, H⟩ := H
              replace H : (if x9_2 ≥ 0 then (if a0 = 0 then (if t181 = true then (furlongref1_Mix.j2 k2 a0 l1 l2 x8_2 x9_2 true) else (if t182 = true then (furlongref1_Mix.j2 k2 a0 l1 l2 x8_2 x9_2 true) else (if a0 = 1 then (if a0 = 2 then (furlongref1_Mix.j2 k2 a0 l1 l2 x8_2 x9_2 false) else (furlongref1_Mix.j2 k2 a0 l1 l2 x8_2 x9_2 false)) else (if a0 = 2 then (furlongref1_Mix.j2 k2 a0 l1 l2 x8_2 x9_2 false) else (furlongref1_Mix.j2 k2 a0 l1 l2 x8_2 x9_2 false))))) else (if a0 = 1 then (if t181 = true then (if t182 = true then (furlongref1_Mix.j2 k2 a0 l1 l2 x8_2 x9_2 true) else (if a0 = 2 then (furlongref1_Mix.j2 k2 a0 l1 l2 x8_2 x9_2 (!t182)) else (furlongref1_Mix.j2 k2 a0 l1 l2 x8_2 x9_2 false))) else (if a0 = 2 then (furlongref1_Mix.j2 k2 a0 l1 l2 x8_2 x9_2 false) else (furlongref1_Mix.j2 k2 a0 l1 l2 x8_2 x9_2 false))) else (if a0 = 2 then (if t181 = true then (furlongref1_Mix.j2 k2 a0 l1 l2 x8_2 x9_2 (!t182)) else (furlongref1_Mix.j2 k2 a0 l1 l2 x8_2 x9_2 false)) else (furlongref1_Mix.j2 k2 a0 l1 l2 x8_2 x9_2 false)))) else (furlongref1_Mix.j2 k2 a0 l1 l2 x8_2 x9_2 false)) = some (r1, r2) := H
              have A11 := Aside0.mk A110
              clear A110
              have HC12 := Aside0.mk H
              clear H
              go_upto_region 7 with (first | ((with_reducible refine gate_callee (f := 19) rfl ?_); refine goesL_ (some 26) rfl rfl Try.func19 (by kernel_rfl) rfl #[.slice A1 l1.length c1, .int .i64 x9_2] rfl (by (try simp only [List.map_toArray, List.map_cons, List.map_nil]); first | done | rfl | (simp only [List.length_drop, List.length_take]; rfl)) ?_; (with_reducible refine (furlongref1_HasRange.calls k2 _ _ l1 x9_2 t181 _ ?side1 ?side2 A10.out).mono ?_); (case side1 => repeat (first | exact (Kd.C_below HR1.out HB.out) | (with_reducible refine Kd.C_alloc ?_ _) | (with_reducible refine Kd.C_drewN ?_ _) | (with_reducible refine Kd.C_drew ?_))); (case side2 => exact HC1.out); rintro e w' ⟨rfl, ⟨nd, rfl⟩⟩; refine ⟨_, rfl, ?_⟩) | ((with_reducible refine gate_callee (f := 19) rfl ?_); refine goesL_ (some 29) rfl rfl Try.func19 (by kernel_rfl) rfl #[.slice A2 l2.length c2, .int .i64 x9_2] rfl (by (try simp only [List.map_toArray, List.map_cons, List.map_nil]); first | done | rfl | (simp only [List.length_drop, List.length_take]; rfl)) ?_; (with_reducible refine (furlongref1_HasRange.calls k2 _ _ l2 x9_2 t182 _ ?side1 ?side2 A11.out).mono ?_); (case side1 => repeat (first | exact (Kd.C_below HR2.out (by repeat (first | (with_reducible first | exact HB.out | apply below_alloc | apply pw_below_drewN | apply below_drew1) | exact HB.out))) | (with_reducible refine Kd.C_alloc ?_ _) | (with_reducible refine Kd.C_drewN ?_ _) | (with_reducible refine Kd.C_drew ?_))); (case side2 => exact HC2.out); rintro e w' ⟨rfl, ⟨nd, rfl⟩⟩; refine ⟨_, rfl, ?_⟩))
              (try simp only [Act.put, List.setIfInBounds_toArray, List.set_cons_zero, List.set_cons_succ])
              go_cut [12] (fun v12 wc => ∃ (kq : Nat) (x12_11 : Bool), v12 = .bool x12_11 ∧ Aside0 (furlongref1_Mix.j2 kq a0 l1 l2 x8_2 x9_2 x12_11 = some (r1, r2)) ∧ Aside0 (kq ≤ k2) ∧ Aside0 (Kd.R k41 41 wc w.heap.size (fun _ => True) u8 x8_2) ∧ Aside0 (Below w.heap.size w wc))
              case first =>
                have H := HC12.out
                clear HC12
                by_cases c13 : x9_2 ≥ 0
                · rw [if_pos c13] at H
                  have c13b0 : decide (0 ≤ x9_2) = true := decide_eq_true c13
                  clear c13
                  (first | rw [c13b0] | (simp only [i64_w, i32_w]; rw [c13b0]) | skip)
                  by_cases c14 : a0 = 0
                  · rw [if_pos c14] at H
                    have c14b0 : (a0 == 0) = true := beq_iff_eq.mpr c14
                    have c14b1 : (a0 != 0) = false := bne_eq_false_iff_eq.mpr c14
                    clear c14
                    by_cases c15 : t181 = true
                    · subst c15
                      have H1 : (furlongref1_Mix.j2 k2 a0 l1 l2 x8_2 x9_2 true) = some (r1, r2) := by rw [if_pos rfl] at H; exact H
                      clear H
                      have H := H1
                      clear H1
                      have H' := Aside0.mk H
                      clear H
                      go_wp2
                      go_meet
                      case rel => exact ⟨_, (true), (by first | rfl | (simp; done) | (simp [*]; done)), H', ⟨by have := HJ3.out; have := HK2.out; first | omega | exact Nat.le_refl _⟩, ⟨by (with_reducible repeat (first | apply Kd.R_alloc | apply Kd.R_drewN | apply Kd.R_drew)); exact HO_8.out⟩, ⟨by repeat (first | (with_reducible first | exact HB.out | apply below_alloc | apply pw_below_drewN | apply below_drew1) | exact HB.out)⟩⟩
                    · replace c15 := Bool.eq_false_iff.mpr c15
                      subst c15
                      have H1 : (if t182 = true then (furlongref1_Mix.j2 k2 a0 l1 l2 x8_2 x9_2 true) else (if a0 = 1 then (if a0 = 2 then (furlongref1_Mix.j2 k2 a0 l1 l2 x8_2 x9_2 false) else (furlongref1_Mix.j2 k2 a0 l1 l2 x8_2 x9_2 false)) else (if a0 = 2 then (furlongref1_Mix.j2 k2 a0 l1 l2 x8_2 x9_2 false) else (furlongref1_Mix.j2 k2 a0 l1 l2 x8_2 x9_2 false)))) = some (r1, r2) := by rw [if_neg (show ¬ (false = true) by decide)] at H; exact H
                      clear H
                      have H := H1
                      clear H1
                      by_cases c16 : t182 = true
                      · subst c16
                        have H1 : (furlongref1_Mix.j2 k2 a0 l1 l2 x8_2 x9_2 true) = some (r1, r2) := by rw [if_pos rfl] at H; exact H
                        clear H
                        have H := H1
                        clear H1
                        have H' := Aside0.mk H
                        clear H
                        go_wp2
                        go_meet
                        case rel => exact ⟨_, (true), (by first | rfl | (simp; done) | (simp [*]; done)), H', ⟨by have := HJ3.out; have := HK2.out; first | omega | exact Nat.le_refl _⟩, ⟨by (with_reducible repeat (first | apply Kd.R_alloc | apply Kd.R_drewN | apply Kd.R_drew)); exact HO_8.out⟩, ⟨by repeat (first | (with_reducible first | exact HB.out | apply below_alloc | apply pw_below_drewN | apply below_drew1) | exact HB.out)⟩⟩
                      · replace c16 := Bool.eq_false_iff.mpr c16
                        subst c16
                        have H1 : (if a0 = 1 then (if a0 = 2 then (furlongref1_Mix.j2 k2 a0 l1 l2 x8_2 x9_2 false) else (furlongref1_Mix.j2 k2 a0 l1 l2 x8_2 x9_2 false)) else (if a0 = 2 then (furlongref1_Mix.j2 k2 a0 l1 l2 x8_2 x9_2 false) else (furlongref1_Mix.j2 k2 a0 l1 l2 x8_2 x9_2 false))) = some (r1, r2) := by rw [if_neg (show ¬ (false = true) by decide)] at H; exact H
                        clear H
                        have H := H1
                        clear H1
                        by_cases c17 : a0 = 1
                        · rw [if_pos c17] at H
                          have c17b0 : (a0 == 1) = true := beq_iff_eq.mpr c17
                          have c17b1 : (a0 != 1) = false := bne_eq_false_iff_eq.mpr c17
                          clear c17
                          by_cases c18 : a0 = 2
                          · rw [if_pos c18] at H
                            have c18b0 : (a0 == 2) = true := beq_iff_eq.mpr c18
                            have c18b1 : (a0 != 2) = false := bne_eq_false_iff_eq.mpr c18
                            clear c18
                            have H' := Aside0.mk H
                            clear H
                            go_wp2
                            go_meet
                            case rel => exact ⟨_, (false), (by first | rfl | (simp; done) | (simp [*]; done)), H', ⟨by have := HJ3.out; have := HK2.out; first | omega | exact Nat.le_refl _⟩, ⟨by (with_reducible repeat (first | apply Kd.R_alloc | apply Kd.R_drewN | apply Kd.R_drew)); exact HO_8.out⟩, ⟨by repeat (first | (with_reducible first | exact HB.out | apply below_alloc | apply pw_below_drewN | apply below_drew1) | exact HB.out)⟩⟩
                          · rw [if_neg c18] at H
                            have c18b0 : (a0 == 2) = false := beq_eq_false_iff_ne.mpr c18
                            have c18b1 : (a0 != 2) = true := bne_iff_ne.mpr c18
                            have H' := Aside0.mk H
                            clear H
                            go_wp2
                            go_meet
                            case rel => exact ⟨_, (false), (by first | rfl | (simp; done) | (simp [*]; done)), H', ⟨by have := HJ3.out; have := HK2.out; first | omega | exact Nat.le_refl _⟩, ⟨by (with_reducible repeat (first | apply Kd.R_alloc | apply Kd.R_drewN | apply Kd.R_drew)); exact HO_8.out⟩, ⟨by repeat (first | (with_reducible first | exact HB.out | apply below_alloc | apply pw_below_drewN | apply below_drew1) | exact HB.out)⟩⟩
                        · rw [if_neg c17] at H
                          have c17b0 : (a0 == 1) = false := beq_eq_false_iff_ne.mpr c17
                          have c17b1 : (a0 != 1) = true := bne_iff_ne.mpr c17
                          by_cases c19 : a0 = 2
                          · rw [if_pos c19] at H
                            have c19b0 : (a0 == 2) = true := beq_iff_eq.mpr c19
                            have c19b1 : (a0 != 2) = false := bne_eq_false_iff_eq.mpr c19
                            clear c19
                            have H' := Aside0.mk H
                            clear H
                            go_wp2
                            go_meet
                            case rel => exact ⟨_, (false), (by first | rfl | (simp; done) | (simp [*]; done)), H', ⟨by have := HJ3.out; have := HK2.out; first | omega | exact Nat.le_refl _⟩, ⟨by (with_reducible repeat (first | apply Kd.R_alloc | apply Kd.R_drewN | apply Kd.R_drew)); exact HO_8.out⟩, ⟨by repeat (first | (with_reducible first | exact HB.out | apply below_alloc | apply pw_below_drewN | apply below_drew1) | exact HB.out)⟩⟩
                          · rw [if_neg c19] at H
                            have c19b0 : (a0 == 2) = false := beq_eq_false_iff_ne.mpr c19
                            have c19b1 : (a0 != 2) = true := bne_iff_ne.mpr c19
                            have H' := Aside0.mk H
                            clear H
                            go_wp2
                            go_meet
                            case rel => exact ⟨_, (false), (by first | rfl | (simp; done) | (simp [*]; done)), H', ⟨by have := HJ3.out; have := HK2.out; first | omega | exact Nat.le_refl _⟩, ⟨by (with_reducible repeat (first | apply Kd.R_alloc | apply Kd.R_drewN | apply Kd.R_drew)); exact HO_8.out⟩, ⟨by repeat (first | (with_reducible first | exact HB.out | apply below_alloc | apply pw_below_drewN | apply below_drew1) | exact HB.out)⟩⟩
                  · rw [if_neg c14] at H
                    have c14b0 : (a0 == 0) = false := beq_eq_false_iff_ne.mpr c14
                    have c14b1 : (a0 != 0) = true := bne_iff_ne.mpr c14
                    by_cases c20 : a0 = 1
                    · rw [if_pos c20] at H
                      have c20b0 : (a0 == 1) = true := beq_iff_eq.mpr c20
                      have c20b1 : (a0 != 1) = false := bne_eq_false_iff_eq.mpr c20
                      clear c20
                      by_cases c21 : t181 = true
                      · subst c21
                        have H1 : (if t182 = true then (furlongref1_Mix.j2 k2 a0 l1 l2 x8_2 x9_2 true) else (if a0 = 2 then (furlongref1_Mix.j2 k2 a0 l1 l2 x8_2 x9_2 (!t182)) else (furlongref1_Mix.j2 k2 a0 l1 l2 x8_2 x9_2 false))) = some (r1, r2) := by rw [if_pos rfl] at H; exact H
                        clear H
                        have H := H1
                        clear H1
                        by_cases c22 : t182 = true
                        · subst c22
                          have H1 : (furlongref1_Mix.j2 k2 a0 l1 l2 x8_2 x9_2 true) = some (r1, r2) := by rw [if_pos rfl] at H; exact H
                          clear H
                          have H := H1
                          clear H1
                          have H' := Aside0.mk H
                          clear H
                          go_wp2
                          go_meet
                          case rel => exact ⟨_, (true), (by first | rfl | (simp; done) | (simp [*]; done)), H', ⟨by have := HJ3.out; have := HK2.out; first | omega | exact Nat.le_refl _⟩, ⟨by (with_reducible repeat (first | apply Kd.R_alloc | apply Kd.R_drewN | apply Kd.R_drew)); exact HO_8.out⟩, ⟨by repeat (first | (with_reducible first | exact HB.out | apply below_alloc | apply pw_below_drewN | apply below_drew1) | exact HB.out)⟩⟩
                        · replace c22 := Bool.eq_false_iff.mpr c22
                          subst c22
                          have H1 : (if a0 = 2 then (furlongref1_Mix.j2 k2 a0 l1 l2 x8_2 x9_2 (!false)) else (furlongref1_Mix.j2 k2 a0 l1 l2 x8_2 x9_2 false)) = some (r1, r2) := by rw [if_neg (show ¬ (false = true) by decide)] at H; exact H
                          clear H
                          have H := H1
                          clear H1
                          by_cases c23 : a0 = 2
                          · rw [if_pos c23] at H
                            have c23b0 : (a0 == 2) = true := beq_iff_eq.mpr c23
                            have c23b1 : (a0 != 2) = false := bne_eq_false_iff_eq.mpr c23
                            clear c23
                            have H' := Aside0.mk H
                            clear H
                            go_wp2
                            go_meet
                            case rel => exact ⟨_, (!false), (by first | rfl | (simp; done) | (simp [*]; done)), H', ⟨by have := HJ3.out; have := HK2.out; first | omega | exact Nat.le_refl _⟩, ⟨by (with_reducible repeat (first | apply Kd.R_alloc | apply Kd.R_drewN | apply Kd.R_drew)); exact HO_8.out⟩, ⟨by repeat (first | (with_reducible first | exact HB.out | apply below_alloc | apply pw_below_drewN | apply below_drew1) | exact HB.out)⟩⟩
                          · rw [if_neg c23] at H
                            have c23b0 : (a0 == 2) = false := beq_eq_false_iff_ne.mpr c23
                            have c23b1 : (a0 != 2) = true := bne_iff_ne.mpr c23
                            have H' := Aside0.mk H
                            clear H
                            go_wp2
                            go_meet
                            case rel => exact ⟨_, (false), (by first | rfl | (simp; done) | (simp [*]; done)), H', ⟨by have := HJ3.out; have := HK2.out; first | omega | exact Nat.le_refl _⟩, ⟨by (with_reducible repeat (first | apply Kd.R_alloc | apply Kd.R_drewN | apply Kd.R_drew)); exact HO_8.out⟩, ⟨by repeat (first | (with_reducible first | exact HB.out | apply below_alloc | apply pw_below_drewN | apply below_drew1) | exact HB.out)⟩⟩
                      · replace c21 := Bool.eq_false_iff.mpr c21
                        subst c21
                        have H1 : (if a0 = 2 then (furlongref1_Mix.j2 k2 a0 l1 l2 x8_2 x9_2 false) else (furlongref1_Mix.j2 k2 a0 l1 l2 x8_2 x9_2 false)) = some (r1, r2) := by rw [if_neg (show ¬ (false = true) by decide)] at H; exact H
                        clear H
                        have H := H1
                        clear H1
                        by_cases c24 : a0 = 2
                        · rw [if_pos c24] at H
                          have c24b0 : (a0 == 2) = true := beq_iff_eq.mpr c24
                          have c24b1 : (a0 != 2) = false := bne_eq_false_iff_eq.mpr c24
                          clear c24
                          have H' := Aside0.mk H
                          clear H
                          go_wp2
                          go_meet
                          case rel => exact ⟨_, (false), (by first | rfl | (simp; done) | (simp [*]; done)), H', ⟨by have := HJ3.out; have := HK2.out; first | omega | exact Nat.le_refl _⟩, ⟨by (with_reducible repeat (first | apply Kd.R_alloc | apply Kd.R_drewN | apply Kd.R_drew)); exact HO_8.out⟩, ⟨by repeat (first | (with_reducible first | exact HB.out | apply below_alloc | apply pw_below_drewN | apply below_drew1) | exact HB.out)⟩⟩
                        · rw [if_neg c24] at H
                          have c24b0 : (a0 == 2) = false := beq_eq_false_iff_ne.mpr c24
                          have c24b1 : (a0 != 2) = true := bne_iff_ne.mpr c24
                          have H' := Aside0.mk H
                          clear H
                          go_wp2
                          go_meet
                          case rel => exact ⟨_, (false), (by first | rfl | (simp; done) | (simp [*]; done)), H', ⟨by have := HJ3.out; have := HK2.out; first | omega | exact Nat.le_refl _⟩, ⟨by (with_reducible repeat (first | apply Kd.R_alloc | apply Kd.R_drewN | apply Kd.R_drew)); exact HO_8.out⟩, ⟨by repeat (first | (with_reducible first | exact HB.out | apply below_alloc | apply pw_below_drewN | apply below_drew1) | exact HB.out)⟩⟩
                    · rw [if_neg c20] at H
                      have c20b0 : (a0 == 1) = false := beq_eq_false_iff_ne.mpr c20
                      have c20b1 : (a0 != 1) = true := bne_iff_ne.mpr c20
                      by_cases c25 : a0 = 2
                      · rw [if_pos c25] at H
                        have c25b0 : (a0 == 2) = true := beq_iff_eq.mpr c25
                        have c25b1 : (a0 != 2) = false := bne_eq_false_iff_eq.mpr c25
                        clear c25
                        by_cases c26 : t181 = true
                        · subst c26
                          have H1 : (furlongref1_Mix.j2 k2 a0 l1 l2 x8_2 x9_2 (!t182)) = some (r1, r2) := by rw [if_pos rfl] at H; exact H
                          clear H
                          have H := H1
                          clear H1
                          have H' := Aside0.mk H
                          clear H
                          go_wp2
                          go_meet
                          case rel => exact ⟨_, (!t182), (by first | rfl | (simp; done) | (simp [*]; done)), H', ⟨by have := HJ3.out; have := HK2.out; first | omega | exact Nat.le_refl _⟩, ⟨by (with_reducible repeat (first | apply Kd.R_alloc | apply Kd.R_drewN | apply Kd.R_drew)); exact HO_8.out⟩, ⟨by repeat (first | (with_reducible first | exact HB.out | apply below_alloc | apply pw_below_drewN | apply below_drew1) | exact HB.out)⟩⟩
                        · replace c26 := Bool.eq_false_iff.mpr c26
                          subst c26
                          have H1 : (furlongref1_Mix.j2 k2 a0 l1 l2 x8_2 x9_2 false) = some (r1, r2) := by rw [if_neg (show ¬ (false = true) by decide)] at H; exact H
                          clear H
                          have H := H1
                          clear H1
                          have H' := Aside0.mk H
                          clear H
                          go_wp2
                          go_meet
                          case rel => exact ⟨_, (false), (by first | rfl | (simp; done) | (simp [*]; done)), H', ⟨by have := HJ3.out; have := HK2.out; first | omega | exact Nat.le_refl _⟩, ⟨by (with_reducible repeat (first | apply Kd.R_alloc | apply Kd.R_drewN | apply Kd.R_drew)); exact HO_8.out⟩, ⟨by repeat (first | (with_reducible first | exact HB.out | apply below_alloc | apply pw_below_drewN | apply below_drew1) | exact HB.out)⟩⟩
                      · rw [if_neg c25] at H
                        have c25b0 : (a0 == 2) = false := beq_eq_false_iff_ne.mpr c25
                        have c25b1 : (a0 != 2) = true := bne_iff_ne.mpr c25
                        have H' := Aside0.mk H
                        clear H
                        go_wp2
                        go_meet
                        case rel => exact ⟨_, (false), (by first | rfl | (simp; done) | (simp [*]; done)), H', ⟨by have := HJ3.out; have := HK2.out; first | omega | exact Nat.le_refl _⟩, ⟨by (with_reducible repeat (first | apply Kd.R_alloc | apply Kd.R_drewN | apply Kd.R_drew)); exact HO_8.out⟩, ⟨by repeat (first | (with_reducible first | exact HB.out | apply below_alloc | apply pw_below_drewN | apply below_drew1) | exact HB.out)⟩⟩
                · rw [if_neg c13] at H
                  have c13b0 : decide (0 ≤ x9_2) = false := decide_eq_false c13
                  clear c13
                  (first | rw [c13b0] | (simp only [i64_w, i32_w]; rw [c13b0]) | skip)
                  have H' := Aside0.mk H
                  clear H
                  go_wp2
                  go_meet
                  case rel => exact ⟨_, (false), (by first | rfl | (simp; done) | (simp [*]; done)), H', ⟨by have := HJ3.out; have := HK2.out; first | omega | exact Nat.le_refl _⟩, ⟨by (with_reducible repeat (first | apply Kd.R_alloc | apply Kd.R_drewN | apply Kd.R_drew)); exact HO_8.out⟩, ⟨by repeat (first | (with_reducible first | exact HB.out | apply below_alloc | apply pw_below_drewN | apply below_drew1) | exact HB.out)⟩⟩
              case rest =>
                clear HC12
                try clear c1
                try clear c2
                try clear p2
                try clear c6
                try clear c8
                try clear c9
                try clear c9b0
                try clear c13
                try clear c13b0
                try clear c14
                try clear c14b0
                try clear c14b1
                try clear c15
                try clear c16
                try clear c17
                try clear c17b0
                try clear c17b1
                try clear c18
                try clear c18b0
                try clear c18b1
                try clear c19
                try clear c19b0
                try clear c19b1
                try clear c20
                try clear c20b0
                try clear c20b1
                try clear c21
                try clear c22
                try clear c23
                try clear c23b0
                try clear c23b1
                try clear c24
                try clear c24b0
                try clear c24b1
                try clear c25
                try clear c25b0
                try clear c25b1
                try clear c26
                try clear p2
                obtain ⟨kq, x12_11, rfl, HA, HJ11, HO_8, HB⟩ := hcut
                cases kq with
                | zero => exact absurd HA.out (by simp [furlongref1_Mix.j2])
                | succ kj11 =>
                  have H := HA.out
                  clear HA
                  simp only [furlongref1_Mix.j2] at H
                  replace H := Option.bind_eq_some_iff.mp H
                  obtain ⟨t183, A270, H⟩ := H
                  replace H : ((furlongref1_after.f kj11 l2 x9_2).bind fun t184 => (if x12_11 = true then (if (x8_2.length : Int) > 0 then (if 0 ≤ (wrap64 ((x8_2.length : Int) - 1)) then (if (wrap64 ((x8_2.length : Int) - 1)) < (x8_2.length : Int) then (furlongref1_Mix.j3 kj11 a0 l1 l2 x8_2 x9_2 x12_11 (mn t183 t184) (((rd_T41 x8_2 (wrap64 ((x8_2.length : Int) - 1))).f1) == x9_2)) else (none)) else (none)) else (furlongref1_Mix.j3 kj11 a0 l1 l2 x8_2 x9_2 x12_11 (mn t183 t184) false)) else (furlongref1_Mix.j3 kj11 a0 l1 l2 x8_2 x9_2 x12_11 (mn t183 t184) false))) = some (r1, r2) := H
                  have A27 := Aside0.mk A270
                  clear A270
                  replace H := Option.bind_eq_some_iff.mp H
                  obtain ⟨t184, A280, H⟩ := H
                  replace H : (if x12_11 = true then (if (x8_2.length : Int) > 0 then (if 0 ≤ (wrap64 ((x8_2.length : Int) - 1)) then (if (wrap64 ((x8_2.length : Int) - 1)) < (x8_2.length : Int) then (furlongref1_Mix.j3 kj11 a0 l1 l2 x8_2 x9_2 x12_11 (mn t183 t184) (((rd_T41 x8_2 (wrap64 ((x8_2.length : Int) - 1))).f1) == x9_2)) else (none)) else (none)) else (furlongref1_Mix.j3 kj11 a0 l1 l2 x8_2 x9_2 x12_11 (mn t183 t184) false)) else (furlongref1_Mix.j3 kj11 a0 l1 l2 x8_2 x9_2 x12_11 (mn t183 t184) false)) = some (r1, r2) := H
                  have A28 := Aside0.mk A280
                  clear A280
                  obtain ⟨ji29, hji29⟩ : ∃ j_ : Int, (mn t183 t184) = j_ := ⟨_, rfl⟩
                  replace H : (if x12_11 = true then (if (x8_2.length : Int) > 0 then (if 0 ≤ (wrap64 ((x8_2.length : Int) - 1)) then (if (wrap64 ((x8_2.length : Int) - 1)) < (x8_2.length : Int) then (furlongref1_Mix.j3 kj11 a0 l1 l2 x8_2 x9_2 x12_11 ji29 (((rd_T41 x8_2 (wrap64 ((x8_2.length : Int) - 1))).f1) == x9_2)) else (none)) else (none)) else (furlongref1_Mix.j3 kj11 a0 l1 l2 x8_2 x9_2 x12_11 ji29 false)) else (furlongref1_Mix.j3 kj11 a0 l1 l2 x8_2 x9_2 x12_11 ji29 false)) = some (r1, r2) := by first | (rw [hji29] at H; exact H) | (simp only [hji29] at H ⊢; exact H)
                  (try rw [hji29] at A27)
                  (try rw [hji29] at A28)
                  have hji29_ : (if t184 < t183 then t184 else t183) = ji29 := hji29
                  have HC30 := Aside0.mk H
                  clear H
                  go_upto_region 9 with (first | ((with_reducible refine gate_callee (f := 31) rfl ?_); refine goesL_ (some 65) rfl rfl Try.func31 (by kernel_rfl) rfl #[.slice A1 l1.length c1, .int .i64 x9_2] rfl (by (try simp only [List.map_toArray, List.map_cons, List.map_nil]); first | done | rfl | (simp only [List.length_drop, List.length_take]; rfl)) ?_; (with_reducible refine (furlongref1_after.calls kj11 _ _ l1 x9_2 t183 _ ?side1 ?side2 A27.out).mono ?_); (case side1 => repeat (first | exact (Kd.C_below HR1.out HB.out) | (with_reducible refine Kd.C_alloc ?_ _) | (with_reducible refine Kd.C_drewN ?_ _) | (with_reducible refine Kd.C_drew ?_))); (case side2 => exact HC1.out); rintro e w' ⟨rfl, ⟨nd, rfl⟩⟩; refine ⟨_, rfl, ?_⟩) | ((with_reducible refine gate_callee (f := 31) rfl ?_); refine goesL_ (some 68) rfl rfl Try.func31 (by kernel_rfl) rfl #[.slice A2 l2.length c2, .int .i64 x9_2] rfl (by (try simp only [List.map_toArray, List.map_cons, List.map_nil]); first | done | rfl | (simp only [List.length_drop, List.length_take]; rfl)) ?_; (with_reducible refine (furlongref1_after.calls kj11 _ _ l2 x9_2 t184 _ ?side1 ?side2 A28.out).mono ?_); (case side1 => repeat (first | exact (Kd.C_below HR2.out (by repeat (first | (with_reducible first | exact HB.out | apply below_alloc | apply pw_below_drewN | apply below_drew1) | exact HB.out))) | (with_reducible refine Kd.C_alloc ?_ _) | (with_reducible refine Kd.C_drewN ?_ _) | (with_reducible refine Kd.C_drew ?_))); (case side2 => exact HC2.out); rintro e w' ⟨rfl, ⟨nd, rfl⟩⟩; refine ⟨_, rfl, ?_⟩))
                  (try simp only [Act.put, List.setIfInBounds_toArray, List.set_cons_zero, List.set_cons_succ])
                  go_cut [86] (fun v86 wc => ∃ (kq : Nat) (x86_29 : Bool), v86 = .bool x86_29 ∧ Aside0 (furlongref1_Mix.j3 kq a0 l1 l2 x8_2 x9_2 x12_11 ji29 x86_29 = some (r1, r2)) ∧ Aside0 (kq ≤ kj11) ∧ Aside0 (Kd.R k41 41 wc w.heap.size (fun _ => True) u8 x8_2) ∧ Aside0 (Below w.heap.size w wc))
                  case first =>
                    have H := HC30.out
                    clear HC30
                    by_cases c31 : x12_11 = true
                    · subst c31
                      have H1 : (if (x8_2.length : Int) > 0 then (if 0 ≤ (wrap64 ((x8_2.length : Int) - 1)) then (if (wrap64 ((x8_2.length : Int) - 1)) < (x8_2.length : Int) then (furlongref1_Mix.j3 kj11 a0 l1 l2 x8_2 x9_2 true ji29 (((rd_T41 x8_2 (wrap64 ((x8_2.length : Int) - 1))).f1) == x9_2)) else (none)) else (none)) else (furlongref1_Mix.j3 kj11 a0 l1 l2 x8_2 x9_2 true ji29 false)) = some (r1, r2) := by rw [if_pos rfl] at H; exact H
                      clear H
                      have H := H1
                      clear H1
                      by_cases c32 : (x8_2.length : Int) > 0
                      · rw [if_pos c32] at H
                        have c32b0 : decide (0 < (x8_2.length : Int)) = true := decide_eq_true c32
                        have c32b1 : decide (0 < x8_2.length) = true := decide_eq_true (by omega)
                        clear c32
                        (first | rw [c32b0] | (simp only [i64_w, i32_w]; rw [c32b0]) | skip)
                        obtain ⟨ji33, hji33⟩ : ∃ j_ : Int, (wrap64 ((x8_2.length : Int) - 1)) = j_ := ⟨_, rfl⟩
                        replace H : (if 0 ≤ (ji33) then (if (ji33) < (x8_2.length : Int) then (furlongref1_Mix.j3 kj11 a0 l1 l2 x8_2 x9_2 true ji29 (((rd_T41 x8_2 (ji33)).f1) == x9_2)) else (none)) else (none)) = some (r1, r2) := by first | (rw [hji33] at H; exact H) | (simp only [hji33] at H ⊢; exact H)
                        have hji33w : (IntKind.i64.wrap ((x8_2.length : Int) - 1)) = ji33 := (i64_w _).trans hji33
                        by_cases c34 : 0 ≤ (ji33)
                        · rw [if_pos c34] at H
                          have c34b0 : decide (0 ≤ (ji33)) = true := decide_eq_true c34
                          clear c34
                          by_cases c35 : (ji33) < (x8_2.length : Int)
                          · rw [if_pos c35] at H
                            have c35b0 : decide ((ji33) < (x8_2.length : Int)) = true := decide_eq_true c35
                            clear c35
                            have H' := Aside0.mk H
                            clear H
                            obtain ⟨Ao36, co36, eo36⟩ := Kd.R_slice HO_8.out
                            subst eo36
                            have p185 : 0 ≤ ((ji33) : Int) := of_decide_eq_true (by first | (with_reducible assumption) | assumption)
                            have q185 : (ji33) < (x8_2.length : Int) := of_decide_eq_true (by first | (with_reducible assumption) | assumption)
                            obtain ⟨ad185, e185, hx185_0, hx185_1⟩ := at_T41 (Kd.R_reads' HO_8.out).2.2 (ji33) p185 q185
                            cases e185
                            replace p185 := eq_true p185
                            replace q185 := eq_true q185
                            go_wp2
                            go_meet
                            case rel => exact ⟨_, ((((rd_T41 x8_2 (ji33)).f1) == x9_2)), (by first | rfl | (simp; done) | (simp only [← hji33] <;> (first | rfl | simp)) | (simp [*]; done)), H', ⟨by have := HJ3.out; have := HK2.out; have := HJ11.out; first | omega | exact Nat.le_refl _⟩, ⟨by (with_reducible repeat (first | apply Kd.R_alloc | apply Kd.R_drewN | apply Kd.R_drew)); exact HO_8.out⟩, ⟨by repeat (first | (with_reducible first | exact HB.out | apply below_alloc | apply pw_below_drewN | apply below_drew1) | exact HB.out)⟩⟩
                          · rw [if_neg c35] at H
                            exact absurd H (by simp)
                        · rw [if_neg c34] at H
                          exact absurd H (by simp)
                      · rw [if_neg c32] at H
                        have c32b0 : decide (0 < (x8_2.length : Int)) = false := decide_eq_false c32
                        have c32b1 : decide (0 < x8_2.length) = false := decide_eq_false (by omega)
                        clear c32
                        (first | rw [c32b0] | (simp only [i64_w, i32_w]; rw [c32b0]) | skip)
                        have H' := Aside0.mk H
                        clear H
                        obtain ⟨Ao37, co37, eo37⟩ := Kd.R_slice HO_8.out
                        subst eo37
                        go_wp2
                        go_meet
                        case rel => exact ⟨_, (false), (by first | rfl | (simp; done) | (simp [*]; done)), H', ⟨by have := HJ3.out; have := HK2.out; have := HJ11.out; first | omega | exact Nat.le_refl _⟩, ⟨by (with_reducible repeat (first | apply Kd.R_alloc | apply Kd.R_drewN | apply Kd.R_drew)); exact HO_8.out⟩, ⟨by repeat (first | (with_reducible first | exact HB.out | apply below_alloc | apply pw_below_drewN | apply below_drew1) | exact HB.out)⟩⟩
                    · replace c31 := Bool.eq_false_iff.mpr c31
                      subst c31
                      have H1 : (furlongref1_Mix.j3 kj11 a0 l1 l2 x8_2 x9_2 false ji29 false) = some (r1, r2) := by rw [if_neg (show ¬ (false = true) by decide)] at H; exact H
                      clear H
                      have H := H1
                      clear H1
                      have H' := Aside0.mk H
                      clear H
                      go_wp2
                      go_meet
                      case rel => exact ⟨_, (false), (by first | rfl | (simp; done) | (simp [*]; done)), H', ⟨by have := HJ3.out; have := HK2.out; have := HJ11.out; first | omega | exact Nat.le_refl _⟩, ⟨by (with_reducible repeat (first | apply Kd.R_alloc | apply Kd.R_drewN | apply Kd.R_drew)); exact HO_8.out⟩, ⟨by repeat (first | (with_reducible first | exact HB.out | apply below_alloc | apply pw_below_drewN | apply below_drew1) | exact HB.out)⟩⟩
                  case rest =>
                    clear HC30
                    try clear c1
                    try clear p1
                    try clear q1
                    try clear hx1
                    try clear c2
                    try clear p2
                    try clear c3
                    try clear c6
                    try clear p6
                    try clear c8
                    try clear c9
                    try clear c9b0
                    try clear c13
                    try clear c13b0
                    try clear c14
                    try clear c14b0
                    try clear c14b1
                    try clear c15
                    try clear c16
                    try clear c17
                    try clear c17b0
                    try clear c17b1
                    try clear c18
                    try clear c18b0
                    try clear c18b1
                    try clear p18
                    try clear q18
                    try clear hx18
                    try clear c19
                    try clear c19b0
                    try clear c19b1
                    try clear c20
                    try clear c20b0
                    try clear c20b1
                    try clear c21
                    try clear c22
                    try clear c23
                    try clear c23b0
                    try clear c23b1
                    try clear c24
                    try clear c24b0
                    try clear c24b1
                    try clear c25
                    try clear c25b0
                    try clear c25b1
                    try clear c26
                    try clear c31
                    try clear c32
                    try clear c32b0
                    try clear c32b1
                    try clear c34
                    try clear c34b0
                    try clear c35
                    try clear c35b0
                    try clear hx185_0
                    try clear hx185_1
                    try clear p185
                    try clear p2
                    try clear q185
                    obtain ⟨kq, x86_29, rfl, HA, HJ29, HO_8, HB⟩ := hcut
                    cases kq with
                    | zero => exact absurd HA.out (by simp [furlongref1_Mix.j3])
                    | succ kj29 =>
                      have H := HA.out
                      clear HA
                      simp only [furlongref1_Mix.j3] at H
                      by_cases c38 : x86_29 = true
                      · subst c38
                        have H1 : (if 0 ≤ (wrap64 ((x8_2.length : Int) - 1)) then (if (wrap64 ((x8_2.length : Int) - 1)) < (x8_2.length : Int) then (furlongref1_Mix.l0 kj29 a0 l1 l2 (x8_2.set ((wrap64 ((x8_2.length : Int) - 1)) : Int).toNat (⟨(rd_T41 x8_2 (wrap64 ((x8_2.length : Int) - 1))).f0, ji29⟩ : S41)) ji29) else (none)) else (none)) = some (r1, r2) := by rw [if_pos rfl] at H; exact H
                        clear H
                        have H := H1
                        clear H1
                        obtain ⟨ji39, hji39⟩ : ∃ j_ : Int, (wrap64 ((x8_2.length : Int) - 1)) = j_ := ⟨_, rfl⟩
                        replace H : (if 0 ≤ (ji39) then (if (ji39) < (x8_2.length : Int) then (furlongref1_Mix.l0 kj29 a0 l1 l2 (x8_2.set ((ji39) : Int).toNat (⟨(rd_T41 x8_2 (ji39)).f0, ji29⟩ : S41)) ji29) else (none)) else (none)) = some (r1, r2) := by first | (rw [hji39] at H; exact H) | (simp only [hji39] at H ⊢; exact H)
                        have hji39w : (IntKind.i64.wrap ((x8_2.length : Int) - 1)) = ji39 := (i64_w _).trans hji39
                        by_cases c40 : 0 ≤ (ji39)
                        · rw [if_pos c40] at H
                          have c40b0 : decide (0 ≤ (ji39)) = true := decide_eq_true c40
                          clear c40
                          by_cases c41 : (ji39) < (x8_2.length : Int)
                          · rw [if_pos c41] at H
                            have c41b0 : decide ((ji39) < (x8_2.length : Int)) = true := decide_eq_true c41
                            clear c41
                            obtain ⟨y186, hy186⟩ : ∃ y_ : List (S41), y_ = (x8_2.set ((ji39) : Int).toNat (⟨(rd_T41 x8_2 (ji39)).f0, ji29⟩ : S41)) := ⟨_, rfl⟩
                            replace H : (furlongref1_Mix.l0 kj29 a0 l1 l2 y186 ji29) = some (r1, r2) := by first | (rw [hy186]; with_reducible exact H) | (have H2_ := (Option.bind_some _ _).symm.trans H; rw [hy186]; with_reducible exact H2_) | (have H2_ := (Option.bind_some _ _).symm.trans H; with_reducible exact H2_) | with_reducible exact H | (rw [hy186]; exact H) | exact H
                            have Ny186 := Aside0.mk hy186
                            clear hy186
                            have H' := Aside0.mk H
                            clear H
                            obtain ⟨Ao43, co43, eo43⟩ := Kd.R_slice HO_8.out
                            subst eo43
                            have p42 : 0 ≤ ((ji39) : Int) := of_decide_eq_true (by first | (with_reducible assumption) | assumption)
                            have q42 : ((ji39) : Int) < ((x8_2.length : Int) : Int) := of_decide_eq_true (by first | (with_reducible assumption) | assumption)
                            obtain ⟨go42, co42, eo42, gb42, gl42, cl42, HG42⟩ := Kd.R_form HO_8.out (by omega)
                            (first | cases eo42 | (injection eo42 with ea_ en_ ec_; (first | subst ea_ | (injection ea_ with ea_; subst ea_)); subst ec_; clear en_))
                            have GB42 := Aside0.mk gb42
                            have GG42 := Aside0.mk HG42
                            clear gb42 gl42 HG42
                            obtain ⟨ce42, hcl42, hM42, hcc42, hfr42⟩ := Kd.R_elem HO_8.out z41 ((ji39) : Int) p42 q42
                            obtain rfl := k41_openM hM42
                            have hx42_0 : wc.cell? ⟨go42, ((ji39) : Int).toNat * 2, none⟩ = some (.int .i64 ((rd_T41 x8_2 (ji39)).f0)) := hcc42 0 _ rfl
                            have hx42_1 : wc.cell? ⟨go42, ((ji39) : Int).toNat * 2 + 1, none⟩ = some (.int .i64 ((rd_T41 x8_2 (ji39)).f1)) := hcc42 1 _ rfl
                            have hf42_0 : wc.frozen? ⟨go42, ((ji39) : Int).toNat * 2, none⟩ = false := hfr42 0
                            have hf42_1 : wc.frozen? ⟨go42, ((ji39) : Int).toNat * 2 + 1, none⟩ = false := hfr42 1
                            clear hcl42 hcc42 hfr42 hM42
                            replace p42 := eq_true p42
                            replace q42 := eq_true q42
                            have HX44 := Aside0.mk (show Kd.R k41 41 wc w.heap.size (fun _ => True) (.slice (some ⟨go42, 0, none⟩) x8_2.length co43) x8_2 from (by (with_reducible repeat (first | apply Kd.R_alloc | apply Kd.R_drewN | apply Kd.R_drew)); exact HO_8.out))
                            obtain ⟨ce44, hcl44, hM44, hcc44, hfr44⟩ := Kd.R_elem HX44.out z41 ((ji39) : Int) (of_decide_eq_true (by first | (with_reducible assumption) | assumption)) (by have h_ : ((ji39) : Int) < ((x8_2.length : Int) : Int) := of_decide_eq_true (by first | (with_reducible assumption) | assumption); first | exact h_ | (have e_ := (Kd.R_reads' HO_8.out).1; omega) | simpa using h_)
                            obtain rfl := k41_openM hM44
                            have HP44 := Kd.R_seg HX44.out ((ji39) : Int) (of_decide_eq_true (by first | (with_reducible assumption) | assumption)) (by have h_ : ((ji39) : Int) < ((x8_2.length : Int) : Int) := of_decide_eq_true (by first | (with_reducible assumption) | assumption); first | exact h_ | (have e_ := (Kd.R_reads' HO_8.out).1; omega) | simpa using h_) (seg := [.int .i64 ji29]) (j := 1) hcl44 hcc44 (show 2 ≤ 2 from by decide) (x' := (⟨(rd_T41 x8_2 (ji39)).f0, ji29⟩ : S41)) (k41_mkM _ _ _ (⟨(rd_T41 x8_2 (ji39)).f0, ji29⟩ : S41) ) (fun _ hk => hk)
                            have hx44_1 := hcc44 1 _ rfl
                            (try simp only [show (k41).sz = 2 from rfl, Nat.mul_one, Nat.add_zero] at hx44_1)
                            have hf44_1 := hfr44 1
                            (try simp only [show (k41).sz = 2 from rfl, Nat.mul_one, Nat.add_zero] at hf44_1)
                            clear hcl44 hcc44 hfr44 hM44
                            go_wp2_with (first | ((with_reducible refine gate_store (t := 3) (p := 93) rfl ?_); refine store_event (t := 3) (p := 93) (v := ?vo_w45) (w1 := (wc.setCell ⟨go42, ((ji39) : Int).toNat * 2 + 1, none⟩ (.int .i64 ji29))) ?hg ?ho ?hn ?hr ?_; (case ho => rfl); (case hg => rfl); (case hn => rfl); (case hr => first | (go_simp; done) | (go_simp; rfl)); intro w45 hw; have hg : wc.grownBy w45 (some go42) := (by rw [hw]; exact HP44.2); have hp_ : Kd.R k41 41 w45 w.heap.size (fun _ => True) (.slice (some ⟨go42, 0, none⟩) x8_2.length co43) y186 := (by rw [hw, Ny186.out]; exact HP44.1); clear HP44; have n0_ := Aside0.mk (hp_); have n1_ := Aside0.mk ((by rw [hw]; exact below_set (HB.out) GB42.out : Below w.heap.size w w45)); clear HO_8; clear HB; have HO_8 := n0_; have HB := n1_; clear n0_ n1_; clear hg hw hp_))
                            go_roundg kj29
                            case measure => have := HJ3.out; have := HK2.out; have := HJ11.out; have := HJ29.out; omega
                            case rel => exact ⟨(y186), (ji29), (by first | rfl | (simp; done) | (simp only [← hji29] <;> (first | rfl | simp)) | (simp [*]; done)), H', ⟨by have := HJ3.out; have := HK2.out; have := HJ11.out; have := HJ29.out; omega⟩, ⟨by (with_reducible repeat (first | apply Kd.R_alloc | apply Kd.R_drewN | apply Kd.R_drew)); exact HO_8.out⟩, ⟨by repeat (first | (with_reducible first | exact HB.out | apply below_alloc | apply pw_below_drewN | apply below_drew1) | exact HB.out)⟩⟩
                          · rw [if_neg c41] at H
                            exact absurd H (by simp)
                        · rw [if_neg c40] at H
                          exact absurd H (by simp)
                      · replace c38 := Bool.eq_false_iff.mpr c38
                        subst c38
                        have H1 : (if x12_11 = true then (if x8_2.length < 8796093022208 then (furlongref1_Mix.l0 kj29 a0 l1 l2 (x8_2 ++ [(⟨x9_2, ji29⟩ : S41)]) ji29) else (none)) else (furlongref1_Mix.l0 kj29 a0 l1 l2 x8_2 ji29)) = some (r1, r2) := by rw [if_neg (show ¬ (false = true) by decide)] at H; exact H
                        clear H
                        have H := H1
                        clear H1
                        by_cases c46 : x12_11 = true
                        · subst c46
                          have H1 : (if x8_2.length < 8796093022208 then (furlongref1_Mix.l0 kj29 a0 l1 l2 (x8_2 ++ [(⟨x9_2, ji29⟩ : S41)]) ji29) else (none)) = some (r1, r2) := by rw [if_pos rfl] at H; exact H
                          clear H
                          have H := H1
                          clear H1
                          by_cases c47 : x8_2.length < 8796093022208
                          · rw [if_pos c47] at H
                            have LMc47 := Aside0.mk c47
                            clear c47
                            obtain ⟨y187, hy187⟩ : ∃ y_ : List (S41), y_ = (x8_2 ++ [(⟨x9_2, ji29⟩ : S41)]) := ⟨_, rfl⟩
                            replace H : (furlongref1_Mix.l0 kj29 a0 l1 l2 y187 ji29) = some (r1, r2) := by first | (rw [hy187]; with_reducible exact H) | (have H2_ := (Option.bind_some _ _).symm.trans H; rw [hy187]; with_reducible exact H2_) | (have H2_ := (Option.bind_some _ _).symm.trans H; with_reducible exact H2_) | with_reducible exact H | (rw [hy187]; exact H) | exact H
                            have Ny187 := Aside0.mk hy187
                            clear hy187
                            have H' := Aside0.mk H
                            clear H
                            go_wp2_with (first | ((with_reducible refine gate_builtin (b := .append) (xs := #[.tmp 95, .tmp 99]) rfl ?_); (try (refine gate_guard (by rfl) ?_; dsimp only)); at_builtin; refine Kd.R_append k41 (w0 := w) w.heap.size rfl (.tmp 95) (.tmp 99) 24 41 (.agg #[(.int .i64 0), (.int .i64 0)]) 16 rfl Try.underlying24 info41 rfl (by decide) (by omega) u8 x8_2 (⟨x9_2, ji29⟩ : S41) [.int .i64 x9_2, .int .i64 ji29] (fun _ => True) (fun _ => False) rfl rfl ?aP (fun _ hk => hk.elim) ?aF ?aO ?aB ?aS ?aL ?_; (case aP => exact k41_mkM _ _ _ (⟨x9_2, ji29⟩ : S41)); (case aB => exact (by repeat (first | (with_reducible first | exact HB.out | apply below_alloc | apply pw_below_drewN | apply below_drew1) | exact HB.out))); (case aF => exact (fun _ _ => trivial)); (case aO => exact (by (with_reducible repeat (first | apply Kd.R_alloc | apply Kd.R_drewN | apply Kd.R_drew)); exact HO_8.out)); (case aS => exact (below_size (by repeat (first | (with_reducible first | exact HB.out | apply below_alloc | apply pw_below_drewN | apply below_drew1) | exact HB.out)))); (case aL => have := LMc47.out; omega); intro v188 w48 ho hb hg hat; rw [← Ny187.out] at ho; have n0_ := Aside0.mk (hb); have n1_ := Aside0.mk (ho); clear HB; clear HO_8; have HB := n0_; have HO189 := n1_; clear n0_ n1_; clear ho hb hg hat))
                            go_roundg kj29
                            case measure => have := HJ3.out; have := HK2.out; have := HJ11.out; have := HJ29.out; omega
                            case rel => exact ⟨(y187), (ji29), (by first | rfl | (simp; done) | (simp only [← hji29] <;> (first | rfl | simp)) | (simp [*]; done)), H', ⟨by have := HJ3.out; have := HK2.out; have := HJ11.out; have := HJ29.out; omega⟩, ⟨by (with_reducible repeat (first | apply Kd.R_alloc | apply Kd.R_drewN | apply Kd.R_drew)); exact HO189.out⟩, ⟨by repeat (first | (with_reducible first | exact HB.out | apply below_alloc | apply pw_below_drewN | apply below_drew1) | exact HB.out)⟩⟩
                          · rw [if_neg c47] at H
                            exact absurd H (by simp)
                        · replace c46 := Bool.eq_false_iff.mpr c46
                          subst c46
                          have H1 : (furlongref1_Mix.l0 kj29 a0 l1 l2 x8_2 ji29) = some (r1, r2) := by rw [if_neg (show ¬ (false = true) by decide)] at H; exact H
                          clear H
                          have H := H1
                          clear H1
                          have H' := Aside0.mk H
                          clear H
                          go_wp2
                          go_roundg kj29
                          case measure => have := HJ3.out; have := HK2.out; have := HJ11.out; have := HJ29.out; omega
                          case rel => exact ⟨(x8_2), (ji29), (by first | rfl | (simp; done) | (simp only [← hji29] <;> (first | rfl | simp)) | (simp [*]; done)), H', ⟨by have := HJ3.out; have := HK2.out; have := HJ11.out; have := HJ29.out; omega⟩, ⟨by (with_reducible repeat (first | apply Kd.R_alloc | apply Kd.R_drewN | apply Kd.R_drew)); exact HO_8.out⟩, ⟨by repeat (first | (with_reducible first | exact HB.out | apply below_alloc | apply pw_below_drewN | apply below_drew1) | exact HB.out)⟩⟩
            · rw [if_neg c9] at H
              have c9b0 : decide (x9_2 < 4294967296) = false := decide_eq_false c9
              clear c9
              simp only [Option.some.injEq, Prod.mk.injEq] at H
              obtain ⟨rfl, rfl⟩ := H
              go_wp2
              go_ret2
              exact ⟨_, by first | rfl | (simp [errW_none, errW_some] <;> rfl) | (simp [*, errW_none, errW_some] <;> rfl), by (with_reducible repeat (first | apply Kd.R_alloc | apply Kd.R_drewN | apply Kd.R_drew)); exact HO_8.out, by repeat (first | (with_reducible first | exact HB.out | apply below_alloc | apply pw_below_drewN | apply below_drew1) | exact HB.out)⟩

/-! ### cover_Common_1: function 32 -/
def cover_Common_1.f (a0 : Bool) (a1 : Bool) : Option (Bool) := if a0 = true then (some a1) else (some false)
set_option maxHeartbeats 8000000 in
set_option maxRecDepth 100000 in
theorem cover_Common_1.calls (a0 : Bool) (a1 : Bool) (r : Bool) (w : World) (h : cover_Common_1.f a0 a1 = some r) :
    Calls Try.prog 32 #[.bool a0, .bool a1] w fun e w' => e = .returned (.bool r) ∧ Drawn0 w w' := by
  have H : (if a0 = true then (some a1) else (some false)) = some r := h
  clear h
  by_cases c3 : a0 = true
  · subst c3
    have H1 : (some a1) = some r := by rw [if_pos rfl] at H; exact H
    clear H
    have H := H1
    clear H1
    obtain rfl := Option.some.inj H
    go_enter Try.func32, Try.ntmps32
    go_wp2
    go_ret
    exact ⟨by first | rfl | (simp; done) | (simp [*]; done), by repeat (first | exact Drawn0.refl _ | apply Drawn0.step)⟩
  · replace c3 := Bool.eq_false_iff.mpr c3
    subst c3
    have H1 : (some false) = some r := by rw [if_neg (show ¬ (false = true) by decide)] at H; exact H
    clear H
    have H := H1
    clear H1
    obtain rfl := Option.some.inj H
    go_enter Try.func32, Try.ntmps32
    go_wp2
    go_ret
    exact ⟨by first | rfl | (simp; done) | (simp [*]; done), by repeat (first | exact Drawn0.refl _ | apply Drawn0.step)⟩

end Go.Proofs.Ytngcljnhcbbdmaa.C
