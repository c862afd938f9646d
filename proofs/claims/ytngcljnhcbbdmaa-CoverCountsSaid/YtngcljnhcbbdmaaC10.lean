-- PRINTED by print.py (a twelfth state) out of the translation. Not trusted: Lean checks it.
import Derived.Test.YtngcljnhcbbdmaaC0
import Derived.Test.YtngcljnhcbbdmaaC3
import Derived.Test.YtngcljnhcbbdmaaC4
import Derived.Test.YtngcljnhcbbdmaaC7
import Derived.Test.YtngcljnhcbbdmaaC8
import Derived.Test.YtngcljnhcbbdmaaGHas
namespace Go.Proofs.Ytngcljnhcbbdmaa.C
open Go.RowKit Go.Proofs.YtngcljnhcbbdmaaW.PrintWords Go.Proofs.YtngcljnhcbbdmaaW.PrintLast Go.Proofs.YtngcljnhcbbdmaaW.PrintMore
attribute [local go_sem] max2_int min2_int max_two min_two max_three min_three max_four min_four   -- for this text's walks alone
set_option linter.unusedVariables false
set_option linter.unusedSimpArgs false

/-! ### furlonglaw6_CoverSets: function 4 -/
mutual
def furlonglaw6_CoverSets.j0 : Nat → List (S41) → List (S41) → Int → List (S41) → Int → List (S41) → Int → List (S41) → Int → List (S41) → Int → Bool → Option (Bool)
  | 0, _, _, _, _, _, _, _, _, _, _, _, _ => none
  | k + 1, x0, x1, x2, x7, x8, x9, x10, x11, x12, x13, x14, x54 => if x54 = true then ((furlonglaw0_Num.f x8).bind fun t379 => (if t379 = 600 then ((furlonglaw0_Num.f x10).bind fun t380 => (if t380 = 600 then ((furlonglaw0_Num.f x12).bind fun t381 => (if t381 = 600 then ((furlonglaw0_Num.f x14).bind fun t382 => (some (t382 == 600))) else (none))) else (none))) else (none))) else ((cover_Has.f x0 x2).bind fun t383 => ((cover_Has.f x1 x2).bind fun t384 => ((cover_Has.f x7 x2).bind fun t385 => (if t383 = true then (if (t385 != true) = true then (furlonglaw6_CoverSets.j1 k x0 x7 x8 x9 x10 x11 x12 x13 x14 true) else ((cover_Has.f x9 x2).bind fun t386 => (if (t386 != t384) = true then (furlonglaw6_CoverSets.j1 k x0 x7 x8 x9 x10 x11 x12 x13 x14 true) else ((cover_Has.f x11 x2).bind fun t387 => (furlonglaw6_CoverSets.j1 k x0 x7 x8 x9 x10 x11 x12 x13 x14 (t387 != (!t384))))))) else (if (t385 != t384) = true then (furlonglaw6_CoverSets.j1 k x0 x7 x8 x9 x10 x11 x12 x13 x14 true) else ((cover_Has.f x9 x2).bind fun t388 => (if (t388 != false) = true then (furlonglaw6_CoverSets.j1 k x0 x7 x8 x9 x10 x11 x12 x13 x14 true) else ((cover_Has.f x11 x2).bind fun t389 => (furlonglaw6_CoverSets.j1 k x0 x7 x8 x9 x10 x11 x12 x13 x14 (t389 != false))))))))))
def furlonglaw6_CoverSets.j1 : Nat → List (S41) → List (S41) → Int → List (S41) → Int → List (S41) → Int → List (S41) → Int → Bool → Option (Bool)
  | 0, _, _, _, _, _, _, _, _, _, _ => none
  | k + 1, x0, x7, x8, x9, x10, x11, x12, x13, x14, x107 => if x107 = true then (none) else ((cover_Union.f k x11 x9).bind fun bt390 => ((cover_Union.f k bt390.1 x13).bind fun bt394 => ((furlonglaw0_Num.f x8).bind fun t398 => (if t398 = 0 then ((furlonglaw0_Num.f x10).bind fun t399 => (if t399 = 0 then ((furlonglaw0_Num.f x12).bind fun t400 => (if t400 = 0 then ((furlonglaw0_Num.f x14).bind fun t401 => (if t401 = 0 then ((furlonglaw0_Num.f bt390.2).bind fun t402 => (if t402 = 0 then ((furlonglaw0_Num.f bt394.2).bind fun t403 => (if t403 = 0 then ((furlonglaw0_SameRanges.f k bt390.1 x0).bind fun t404 => (if t404 = true then ((furlonglaw0_SameRanges.f k bt394.1 x7).bind fun t405 => (if t405 = true then ((cover_May.f k x7).bind fun t406 => (if t406 = true then ((cover_May.f k x9).bind fun t407 => (if t407 = true then ((cover_May.f k x11).bind fun t408 => (some t408)) else (none))) else (none))) else (none))) else (none))) else (none))) else (none))) else (none))) else (none))) else (none))) else (none)))))
end
def furlonglaw6_CoverSets.f (k : Nat) (l0 : List (S41)) (l1 : List (S41)) (a2 : Int) : Option (Bool) := (furlonglaw6_awake.f k).bind fun t360 => (if t360 = true then ((cover_Union.f k l0 l1).bind fun bt361 => ((cover_Common.f k l0 l1).bind fun bt365 => ((cover_Less.f k l0 l1).bind fun bt369 => ((cover_Less.f k l1 l0).bind fun bt373 => ((cover_May.f k l0).bind fun t377 => (if t377 = true then ((cover_May.f k l1).bind fun t378 => (furlonglaw6_CoverSets.j0 k l0 l1 a2 bt361.1 bt361.2 bt365.1 bt365.2 bt369.1 bt369.2 bt373.1 bt373.2 (!t378))) else (furlonglaw6_CoverSets.j0 k l0 l1 a2 bt361.1 bt361.2 bt365.1 bt365.2 bt369.1 bt369.2 bt373.1 bt373.2 true))))))) else (none))
theorem furlonglaw6_CoverSets.mono_l : ∀ k, (∀ y0 y1 y2 y3 y4 y5 y6 y7 y8 y9 y10 y11, LeO (furlonglaw6_CoverSets.j0 k y0 y1 y2 y3 y4 y5 y6 y7 y8 y9 y10 y11) (furlonglaw6_CoverSets.j0 (k + 1) y0 y1 y2 y3 y4 y5 y6 y7 y8 y9 y10 y11)) ∧ (∀ y0 y1 y2 y3 y4 y5 y6 y7 y8 y9, LeO (furlonglaw6_CoverSets.j1 k y0 y1 y2 y3 y4 y5 y6 y7 y8 y9) (furlonglaw6_CoverSets.j1 (k + 1) y0 y1 y2 y3 y4 y5 y6 y7 y8 y9))
  | 0 => ⟨fun _ _ _ _ _ _ _ _ _ _ _ _ r h => by simp [furlonglaw6_CoverSets.j0] at h, fun _ _ _ _ _ _ _ _ _ _ r h => by simp [furlonglaw6_CoverSets.j1] at h⟩
  | k + 1 => by
    obtain ⟨ih0, ih1⟩ := furlonglaw6_CoverSets.mono_l k
    refine ⟨?_, ?_⟩
    · intro y0 y1 y2 y3 y4 y5 y6 y7 y8 y9 y10 y11
      unfold furlonglaw6_CoverSets.j0
      repeat' first
      | (with_reducible exact ih0 _ _ _ _ _ _ _ _ _ _ _ _)
      | (with_reducible exact ih1 _ _ _ _ _ _ _ _ _ _)
      | (with_reducible exact cover_Common.mono _ _ _)
      | (with_reducible exact cover_Less.mono _ _ _)
      | (with_reducible exact cover_May.mono _ _)
      | (with_reducible exact cover_Union.mono _ _ _)
      | (with_reducible exact furlonglaw0_SameRanges.mono _ _ _)
      | (with_reducible exact furlonglaw6_awake.mono _)
      | (with_reducible exact LeO.refl _)
      | (with_reducible exact LeO.none _)
      | (with_reducible refine LeO.ite ?_ ?_)
      | (with_reducible refine LeO.bind ?_ (fun _ => ?_))
      | exact ih0 _ _ _ _ _ _ _ _ _ _ _ _
      | exact ih1 _ _ _ _ _ _ _ _ _ _
      | exact cover_Common.mono _ _ _
      | exact cover_Less.mono _ _ _
      | exact cover_May.mono _ _
      | exact cover_Union.mono _ _ _
      | exact furlonglaw0_SameRanges.mono _ _ _
      | exact furlonglaw6_awake.mono _
      | exact LeO.none _
      | refine LeO.ite ?_ ?_
      | refine LeO.bind ?_ (fun _ => ?_)
    · intro y0 y1 y2 y3 y4 y5 y6 y7 y8 y9
      unfold furlonglaw6_CoverSets.j1
      repeat' first
      | (with_reducible exact ih0 _ _ _ _ _ _ _ _ _ _ _ _)
      | (with_reducible exact ih1 _ _ _ _ _ _ _ _ _ _)
      | (with_reducible exact cover_Common.mono _ _ _)
      | (with_reducible exact cover_Less.mono _ _ _)
      | (with_reducible exact cover_May.mono _ _)
      | (with_reducible exact cover_Union.mono _ _ _)
      | (with_reducible exact furlonglaw0_SameRanges.mono _ _ _)
      | (with_reducible exact furlonglaw6_awake.mono _)
      | (with_reducible exact LeO.refl _)
      | (with_reducible exact LeO.none _)
      | (with_reducible refine LeO.ite ?_ ?_)
      | (with_reducible refine LeO.bind ?_ (fun _ => ?_))
      | exact ih0 _ _ _ _ _ _ _ _ _ _ _ _
      | exact ih1 _ _ _ _ _ _ _ _ _ _
      | exact cover_Common.mono _ _ _
      | exact cover_Less.mono _ _ _
      | exact cover_May.mono _ _
      | exact cover_Union.mono _ _ _
      | exact furlonglaw0_SameRanges.mono _ _ _
      | exact furlonglaw6_awake.mono _
      | exact LeO.none _
      | refine LeO.ite ?_ ?_
      | refine LeO.bind ?_ (fun _ => ?_)
theorem furlonglaw6_CoverSets.mono : ∀ a0 a1 a2 k, LeO (furlonglaw6_CoverSets.f k a0 a1 a2) (furlonglaw6_CoverSets.f (k + 1) a0 a1 a2) := by
  intro a0 a1 a2 k
  obtain ⟨ih0, ih1⟩ := furlonglaw6_CoverSets.mono_l k
  unfold furlonglaw6_CoverSets.f
  repeat' first
      | (with_reducible exact ih0 _ _ _ _ _ _ _ _ _ _ _ _)
      | (with_reducible exact ih1 _ _ _ _ _ _ _ _ _ _)
      | (with_reducible exact cover_Common.mono _ _ _)
      | (with_reducible exact cover_Less.mono _ _ _)
      | (with_reducible exact cover_May.mono _ _)
      | (with_reducible exact cover_Union.mono _ _ _)
      | (with_reducible exact furlonglaw0_SameRanges.mono _ _ _)
      | (with_reducible exact furlonglaw6_awake.mono _)
      | (with_reducible exact LeO.refl _)
      | (with_reducible exact LeO.none _)
      | (with_reducible refine LeO.ite ?_ ?_)
      | (with_reducible refine LeO.bind ?_ (fun _ => ?_))
      | exact ih0 _ _ _ _ _ _ _ _ _ _ _ _
      | exact ih1 _ _ _ _ _ _ _ _ _ _
      | exact cover_Common.mono _ _ _
      | exact cover_Less.mono _ _ _
      | exact cover_May.mono _ _
      | exact cover_Union.mono _ _ _
      | exact furlonglaw0_SameRanges.mono _ _ _
      | exact furlonglaw6_awake.mono _
      | exact LeO.none _
      | refine LeO.ite ?_ ?_
      | refine LeO.bind ?_ (fun _ => ?_)
set_option maxHeartbeats 8000000 in
set_option maxRecDepth 100000 in
theorem furlonglaw6_CoverSets.calls (k : Nat) (A0 : Option Addr) (c0 : Nat) (l0 : List (S41)) (A1 : Option Addr) (c1 : Nat) (l1 : List (S41)) (a2 : Int) (r : Bool) (w : World) (hr0 : Kd.C k41 w A0 l0.length l0) (hc0 : l0.length ≤ c0) (hr1 : Kd.C k41 w A1 l1.length l1) (hc1 : l1.length ≤ c1) (h : furlonglaw6_CoverSets.f k l0 l1 a2 = some r) :
    Calls Try.prog 4 #[.slice A0 l0.length c0, .slice A1 l1.length c1, .int .i64 a2] w fun e w' => e = .returned (.bool r) ∧ Below w.heap.size w w' := by
  have HR0 := Aside0.mk hr0
  have HC0 := Aside0.mk hc0
  clear hr0 hc0
  have HR1 := Aside0.mk hr1
  have HC1 := Aside0.mk hc1
  clear hr1 hc1
  have HB := Aside0.mk (Below.refl w.heap.size w)
  have H : ((furlonglaw6_awake.f k).bind fun t360 => (if t360 = true then ((cover_Union.f k l0 l1).bind fun bt361 => ((cover_Common.f k l0 l1).bind fun bt365 => ((cover_Less.f k l0 l1).bind fun bt369 => ((cover_Less.f k l1 l0).bind fun bt373 => ((cover_May.f k l0).bind fun t377 => (if t377 = true then ((cover_May.f k l1).bind fun t378 => (furlonglaw6_CoverSets.j0 k l0 l1 a2 bt361.1 bt361.2 bt365.1 bt365.2 bt369.1 bt369.2 bt373.1 bt373.2 (!t378))) else (furlonglaw6_CoverSets.j0 k l0 l1 a2 bt361.1 bt361.2 bt365.1 bt365.2 bt369.1 bt369.2 bt373.1 bt373.2 true))))))) else (none))) = some r := h
  clear h
  replace H := Option.bind_eq_some_iff.mp H
  obtain ⟨t360, A40, H⟩ := H
  replace H : (if t360 = true then ((cover_Union.f k l0 l1).bind fun bt361 => ((cover_Common.f k l0 l1).bind fun bt365 => ((cover_Less.f k l0 l1).bind fun bt369 => ((cover_Less.f k l1 l0).bind fun bt373 => ((cover_May.f k l0).bind fun t377 => (if t377 = true then ((cover_May.f k l1).bind fun t378 => (furlonglaw6_CoverSets.j0 k l0 l1 a2 bt361.1 bt361.2 bt365.1 bt365.2 bt369.1 bt369.2 bt373.1 bt373.2 (!t378))) else (furlonglaw6_CoverSets.j0 k l0 l1 a2 bt361.1 bt361.2 bt365.1 bt365.2 bt369.1 bt369.2 bt373.1 bt373.2 true))))))) else (none)) = some r := H
  have A4 := Aside0.mk A40
  clear A40
  by_cases c5 : t360 = true
  · subst c5
    have H1 : ((cover_Union.f k l0 l1).bind fun bt361 => ((cover_Common.f k l0 l1).bind fun bt365 => ((cover_Less.f k l0 l1).bind fun bt369 => ((cover_Less.f k l1 l0).bind fun bt373 => ((cover_May.f k l0).bind fun t377 => (if t377 = true then ((cover_May.f k l1).bind fun t378 => (furlonglaw6_CoverSets.j0 k l0 l1 a2 bt361.1 bt361.2 bt365.1 bt365.2 bt369.1 bt369.2 bt373.1 bt373.2 (!t378))) else (furlonglaw6_CoverSets.j0 k l0 l1 a2 bt361.1 bt361.2 bt365.1 bt365.2 bt369.1 bt369.2 bt373.1 bt373.2 true))))))) = some r := by rw [if_pos rfl] at H; exact H
    clear H
    have H := H1
    clear H1
    replace H := Option.bind_eq_some_iff.mp H
    obtain ⟨⟨t361, t362⟩, A60, H⟩ := H
    replace H : ((cover_Common.f k l0 l1).bind fun bt365 => ((cover_Less.f k l0 l1).bind fun bt369 => ((cover_Less.f k l1 l0).bind fun bt373 => ((cover_May.f k l0).bind fun t377 => (if t377 = true then ((cover_May.f k l1).bind fun t378 => (furlonglaw6_CoverSets.j0 k l0 l1 a2 t361 t362 bt365.1 bt365.2 bt369.1 bt369.2 bt373.1 bt373.2 (!t378))) else (furlonglaw6_CoverSets.j0 k l0 l1 a2 t361 t362 bt365.1 bt365.2 bt369.1 bt369.2 bt373.1 bt373.2 true)))))) = some r := H
    have A6 := Aside0.mk A60
    clear A60
    replace H := Option.bind_eq_some_iff.mp H
    obtain ⟨⟨t365, t366⟩, A70, H⟩ := H
    replace H : ((cover_Less.f k l0 l1).bind fun bt369 => ((cover_Less.f k l1 l0).bind fun bt373 => ((cover_May.f k l0).bind fun t377 => (if t377 = true then ((cover_May.f k l1).bind fun t378 => (furlonglaw6_CoverSets.j0 k l0 l1 a2 t361 t362 t365 t366 bt369.1 bt369.2 bt373.1 bt373.2 (!t378))) else (furlonglaw6_CoverSets.j0 k l0 l1 a2 t361 t362 t365 t366 bt369.1 bt369.2 bt373.1 bt373.2 true))))) = some r := H
    have A7 := Aside0.mk A70
    clear A70
    replace H := Option.bind_eq_some_iff.mp H
    obtain ⟨⟨t369, t370⟩, A80, H⟩ := H
    replace H : ((cover_Less.f k l1 l0).bind fun bt373 => ((cover_May.f k l0).bind fun t377 => (if t377 = true then ((cover_May.f k l1).bind fun t378 => (furlonglaw6_CoverSets.j0 k l0 l1 a2 t361 t362 t365 t366 t369 t370 bt373.1 bt373.2 (!t378))) else (furlonglaw6_CoverSets.j0 k l0 l1 a2 t361 t362 t365 t366 t369 t370 bt373.1 bt373.2 true)))) = some r := H
    have A8 := Aside0.mk A80
    clear A80
    replace H := Option.bind_eq_some_iff.mp H
    obtain ⟨⟨t373, t374⟩, A90, H⟩ := H
    replace H : ((cover_May.f k l0).bind fun t377 => (if t377 = true then ((cover_May.f k l1).bind fun t378 => (furlonglaw6_CoverSets.j0 k l0 l1 a2 t361 t362 t365 t366 t369 t370 t373 t374 (!t378))) else (furlonglaw6_CoverSets.j0 k l0 l1 a2 t361 t362 t365 t366 t369 t370 t373 t374 true))) = some r := H
    have A9 := Aside0.mk A90
    clear A90
    have HC10 := Aside0.mk H
    clear H
    go_enter Try.func4, Try.ntmps4
    go_upto_region 7 with (first | ((with_reducible refine gate_callee (f := 21) rfl ?_); refine goesL_ (some 21) rfl rfl Try.func21 (by kernel_rfl) rfl #[] rfl (by (try simp only [List.map_toArray, List.map_cons, List.map_nil]); first | done | rfl | (simp only [List.length_drop, List.length_take]; rfl)) ?_; (with_reducible refine (furlonglaw6_awake.calls k  true _ A4.out).mono ?_); rintro e w11 ⟨rfl, hb⟩; refine ⟨_, rfl, ?_⟩; have n0_ := Aside0.mk (below_step (by repeat (first | (with_reducible first | exact HB.out | apply below_alloc | apply pw_below_drewN | apply below_drew1) | exact HB.out)) hb); clear HB; have HB := n0_; clear n0_; (try clear hb); (try clear hb2); (try clear hk); (try clear hi)) | ((with_reducible refine gate_callee (f := 12) rfl ?_); refine goesL_ (some 26) rfl rfl Try.func12 (by kernel_rfl) rfl #[.slice A0 l0.length c0, .slice A1 l1.length c1] rfl (by (try simp only [List.map_toArray, List.map_cons, List.map_nil]); first | done | rfl | (simp only [List.length_drop, List.length_take]; rfl)) ?_; (with_reducible refine (cover_Union.calls k _ _ l0 _ _ l1 t361 t362 _ ?side1 ?side2 ?side3 ?side4 A6.out).mono ?_); (case side1 => repeat (first | exact (Kd.C_below HR0.out HB.out) | (with_reducible refine Kd.C_alloc ?_ _) | (with_reducible refine Kd.C_drewN ?_ _) | (with_reducible refine Kd.C_drew ?_))); (case side2 => exact HC0.out); (case side3 => repeat (first | exact (Kd.C_below HR1.out HB.out) | (with_reducible refine Kd.C_alloc ?_ _) | (with_reducible refine Kd.C_drewN ?_ _) | (with_reducible refine Kd.C_drew ?_))); (case side4 => exact HC1.out); rintro e w12 ⟨v363, rfl, ho0, hb⟩; refine ⟨_, rfl, ?_⟩; have n0_ := Aside0.mk (Kd.R_lower ho0 (below_size (by repeat (first | (with_reducible first | exact HB.out | apply below_alloc | apply pw_below_drewN | apply below_drew1) | exact HB.out)))); have n1_ := Aside0.mk (below_step (by repeat (first | (with_reducible first | exact HB.out | apply below_alloc | apply pw_below_drewN | apply below_drew1) | exact HB.out)) hb); clear HB; have HO364 := n0_; have HB := n1_; clear n0_ n1_; (try clear hb); (try clear hb2); (try clear hk); (try clear hi); (try clear ho0)) | ((with_reducible refine gate_callee (f := 14) rfl ?_); refine goesL_ (some 32) rfl rfl Try.func14 (by kernel_rfl) rfl #[.slice A0 l0.length c0, .slice A1 l1.length c1] rfl (by (try simp only [List.map_toArray, List.map_cons, List.map_nil]); first | done | rfl | (simp only [List.length_drop, List.length_take]; rfl)) ?_; (with_reducible refine (cover_Common.calls k _ _ l0 _ _ l1 t365 t366 _ ?side1 ?side2 ?side3 ?side4 A7.out).mono ?_); (case side1 => repeat (first | exact (Kd.C_below HR0.out HB.out) | (with_reducible refine Kd.C_alloc ?_ _) | (with_reducible refine Kd.C_drewN ?_ _) | (with_reducible refine Kd.C_drew ?_))); (case side2 => exact HC0.out); (case side3 => repeat (first | exact (Kd.C_below HR1.out HB.out) | (with_reducible refine Kd.C_alloc ?_ _) | (with_reducible refine Kd.C_drewN ?_ _) | (with_reducible refine Kd.C_drew ?_))); (case side4 => exact HC1.out); rintro e w13 ⟨v367, rfl, ho0, hb⟩; refine ⟨_, rfl, ?_⟩; have n0_ := Aside0.mk (Kd.R_elder' (by (with_reducible repeat (first | apply Kd.R_alloc | apply Kd.R_drewN | apply Kd.R_drew)); exact HO364.out) (Kd.R_base ho0) hb); have n1_ := Aside0.mk (Kd.R_lower (Kd.R_new' ho0 (Kd.R_lt (by (with_reducible repeat (first | apply Kd.R_alloc | apply Kd.R_drewN | apply Kd.R_drew)); exact HO364.out))) (below_size (by repeat (first | (with_reducible first | exact HB.out | apply below_alloc | apply pw_below_drewN | apply below_drew1) | exact HB.out)))); have n2_ := Aside0.mk (below_step (by repeat (first | (with_reducible first | exact HB.out | apply below_alloc | apply pw_below_drewN | apply below_drew1) | exact HB.out)) hb); clear HO364; clear HB; have HO364 := n0_; have HO368 := n1_; have HB := n2_; clear n0_ n1_ n2_; (try clear hb); (try clear hb2); (try clear hk); (try clear hi); (try clear ho0)) | ((with_reducible refine gate_callee (f := 15) rfl ?_); refine goesL_ (some 38) rfl rfl Try.func15 (by kernel_rfl) rfl #[.slice A0 l0.length c0, .slice A1 l1.length c1] rfl (by (try simp only [List.map_toArray, List.map_cons, List.map_nil]); first | done | rfl | (simp only [List.length_drop, List.length_take]; rfl)) ?_; (with_reducible refine (cover_Less.calls k _ _ l0 _ _ l1 t369 t370 _ ?side1 ?side2 ?side3 ?side4 A8.out).mono ?_); (case side1 => repeat (first | exact (Kd.C_below HR0.out HB.out) | (with_reducible refine Kd.C_alloc ?_ _) | (with_reducible refine Kd.C_drewN ?_ _) | (with_reducible refine Kd.C_drew ?_))); (case side2 => exact HC0.out); (case side3 => repeat (first | exact (Kd.C_below HR1.out HB.out) | (with_reducible refine Kd.C_alloc ?_ _) | (with_reducible refine Kd.C_drewN ?_ _) | (with_reducible refine Kd.C_drew ?_))); (case side4 => exact HC1.out); rintro e w14 ⟨v371, rfl, ho0, hb⟩; refine ⟨_, rfl, ?_⟩; have n0_ := Aside0.mk (Kd.R_elder' (by (with_reducible repeat (first | apply Kd.R_alloc | apply Kd.R_drewN | apply Kd.R_drew)); exact HO364.out) (Kd.R_base ho0) hb); have n1_ := Aside0.mk (Kd.R_elder' (by (with_reducible repeat (first | apply Kd.R_alloc | apply Kd.R_drewN | apply Kd.R_drew)); exact HO368.out) (Kd.R_base ho0) hb); have n2_ := Aside0.mk (Kd.R_lower (Kd.R_new' (Kd.R_new' ho0 (Kd.R_lt (by (with_reducible repeat (first | apply Kd.R_alloc | apply Kd.R_drewN | apply Kd.R_drew)); exact HO364.out))) (Kd.R_lt (by (with_reducible repeat (first | apply Kd.R_alloc | apply Kd.R_drewN | apply Kd.R_drew)); exact HO368.out))) (below_size (by repeat (first | (with_reducible first | exact HB.out | apply below_alloc | apply pw_below_drewN | apply below_drew1) | exact HB.out)))); have n3_ := Aside0.mk (below_step (by repeat (first | (with_reducible first | exact HB.out | apply below_alloc | apply pw_below_drewN | apply below_drew1) | exact HB.out)) hb); clear HO364; clear HO368; clear HB; have HO364 := n0_; have HO368 := n1_; have HO372 := n2_; have HB := n3_; clear n0_ n1_ n2_ n3_; (try clear hb); (try clear hb2); (try clear hk); (try clear hi); (try clear ho0)) | ((with_reducible refine gate_callee (f := 15) rfl ?_); refine goesL_ (some 44) rfl rfl Try.func15 (by kernel_rfl) rfl #[.slice A1 l1.length c1, .slice A0 l0.length c0] rfl (by (try simp only [List.map_toArray, List.map_cons, List.map_nil]); first | done | rfl | (simp only [List.length_drop, List.length_take]; rfl)) ?_; (with_reducible refine (cover_Less.calls k _ _ l1 _ _ l0 t373 t374 _ ?side1 ?side2 ?side3 ?side4 A9.out).mono ?_); (case side1 => repeat (first | exact (Kd.C_below HR1.out HB.out) | (with_reducible refine Kd.C_alloc ?_ _) | (with_reducible refine Kd.C_drewN ?_ _) | (with_reducible refine Kd.C_drew ?_))); (case side2 => exact HC1.out); (case side3 => repeat (first | exact (Kd.C_below HR0.out HB.out) | (with_reducible refine Kd.C_alloc ?_ _) | (with_reducible refine Kd.C_drewN ?_ _) | (with_reducible refine Kd.C_drew ?_))); (case side4 => exact HC0.out); rintro e w15 ⟨v375, rfl, ho0, hb⟩; refine ⟨_, rfl, ?_⟩; have n0_ := Aside0.mk (Kd.R_elder' (by (with_reducible repeat (first | apply Kd.R_alloc | apply Kd.R_drewN | apply Kd.R_drew)); exact HO364.out) (Kd.R_base ho0) hb); have n1_ := Aside0.mk (Kd.R_elder' (by (with_reducible repeat (first | apply Kd.R_alloc | apply Kd.R_drewN | apply Kd.R_drew)); exact HO368.out) (Kd.R_base ho0) hb); have n2_ := Aside0.mk (Kd.R_elder' (by (with_reducible repeat (first | apply Kd.R_alloc | apply Kd.R_drewN | apply Kd.R_drew)); exact HO372.out) (Kd.R_base ho0) hb); have n3_ := Aside0.mk (Kd.R_lower (Kd.R_new' (Kd.R_new' (Kd.R_new' ho0 (Kd.R_lt (by (with_reducible repeat (first | apply Kd.R_alloc | apply Kd.R_drewN | apply Kd.R_drew)); exact HO364.out))) (Kd.R_lt (by (with_reducible repeat (first | apply Kd.R_alloc | apply Kd.R_drewN | apply Kd.R_drew)); exact HO368.out))) (Kd.R_lt (by (with_reducible repeat (first | apply Kd.R_alloc | apply Kd.R_drewN | apply Kd.R_drew)); exact HO372.out))) (below_size (by repeat (first | (with_reducible first | exact HB.out | apply below_alloc | apply pw_below_drewN | apply below_drew1) | exact HB.out)))); have n4_ := Aside0.mk (below_step (by repeat (first | (with_reducible first | exact HB.out | apply below_alloc | apply pw_below_drewN | apply below_drew1) | exact HB.out)) hb); clear HO364; clear HO368; clear HO372; clear HB; have HO364 := n0_; have HO368 := n1_; have HO372 := n2_; have HO376 := n3_; have HB := n4_; clear n0_ n1_ n2_ n3_ n4_; (try clear hb); (try clear hb2); (try clear hk); (try clear hi); (try clear ho0)))
    (try simp only [Act.put, List.setIfInBounds_toArray, List.set_cons_zero, List.set_cons_succ])
    go_cut [54] (fun v54 wc => ∃ (kq : Nat) (x54_9 : Bool), v54 = .bool x54_9 ∧ Aside0 (furlonglaw6_CoverSets.j0 kq l0 l1 a2 t361 t362 t365 t366 t369 t370 t373 t374 x54_9 = some r) ∧ Aside0 (kq ≤ k) ∧ Aside0 (Kd.R k41 41 wc w.heap.size (fun k_ => some k_ ≠ (v367 : Value).ownBlock ∧ some k_ ≠ (v371 : Value).ownBlock ∧ some k_ ≠ (v375 : Value).ownBlock) v363 t361) ∧ Aside0 (Kd.R k41 41 wc w.heap.size (fun k_ => some k_ ≠ (v363 : Value).ownBlock ∧ some k_ ≠ (v371 : Value).ownBlock ∧ some k_ ≠ (v375 : Value).ownBlock) v367 t365) ∧ Aside0 (Kd.R k41 41 wc w.heap.size (fun k_ => some k_ ≠ (v363 : Value).ownBlock ∧ some k_ ≠ (v367 : Value).ownBlock ∧ some k_ ≠ (v375 : Value).ownBlock) v371 t369) ∧ Aside0 (Kd.R k41 41 wc w.heap.size (fun k_ => some k_ ≠ (v363 : Value).ownBlock ∧ some k_ ≠ (v367 : Value).ownBlock ∧ some k_ ≠ (v371 : Value).ownBlock) v375 t373) ∧ Aside0 (Below w.heap.size w wc))
    case first =>
      have H := HC10.out
      clear HC10
      replace H := Option.bind_eq_some_iff.mp H
      obtain ⟨t377, A160, H⟩ := H
      replace H : (if t377 = true then ((cover_May.f k l1).bind fun t378 => (furlonglaw6_CoverSets.j0 k l0 l1 a2 t361 t362 t365 t366 t369 t370 t373 t374 (!t378))) else (furlonglaw6_CoverSets.j0 k l0 l1 a2 t361 t362 t365 t366 t369 t370 t373 t374 true)) = some r := H
      have A16 := Aside0.mk A160
      clear A160
      by_cases c17 : t377 = true
      · subst c17
        have H1 : ((cover_May.f k l1).bind fun t378 => (furlonglaw6_CoverSets.j0 k l0 l1 a2 t361 t362 t365 t366 t369 t370 t373 t374 (!t378))) = some r := by rw [if_pos rfl] at H; exact H
        clear H
        have H := H1
        clear H1
        replace H := Option.bind_eq_some_iff.mp H
        obtain ⟨t378, A180, H⟩ := H
        replace H : (furlonglaw6_CoverSets.j0 k l0 l1 a2 t361 t362 t365 t366 t369 t370 t373 t374 (!t378)) = some r := H
        have A18 := Aside0.mk A180
        clear A180
        have H' := Aside0.mk H
        clear H
        go_wp2_with (first | ((with_reducible refine gate_callee (f := 16) rfl ?_); refine goesL_ (some 48) rfl rfl Try.func16 (by kernel_rfl) rfl #[.slice A0 l0.length c0] rfl (by (try simp only [List.map_toArray, List.map_cons, List.map_nil]); first | done | rfl | (simp only [List.length_drop, List.length_take]; rfl)) ?_; (with_reducible refine (cover_May.calls k _ _ l0 true _ ?side1 ?side2 A16.out).mono ?_); (case side1 => repeat (first | exact (Kd.C_below HR0.out HB.out) | (with_reducible refine Kd.C_alloc ?_ _) | (with_reducible refine Kd.C_drewN ?_ _) | (with_reducible refine Kd.C_drew ?_))); (case side2 => exact HC0.out); rintro e w19 ⟨rfl, hb⟩; refine ⟨_, rfl, ?_⟩; have n0_ := Aside0.mk (Kd.R_below (by (with_reducible repeat (first | apply Kd.R_alloc | apply Kd.R_drewN | apply Kd.R_drew)); exact HO364.out) hb); have n1_ := Aside0.mk (Kd.R_below (by (with_reducible repeat (first | apply Kd.R_alloc | apply Kd.R_drewN | apply Kd.R_drew)); exact HO368.out) hb); have n2_ := Aside0.mk (Kd.R_below (by (with_reducible repeat (first | apply Kd.R_alloc | apply Kd.R_drewN | apply Kd.R_drew)); exact HO372.out) hb); have n3_ := Aside0.mk (Kd.R_below (by (with_reducible repeat (first | apply Kd.R_alloc | apply Kd.R_drewN | apply Kd.R_drew)); exact HO376.out) hb); have n4_ := Aside0.mk (below_step (by repeat (first | (with_reducible first | exact HB.out | apply below_alloc | apply pw_below_drewN | apply below_drew1) | exact HB.out)) hb); clear HO364; clear HO368; clear HO372; clear HO376; clear HB; have HO364 := n0_; have HO368 := n1_; have HO372 := n2_; have HO376 := n3_; have HB := n4_; clear n0_ n1_ n2_ n3_ n4_; (try clear hb); (try clear hb2); (try clear hk); (try clear hi)) | (go_at_call 16; (with_reducible refine (cover_May.calls k _ _ l1 t378 _ ?side1 ?side2 A18.out).mono ?_); (case side1 => repeat (first | exact (Kd.C_below HR1.out HB.out) | (with_reducible refine Kd.C_alloc ?_ _) | (with_reducible refine Kd.C_drewN ?_ _) | (with_reducible refine Kd.C_drew ?_))); (case side2 => exact HC1.out); rintro e w20 ⟨rfl, hb⟩; have n0_ := Aside0.mk (Kd.R_below (by (with_reducible repeat (first | apply Kd.R_alloc | apply Kd.R_drewN | apply Kd.R_drew)); exact HO364.out) hb); have n1_ := Aside0.mk (Kd.R_below (by (with_reducible repeat (first | apply Kd.R_alloc | apply Kd.R_drewN | apply Kd.R_drew)); exact HO368.out) hb); have n2_ := Aside0.mk (Kd.R_below (by (with_reducible repeat (first | apply Kd.R_alloc | apply Kd.R_drewN | apply Kd.R_drew)); exact HO372.out) hb); have n3_ := Aside0.mk (Kd.R_below (by (with_reducible repeat (first | apply Kd.R_alloc | apply Kd.R_drewN | apply Kd.R_drew)); exact HO376.out) hb); have n4_ := Aside0.mk (below_step (by repeat (first | (with_reducible first | exact HB.out | apply below_alloc | apply pw_below_drewN | apply below_drew1) | exact HB.out)) hb); clear HO364; clear HO368; clear HO372; clear HO376; clear HB; have HO364 := n0_; have HO368 := n1_; have HO372 := n2_; have HO376 := n3_; have HB := n4_; clear n0_ n1_ n2_ n3_ n4_; (try clear hb); (try clear hb2); (try clear hk); (try clear hi)))
        go_meet
        case rel => exact ⟨_, (!t378), (by first | rfl | (simp; done) | (simp [*]; done)), H', ⟨by first | omega | exact Nat.le_refl _⟩, ⟨by (with_reducible repeat (first | apply Kd.R_alloc | apply Kd.R_drewN | apply Kd.R_drew)); exact Kd.R_mono HO364.out (fun _ hk => ⟨hk.1.1.2, ⟨hk.1.2, hk.2⟩⟩)⟩, ⟨by (with_reducible repeat (first | apply Kd.R_alloc | apply Kd.R_drewN | apply Kd.R_drew)); exact Kd.R_mono HO368.out (fun _ hk => ⟨hk.1.1.2, ⟨hk.1.2, hk.2⟩⟩)⟩, ⟨by (with_reducible repeat (first | apply Kd.R_alloc | apply Kd.R_drewN | apply Kd.R_drew)); exact Kd.R_mono HO372.out (fun _ hk => ⟨hk.1.1.2, ⟨hk.1.2, hk.2⟩⟩)⟩, ⟨by (with_reducible repeat (first | apply Kd.R_alloc | apply Kd.R_drewN | apply Kd.R_drew)); exact Kd.R_mono HO376.out (fun _ hk => ⟨hk.1.1.2, ⟨hk.1.2, hk.2⟩⟩)⟩, ⟨by repeat (first | (with_reducible first | exact HB.out | apply below_alloc | apply pw_below_drewN | apply below_drew1) | exact HB.out)⟩⟩
      · replace c17 := Bool.eq_false_iff.mpr c17
        subst c17
        have H1 : (furlonglaw6_CoverSets.j0 k l0 l1 a2 t361 t362 t365 t366 t369 t370 t373 t374 true) = some r := by rw [if_neg (show ¬ (false = true) by decide)] at H; exact H
        clear H
        have H := H1
        clear H1
        have H' := Aside0.mk H
        clear H
        go_wp2_with (first | ((with_reducible refine gate_callee (f := 16) rfl ?_); refine goesL_ (some 48) rfl rfl Try.func16 (by kernel_rfl) rfl #[.slice A0 l0.length c0] rfl (by (try simp only [List.map_toArray, List.map_cons, List.map_nil]); first | done | rfl | (simp only [List.length_drop, List.length_take]; rfl)) ?_; (with_reducible refine (cover_May.calls k _ _ l0 false _ ?side1 ?side2 A16.out).mono ?_); (case side1 => repeat (first | exact (Kd.C_below HR0.out HB.out) | (with_reducible refine Kd.C_alloc ?_ _) | (with_reducible refine Kd.C_drewN ?_ _) | (with_reducible refine Kd.C_drew ?_))); (case side2 => exact HC0.out); rintro e w21 ⟨rfl, hb⟩; refine ⟨_, rfl, ?_⟩; have n0_ := Aside0.mk (Kd.R_below (by (with_reducible repeat (first | apply Kd.R_alloc | apply Kd.R_drewN | apply Kd.R_drew)); exact HO364.out) hb); have n1_ := Aside0.mk (Kd.R_below (by (with_reducible repeat (first | apply Kd.R_alloc | apply Kd.R_drewN | apply Kd.R_drew)); exact HO368.out) hb); have n2_ := Aside0.mk (Kd.R_below (by (with_reducible repeat (first | apply Kd.R_alloc | apply Kd.R_drewN | apply Kd.R_drew)); exact HO372.out) hb); have n3_ := Aside0.mk (Kd.R_below (by (with_reducible repeat (first | apply Kd.R_alloc | apply Kd.R_drewN | apply Kd.R_drew)); exact HO376.out) hb); have n4_ := Aside0.mk (below_step (by repeat (first | (with_reducible first | exact HB.out | apply below_alloc | apply pw_below_drewN | apply below_drew1) | exact HB.out)) hb); clear HO364; clear HO368; clear HO372; clear HO376; clear HB; have HO364 := n0_; have HO368 := n1_; have HO372 := n2_; have HO376 := n3_; have HB := n4_; clear n0_ n1_ n2_ n3_ n4_; (try clear hb); (try clear hb2); (try clear hk); (try clear hi)))
        go_meet
        case rel => exact ⟨_, (true), (by first | rfl | (simp; done) | (simp [*]; done)), H', ⟨by first | omega | exact Nat.le_refl _⟩, ⟨by (with_reducible repeat (first | apply Kd.R_alloc | apply Kd.R_drewN | apply Kd.R_drew)); exact Kd.R_mono HO364.out (fun _ hk => ⟨hk.1.1.2, ⟨hk.1.2, hk.2⟩⟩)⟩, ⟨by (with_reducible repeat (first | apply Kd.R_alloc | apply Kd.R_drewN | apply Kd.R_drew)); exact Kd.R_mono HO368.out (fun _ hk => ⟨hk.1.1.2, ⟨hk.1.2, hk.2⟩⟩)⟩, ⟨by (with_reducible repeat (first | apply Kd.R_alloc | apply Kd.R_drewN | apply Kd.R_drew)); exact Kd.R_mono HO372.out (fun _ hk => ⟨hk.1.1.2, ⟨hk.1.2, hk.2⟩⟩)⟩, ⟨by (with_reducible repeat (first | apply Kd.R_alloc | apply Kd.R_drewN | apply Kd.R_drew)); exact Kd.R_mono HO376.out (fun _ hk => ⟨hk.1.1.2, ⟨hk.1.2, hk.2⟩⟩)⟩, ⟨by repeat (first | (with_reducible first | exact HB.out | apply below_alloc | apply pw_below_drewN | apply below_drew1) | exact HB.out)⟩⟩
    case rest =>
      clear HC10
      try clear c1
      try clear c2
      try clear p2
      try clear c4
      try clear c5
      try clear c12
      try clear c14
      try clear c15
      try clear c16
      try clear c17
      try clear c21
      obtain ⟨kq, x54_9, rfl, HA, HJ9, HO_7, HO_9, HO_11, HO_13, HB⟩ := hcut
      cases kq with
      | zero => exact absurd HA.out (by simp [furlonglaw6_CoverSets.j0])
      | succ kj9 =>
        have H := HA.out
        clear HA
        simp only [furlonglaw6_CoverSets.j0] at H
        by_cases c22 : x54_9 = true
        · subst c22
          have H1 : ((furlonglaw0_Num.f t362).bind fun t379 => (if t379 = 600 then ((furlonglaw0_Num.f t366).bind fun t380 => (if t380 = 600 then ((furlonglaw0_Num.f t370).bind fun t381 => (if t381 = 600 then ((furlonglaw0_Num.f t374).bind fun t382 => (some (t382 == 600))) else (none))) else (none))) else (none))) = some r := by rw [if_pos rfl] at H; exact H
          clear H
          have H := H1
          clear H1
          replace H := Option.bind_eq_some_iff.mp H
          obtain ⟨t379, A230, H⟩ := H
          replace H : (if t379 = 600 then ((furlonglaw0_Num.f t366).bind fun t380 => (if t380 = 600 then ((furlonglaw0_Num.f t370).bind fun t381 => (if t381 = 600 then ((furlonglaw0_Num.f t374).bind fun t382 => (some (t382 == 600))) else (none))) else (none))) else (none)) = some r := H
          have A23 := Aside0.mk A230
          clear A230
          by_cases c24 : t379 = 600
          · rw [if_pos c24] at H
            have c24b0 : (t379 == 600) = true := beq_iff_eq.mpr c24
            have c24b1 : (t379 != 600) = false := bne_eq_false_iff_eq.mpr c24
            clear c24
            replace H := Option.bind_eq_some_iff.mp H
            obtain ⟨t380, A250, H⟩ := H
            replace H : (if t380 = 600 then ((furlonglaw0_Num.f t370).bind fun t381 => (if t381 = 600 then ((furlonglaw0_Num.f t374).bind fun t382 => (some (t382 == 600))) else (none))) else (none)) = some r := H
            have A25 := Aside0.mk A250
            clear A250
            by_cases c26 : t380 = 600
            · rw [if_pos c26] at H
              have c26b0 : (t380 == 600) = true := beq_iff_eq.mpr c26
              have c26b1 : (t380 != 600) = false := bne_eq_false_iff_eq.mpr c26
              clear c26
              replace H := Option.bind_eq_some_iff.mp H
              obtain ⟨t381, A270, H⟩ := H
              replace H : (if t381 = 600 then ((furlonglaw0_Num.f t374).bind fun t382 => (some (t382 == 600))) else (none)) = some r := H
              have A27 := Aside0.mk A270
              clear A270
              by_cases c28 : t381 = 600
              · rw [if_pos c28] at H
                have c28b0 : (t381 == 600) = true := beq_iff_eq.mpr c28
                have c28b1 : (t381 != 600) = false := bne_eq_false_iff_eq.mpr c28
                clear c28
                replace H := Option.bind_eq_some_iff.mp H
                obtain ⟨t382, A290, H⟩ := H
                replace H : (some (t382 == 600)) = some r := H
                have A29 := Aside0.mk A290
                clear A290
                obtain rfl := Option.some.inj H
                go_wp2_with (first | ((with_reducible refine gate_callee (f := 11) rfl ?_); refine goesL_ (some 56) rfl rfl Try.func11 (by kernel_rfl) rfl #[.int .i64 t362] rfl (by (try simp only [List.map_toArray, List.map_cons, List.map_nil]); first | done | rfl | (simp only [List.length_drop, List.length_take]; rfl)) ?_; (with_reducible refine (furlonglaw0_Num.calls t362 t379 _ A23.out).mono ?_); rintro e w' ⟨rfl, ⟨nd, rfl⟩⟩; refine ⟨_, rfl, ?_⟩) | (go_at_call 11; (with_reducible refine (furlonglaw0_Num.calls t366 t380 _ A25.out).mono ?_); rintro e w' ⟨rfl, ⟨nd, rfl⟩⟩) | (go_at_call 11; (with_reducible refine (furlonglaw0_Num.calls t370 t381 _ A27.out).mono ?_); rintro e w' ⟨rfl, ⟨nd, rfl⟩⟩) | (go_at_call 11; (with_reducible refine (furlonglaw0_Num.calls t374 t382 _ A29.out).mono ?_); rintro e w' ⟨rfl, ⟨nd, rfl⟩⟩))
                go_ret
                exact ⟨by first | rfl | (simp [errW_none, errW_some] <;> rfl) | (simp [*, errW_none, errW_some] <;> rfl), by repeat (first | (with_reducible first | exact HB.out | apply below_alloc | apply pw_below_drewN | apply below_drew1) | exact HB.out)⟩
              · rw [if_neg c28] at H
                exact absurd H (by simp)
            · rw [if_neg c26] at H
              exact absurd H (by simp)
          · rw [if_neg c24] at H
            exact absurd H (by simp)
        · replace c22 := Bool.eq_false_iff.mpr c22
          subst c22
          have H1 : ((cover_Has.f l0 a2).bind fun t383 => ((cover_Has.f l1 a2).bind fun t384 => ((cover_Has.f t361 a2).bind fun t385 => (if t383 = true then (if (t385 != true) = true then (furlonglaw6_CoverSets.j1 kj9 l0 t361 t362 t365 t366 t369 t370 t373 t374 true) else ((cover_Has.f t365 a2).bind fun t386 => (if (t386 != t384) = true then (furlonglaw6_CoverSets.j1 kj9 l0 t361 t362 t365 t366 t369 t370 t373 t374 true) else ((cover_Has.f t369 a2).bind fun t387 => (furlonglaw6_CoverSets.j1 kj9 l0 t361 t362 t365 t366 t369 t370 t373 t374 (t387 != (!t384))))))) else (if (t385 != t384) = true then (furlonglaw6_CoverSets.j1 kj9 l0 t361 t362 t365 t366 t369 t370 t373 t374 true) else ((cover_Has.f t365 a2).bind fun t388 => (if (t388 != false) = true then (furlonglaw6_CoverSets.j1 kj9 l0 t361 t362 t365 t366 t369 t370 t373 t374 true) else ((cover_Has.f t369 a2).bind fun t389 => (furlonglaw6_CoverSets.j1 kj9 l0 t361 t362 t365 t366 t369 t370 t373 t374 (t389 != false)))))))))) = some r := by rw [if_neg (show ¬ (false = true) by decide)] at H; exact H
          clear H
          have H := H1
          clear H1
          replace H := Option.bind_eq_some_iff.mp H
          obtain ⟨t383, A300, H⟩ := H
          replace H : ((cover_Has.f l1 a2).bind fun t384 => ((cover_Has.f t361 a2).bind fun t385 => (if t383 = true then (if (t385 != true) = true then (furlonglaw6_CoverSets.j1 kj9 l0 t361 t362 t365 t366 t369 t370 t373 t374 true) else ((cover_Has.f t365 a2).bind fun t386 => (if (t386 != t384) = true then (furlonglaw6_CoverSets.j1 kj9 l0 t361 t362 t365 t366 t369 t370 t373 t374 true) else ((cover_Has.f t369 a2).bind fun t387 => (furlonglaw6_CoverSets.j1 kj9 l0 t361 t362 t365 t366 t369 t370 t373 t374 (t387 != (!t384))))))) else (if (t385 != t384) = true then (furlonglaw6_CoverSets.j1 kj9 l0 t361 t362 t365 t366 t369 t370 t373 t374 true) else ((cover_Has.f t365 a2).bind fun t388 => (if (t388 != false) = true then (furlonglaw6_CoverSets.j1 kj9 l0 t361 t362 t365 t366 t369 t370 t373 t374 true) else ((cover_Has.f t369 a2).bind fun t389 => (furlonglaw6_CoverSets.j1 kj9 l0 t361 t362 t365 t366 t369 t370 t373 t374 (t389 != false))))))))) = some r := H
          have A30 := Aside0.mk A300
          clear A300
          replace H := Option.bind_eq_some_iff.mp H
          obtain ⟨t384, A310, H⟩ := H
          replace H : ((cover_Has.f t361 a2).bind fun t385 => (if t383 = true then (if (t385 != true) = true then (furlonglaw6_CoverSets.j1 kj9 l0 t361 t362 t365 t366 t369 t370 t373 t374 true) else ((cover_Has.f t365 a2).bind fun t386 => (if (t386 != t384) = true then (furlonglaw6_CoverSets.j1 kj9 l0 t361 t362 t365 t366 t369 t370 t373 t374 true) else ((cover_Has.f t369 a2).bind fun t387 => (furlonglaw6_CoverSets.j1 kj9 l0 t361 t362 t365 t366 t369 t370 t373 t374 (t387 != (!t384))))))) else (if (t385 != t384) = true then (furlonglaw6_CoverSets.j1 kj9 l0 t361 t362 t365 t366 t369 t370 t373 t374 true) else ((cover_Has.f t365 a2).bind fun t388 => (if (t388 != false) = true then (furlonglaw6_CoverSets.j1 kj9 l0 t361 t362 t365 t366 t369 t370 t373 t374 true) else ((cover_Has.f t369 a2).bind fun t389 => (furlonglaw6_CoverSets.j1 kj9 l0 t361 t362 t365 t366 t369 t370 t373 t374 (t389 != false)))))))) = some r := H
          have A31 := Aside0.mk A310
          clear A310
          have HC32 := Aside0.mk H
          clear H
          go_upto_region 10 with (first | ((with_reducible refine gate_callee (f := 18) rfl ?_); refine goesL_ (some 75) rfl rfl Try.func18 (by kernel_rfl) rfl #[.slice A0 l0.length c0, .int .i64 a2] rfl (by (try simp only [List.map_toArray, List.map_cons, List.map_nil]); first | done | rfl | (simp only [List.length_drop, List.length_take]; rfl)) ?_; (with_reducible refine (cover_Has.calls _ _ l0 a2 t383 _ ?side1 ?side2 A30.out).mono ?_); (case side1 => repeat (first | exact (Kd.C_below HR0.out HB.out) | (with_reducible refine Kd.C_alloc ?_ _) | (with_reducible refine Kd.C_drewN ?_ _) | (with_reducible refine Kd.C_drew ?_))); (case side2 => exact HC0.out); rintro e w33 ⟨rfl, hb⟩; refine ⟨_, rfl, ?_⟩; have n0_ := Aside0.mk (Kd.R_below (by (with_reducible repeat (first | apply Kd.R_alloc | apply Kd.R_drewN | apply Kd.R_drew)); exact HO_7.out) hb); have n1_ := Aside0.mk (Kd.R_below (by (with_reducible repeat (first | apply Kd.R_alloc | apply Kd.R_drewN | apply Kd.R_drew)); exact HO_9.out) hb); have n2_ := Aside0.mk (Kd.R_below (by (with_reducible repeat (first | apply Kd.R_alloc | apply Kd.R_drewN | apply Kd.R_drew)); exact HO_11.out) hb); have n3_ := Aside0.mk (Kd.R_below (by (with_reducible repeat (first | apply Kd.R_alloc | apply Kd.R_drewN | apply Kd.R_drew)); exact HO_13.out) hb); have n4_ := Aside0.mk (below_step (by repeat (first | (with_reducible first | exact HB.out | apply below_alloc | apply pw_below_drewN | apply below_drew1) | exact HB.out)) hb); clear HO_7; clear HO_9; clear HO_11; clear HO_13; clear HB; have HO_7 := n0_; have HO_9 := n1_; have HO_11 := n2_; have HO_13 := n3_; have HB := n4_; clear n0_ n1_ n2_ n3_ n4_; (try clear hb); (try clear hb2); (try clear hk); (try clear hi)) | ((with_reducible refine gate_callee (f := 18) rfl ?_); refine goesL_ (some 78) rfl rfl Try.func18 (by kernel_rfl) rfl #[.slice A1 l1.length c1, .int .i64 a2] rfl (by (try simp only [List.map_toArray, List.map_cons, List.map_nil]); first | done | rfl | (simp only [List.length_drop, List.length_take]; rfl)) ?_; (with_reducible refine (cover_Has.calls _ _ l1 a2 t384 _ ?side1 ?side2 A31.out).mono ?_); (case side1 => repeat (first | exact (Kd.C_below HR1.out HB.out) | (with_reducible refine Kd.C_alloc ?_ _) | (with_reducible refine Kd.C_drewN ?_ _) | (with_reducible refine Kd.C_drew ?_))); (case side2 => exact HC1.out); rintro e w34 ⟨rfl, hb⟩; refine ⟨_, rfl, ?_⟩; have n0_ := Aside0.mk (Kd.R_below (by (with_reducible repeat (first | apply Kd.R_alloc | apply Kd.R_drewN | apply Kd.R_drew)); exact HO_7.out) hb); have n1_ := Aside0.mk (Kd.R_below (by (with_reducible repeat (first | apply Kd.R_alloc | apply Kd.R_drewN | apply Kd.R_drew)); exact HO_9.out) hb); have n2_ := Aside0.mk (Kd.R_below (by (with_reducible repeat (first | apply Kd.R_alloc | apply Kd.R_drewN | apply Kd.R_drew)); exact HO_11.out) hb); have n3_ := Aside0.mk (Kd.R_below (by (with_reducible repeat (first | apply Kd.R_alloc | apply Kd.R_drewN | apply Kd.R_drew)); exact HO_13.out) hb); have n4_ := Aside0.mk (below_step (by repeat (first | (with_reducible first | exact HB.out | apply below_alloc | apply pw_below_drewN | apply below_drew1) | exact HB.out)) hb); clear HO_7; clear HO_9; clear HO_11; clear HO_13; clear HB; have HO_7 := n0_; have HO_9 := n1_; have HO_11 := n2_; have HO_13 := n3_; have HB := n4_; clear n0_ n1_ n2_ n3_ n4_; (try clear hb); (try clear hb2); (try clear hk); (try clear hi)))
          (try simp only [Act.put, List.setIfInBounds_toArray, List.set_cons_zero, List.set_cons_succ])
          go_cut [107] (fun v107 wc => ∃ (kq : Nat) (x107_31 : Bool), v107 = .bool x107_31 ∧ Aside0 (furlonglaw6_CoverSets.j1 kq l0 t361 t362 t365 t366 t369 t370 t373 t374 x107_31 = some r) ∧ Aside0 (kq ≤ kj9) ∧ Aside0 (Kd.R k41 41 wc w.heap.size (fun k_ => some k_ ≠ (v367 : Value).ownBlock ∧ some k_ ≠ (v371 : Value).ownBlock ∧ some k_ ≠ (v375 : Value).ownBlock) v363 t361) ∧ Aside0 (Kd.R k41 41 wc w.heap.size (fun k_ => some k_ ≠ (v363 : Value).ownBlock ∧ some k_ ≠ (v371 : Value).ownBlock ∧ some k_ ≠ (v375 : Value).ownBlock) v367 t365) ∧ Aside0 (Kd.R k41 41 wc w.heap.size (fun k_ => some k_ ≠ (v363 : Value).ownBlock ∧ some k_ ≠ (v367 : Value).ownBlock ∧ some k_ ≠ (v375 : Value).ownBlock) v371 t369) ∧ Aside0 (Kd.R k41 41 wc w.heap.size (fun k_ => some k_ ≠ (v363 : Value).ownBlock ∧ some k_ ≠ (v367 : Value).ownBlock ∧ some k_ ≠ (v371 : Value).ownBlock) v375 t373) ∧ Aside0 (Below w.heap.size w wc))
          case first =>
            have H := HC32.out
            clear HC32
            replace H := Option.bind_eq_some_iff.mp H
            obtain ⟨t385, A350, H⟩ := H
            replace H : (if t383 = true then (if (t385 != true) = true then (furlonglaw6_CoverSets.j1 kj9 l0 t361 t362 t365 t366 t369 t370 t373 t374 true) else ((cover_Has.f t365 a2).bind fun t386 => (if (t386 != t384) = true then (furlonglaw6_CoverSets.j1 kj9 l0 t361 t362 t365 t366 t369 t370 t373 t374 true) else ((cover_Has.f t369 a2).bind fun t387 => (furlonglaw6_CoverSets.j1 kj9 l0 t361 t362 t365 t366 t369 t370 t373 t374 (t387 != (!t384))))))) else (if (t385 != t384) = true then (furlonglaw6_CoverSets.j1 kj9 l0 t361 t362 t365 t366 t369 t370 t373 t374 true) else ((cover_Has.f t365 a2).bind fun t388 => (if (t388 != false) = true then (furlonglaw6_CoverSets.j1 kj9 l0 t361 t362 t365 t366 t369 t370 t373 t374 true) else ((cover_Has.f t369 a2).bind fun t389 => (furlonglaw6_CoverSets.j1 kj9 l0 t361 t362 t365 t366 t369 t370 t373 t374 (t389 != false))))))) = some r := H
            have A35 := Aside0.mk A350
            clear A350
            by_cases c36 : t383 = true
            · subst c36
              have H1 : (if (t385 != true) = true then (furlonglaw6_CoverSets.j1 kj9 l0 t361 t362 t365 t366 t369 t370 t373 t374 true) else ((cover_Has.f t365 a2).bind fun t386 => (if (t386 != t384) = true then (furlonglaw6_CoverSets.j1 kj9 l0 t361 t362 t365 t366 t369 t370 t373 t374 true) else ((cover_Has.f t369 a2).bind fun t387 => (furlonglaw6_CoverSets.j1 kj9 l0 t361 t362 t365 t366 t369 t370 t373 t374 (t387 != (!t384))))))) = some r := by rw [if_pos rfl] at H; exact H
              clear H
              have H := H1
              clear H1
              by_cases c37 : (t385 != true) = true
              · rw [if_pos c37] at H
                have c37b0 : (t385 != true) = true := c37
                (try (have c37b1 : decide (t385 = true) = false := by simpa using c37))
                (try (have c37b2 : (t385 == true) = false := by simpa using c37))
                (try (have c37b3 : ¬ (t385 = true) := by simpa using c37))
                clear c37
                (first | rw [c37b0] | (simp only [i64_w, i32_w]; rw [c37b0]) | skip)
                have H' := Aside0.mk H
                clear H
                obtain ⟨Ao38, co38, eo38⟩ := Kd.R_slice HO_7.out
                subst eo38
                go_wp2_with (first | ((with_reducible refine gate_callee (f := 18) rfl ?_); refine goesL_ (some 81) rfl rfl Try.func18 (by kernel_rfl) rfl #[.slice Ao38 t361.length co38, .int .i64 a2] rfl (by (try simp only [List.map_toArray, List.map_cons, List.map_nil]); first | done | rfl | (simp only [List.length_drop, List.length_take]; rfl)) ?_; (with_reducible refine (cover_Has.calls _ _ t361 a2 t385 _ ?side1 ?side2 A35.out).mono ?_); (case side1 => repeat (first | exact (Kd.R_reads' HO_7.out).2.2 | (with_reducible refine Kd.C_alloc ?_ _) | (with_reducible refine Kd.C_drewN ?_ _) | (with_reducible refine Kd.C_drew ?_))); (case side2 => exact (Kd.R_reads' HO_7.out).2.1); rintro e w39 ⟨rfl, hb⟩; refine ⟨_, rfl, ?_⟩; have n0_ := Aside0.mk (Kd.R_below (by (with_reducible repeat (first | apply Kd.R_alloc | apply Kd.R_drewN | apply Kd.R_drew)); exact HO_7.out) hb); have n1_ := Aside0.mk (Kd.R_below (by (with_reducible repeat (first | apply Kd.R_alloc | apply Kd.R_drewN | apply Kd.R_drew)); exact HO_9.out) hb); have n2_ := Aside0.mk (Kd.R_below (by (with_reducible repeat (first | apply Kd.R_alloc | apply Kd.R_drewN | apply Kd.R_drew)); exact HO_11.out) hb); have n3_ := Aside0.mk (Kd.R_below (by (with_reducible repeat (first | apply Kd.R_alloc | apply Kd.R_drewN | apply Kd.R_drew)); exact HO_13.out) hb); have n4_ := Aside0.mk (below_step (by repeat (first | (with_reducible first | exact HB.out | apply below_alloc | apply pw_below_drewN | apply below_drew1) | exact HB.out)) hb); clear HO_7; clear HO_9; clear HO_11; clear HO_13; clear HB; have HO_7 := n0_; have HO_9 := n1_; have HO_11 := n2_; have HO_13 := n3_; have HB := n4_; clear n0_ n1_ n2_ n3_ n4_; (try clear hb); (try clear hb2); (try clear hk); (try clear hi)))
                go_meet
                case rel => exact ⟨_, (true), (by first | rfl | (simp; done) | (simp [*]; done)), H', ⟨by have := HJ9.out; first | omega | exact Nat.le_refl _⟩, ⟨by (with_reducible repeat (first | apply Kd.R_alloc | apply Kd.R_drewN | apply Kd.R_drew)); exact HO_7.out⟩, ⟨by (with_reducible repeat (first | apply Kd.R_alloc | apply Kd.R_drewN | apply Kd.R_drew)); exact HO_9.out⟩, ⟨by (with_reducible repeat (first | apply Kd.R_alloc | apply Kd.R_drewN | apply Kd.R_drew)); exact HO_11.out⟩, ⟨by (with_reducible repeat (first | apply Kd.R_alloc | apply Kd.R_drewN | apply Kd.R_drew)); exact HO_13.out⟩, ⟨by repeat (first | (with_reducible first | exact HB.out | apply below_alloc | apply pw_below_drewN | apply below_drew1) | exact HB.out)⟩⟩
              · rw [if_neg c37] at H
                have c37b0 : (t385 != true) = false := by simpa using c37
                (try (have c37b1 : decide (t385 = true) = true := by simpa using c37))
                (try (have c37b2 : (t385 == true) = true := by simpa using c37))
                clear c37
                (first | rw [c37b0] | (simp only [i64_w, i32_w]; rw [c37b0]) | skip)
                replace H := Option.bind_eq_some_iff.mp H
                obtain ⟨t386, A400, H⟩ := H
                replace H : (if (t386 != t384) = true then (furlonglaw6_CoverSets.j1 kj9 l0 t361 t362 t365 t366 t369 t370 t373 t374 true) else ((cover_Has.f t369 a2).bind fun t387 => (furlonglaw6_CoverSets.j1 kj9 l0 t361 t362 t365 t366 t369 t370 t373 t374 (t387 != (!t384))))) = some r := H
                have A40 := Aside0.mk A400
                clear A400
                by_cases c41 : (t386 != t384) = true
                · rw [if_pos c41] at H
                  have c41b0 : (t386 != t384) = true := c41
                  (try (have c41b1 : decide (t386 = t384) = false := by simpa using c41))
                  (try (have c41b2 : (t386 == t384) = false := by simpa using c41))
                  (try (have c41b3 : ¬ (t386 = t384) := by simpa using c41))
                  clear c41
                  have H' := Aside0.mk H
                  clear H
                  obtain ⟨Ao42, co42, eo42⟩ := Kd.R_slice HO_7.out
                  subst eo42
                  go_wp2_with (first | ((with_reducible refine gate_callee (f := 18) rfl ?_); refine goesL_ (some 81) rfl rfl Try.func18 (by kernel_rfl) rfl #[.slice Ao42 t361.length co42, .int .i64 a2] rfl (by (try simp only [List.map_toArray, List.map_cons, List.map_nil]); first | done | rfl | (simp only [List.length_drop, List.length_take]; rfl)) ?_; (with_reducible refine (cover_Has.calls _ _ t361 a2 t385 _ ?side1 ?side2 A35.out).mono ?_); (case side1 => repeat (first | exact (Kd.R_reads' HO_7.out).2.2 | (with_reducible refine Kd.C_alloc ?_ _) | (with_reducible refine Kd.C_drewN ?_ _) | (with_reducible refine Kd.C_drew ?_))); (case side2 => exact (Kd.R_reads' HO_7.out).2.1); rintro e w43 ⟨rfl, hb⟩; refine ⟨_, rfl, ?_⟩; have n0_ := Aside0.mk (Kd.R_below (by (with_reducible repeat (first | apply Kd.R_alloc | apply Kd.R_drewN | apply Kd.R_drew)); exact HO_7.out) hb); have n1_ := Aside0.mk (Kd.R_below (by (with_reducible repeat (first | apply Kd.R_alloc | apply Kd.R_drewN | apply Kd.R_drew)); exact HO_9.out) hb); have n2_ := Aside0.mk (Kd.R_below (by (with_reducible repeat (first | apply Kd.R_alloc | apply Kd.R_drewN | apply Kd.R_drew)); exact HO_11.out) hb); have n3_ := Aside0.mk (Kd.R_below (by (with_reducible repeat (first | apply Kd.R_alloc | apply Kd.R_drewN | apply Kd.R_drew)); exact HO_13.out) hb); have n4_ := Aside0.mk (below_step (by repeat (first | (with_reducible first | exact HB.out | apply below_alloc | apply pw_below_drewN | apply below_drew1) | exact HB.out)) hb); clear HO_7; clear HO_9; clear HO_11; clear HO_13; clear HB; have HO_7 := n0_; have HO_9 := n1_; have HO_11 := n2_; have HO_13 := n3_; have HB := n4_; clear n0_ n1_ n2_ n3_ n4_; (try clear hb); (try clear hb2); (try clear hk); (try clear hi); obtain ⟨Ao44, co44, eo44⟩ := Kd.R_slice HO_9.out; subst eo44) | (go_at_call 18; (with_reducible refine (cover_Has.calls _ _ t365 a2 t386 _ ?side1 ?side2 A40.out).mono ?_); (case side1 => repeat (first | exact (Kd.R_reads' HO_9.out).2.2 | (with_reducible refine Kd.C_alloc ?_ _) | (with_reducible refine Kd.C_drewN ?_ _) | (with_reducible refine Kd.C_drew ?_))); (case side2 => exact (Kd.R_reads' HO_9.out).2.1); rintro e w45 ⟨rfl, hb⟩; have n0_ := Aside0.mk (Kd.R_below (by (with_reducible repeat (first | apply Kd.R_alloc | apply Kd.R_drewN | apply Kd.R_drew)); exact HO_7.out) hb); have n1_ := Aside0.mk (Kd.R_below (by (with_reducible repeat (first | apply Kd.R_alloc | apply Kd.R_drewN | apply Kd.R_drew)); exact HO_9.out) hb); have n2_ := Aside0.mk (Kd.R_below (by (with_reducible repeat (first | apply Kd.R_alloc | apply Kd.R_drewN | apply Kd.R_drew)); exact HO_11.out) hb); have n3_ := Aside0.mk (Kd.R_below (by (with_reducible repeat (first | apply Kd.R_alloc | apply Kd.R_drewN | apply Kd.R_drew)); exact HO_13.out) hb); have n4_ := Aside0.mk (below_step (by repeat (first | (with_reducible first | exact HB.out | apply below_alloc | apply pw_below_drewN | apply below_drew1) | exact HB.out)) hb); clear HO_7; clear HO_9; clear HO_11; clear HO_13; clear HB; have HO_7 := n0_; have HO_9 := n1_; have HO_11 := n2_; have HO_13 := n3_; have HB := n4_; clear n0_ n1_ n2_ n3_ n4_; (try clear hb); (try clear hb2); (try clear hk); (try clear hi)))
                  go_meet
                  case rel => exact ⟨_, (true), (by first | rfl | (simp; done) | (simp [*]; done)), H', ⟨by have := HJ9.out; first | omega | exact Nat.le_refl _⟩, ⟨by (with_reducible repeat (first | apply Kd.R_alloc | apply Kd.R_drewN | apply Kd.R_drew)); exact HO_7.out⟩, ⟨by (with_reducible repeat (first | apply Kd.R_alloc | apply Kd.R_drewN | apply Kd.R_drew)); exact HO_9.out⟩, ⟨by (with_reducible repeat (first | apply Kd.R_alloc | apply Kd.R_drewN | apply Kd.R_drew)); exact HO_11.out⟩, ⟨by (with_reducible repeat (first | apply Kd.R_alloc | apply Kd.R_drewN | apply Kd.R_drew)); exact HO_13.out⟩, ⟨by repeat (first | (with_reducible first | exact HB.out | apply below_alloc | apply pw_below_drewN | apply below_drew1) | exact HB.out)⟩⟩
                · rw [if_neg c41] at H
                  have c41b0 : (t386 != t384) = false := by simpa using c41
                  (try (have c41b1 : decide (t386 = t384) = true := by simpa using c41))
                  (try (have c41b2 : (t386 == t384) = true := by simpa using c41))
                  clear c41
                  replace H := Option.bind_eq_some_iff.mp H
                  obtain ⟨t387, A460, H⟩ := H
                  replace H : (furlonglaw6_CoverSets.j1 kj9 l0 t361 t362 t365 t366 t369 t370 t373 t374 (t387 != (!t384))) = some r := H
                  have A46 := Aside0.mk A460
                  clear A460
                  have H' := Aside0.mk H
                  clear H
                  obtain ⟨Ao47, co47, eo47⟩ := Kd.R_slice HO_7.out
                  subst eo47
                  go_wp2_with (first | ((with_reducible refine gate_callee (f := 18) rfl ?_); refine goesL_ (some 81) rfl rfl Try.func18 (by kernel_rfl) rfl #[.slice Ao47 t361.length co47, .int .i64 a2] rfl (by (try simp only [List.map_toArray, List.map_cons, List.map_nil]); first | done | rfl | (simp only [List.length_drop, List.length_take]; rfl)) ?_; (with_reducible refine (cover_Has.calls _ _ t361 a2 t385 _ ?side1 ?side2 A35.out).mono ?_); (case side1 => repeat (first | exact (Kd.R_reads' HO_7.out).2.2 | (with_reducible refine Kd.C_alloc ?_ _) | (with_reducible refine Kd.C_drewN ?_ _) | (with_reducible refine Kd.C_drew ?_))); (case side2 => exact (Kd.R_reads' HO_7.out).2.1); rintro e w48 ⟨rfl, hb⟩; refine ⟨_, rfl, ?_⟩; have n0_ := Aside0.mk (Kd.R_below (by (with_reducible repeat (first | apply Kd.R_alloc | apply Kd.R_drewN | apply Kd.R_drew)); exact HO_7.out) hb); have n1_ := Aside0.mk (Kd.R_below (by (with_reducible repeat (first | apply Kd.R_alloc | apply Kd.R_drewN | apply Kd.R_drew)); exact HO_9.out) hb); have n2_ := Aside0.mk (Kd.R_below (by (with_reducible repeat (first | apply Kd.R_alloc | apply Kd.R_drewN | apply Kd.R_drew)); exact HO_11.out) hb); have n3_ := Aside0.mk (Kd.R_below (by (with_reducible repeat (first | apply Kd.R_alloc | apply Kd.R_drewN | apply Kd.R_drew)); exact HO_13.out) hb); have n4_ := Aside0.mk (below_step (by repeat (first | (with_reducible first | exact HB.out | apply below_alloc | apply pw_below_drewN | apply below_drew1) | exact HB.out)) hb); clear HO_7; clear HO_9; clear HO_11; clear HO_13; clear HB; have HO_7 := n0_; have HO_9 := n1_; have HO_11 := n2_; have HO_13 := n3_; have HB := n4_; clear n0_ n1_ n2_ n3_ n4_; (try clear hb); (try clear hb2); (try clear hk); (try clear hi); obtain ⟨Ao49, co49, eo49⟩ := Kd.R_slice HO_9.out; subst eo49) | (go_at_call 18; (with_reducible refine (cover_Has.calls _ _ t365 a2 t386 _ ?side1 ?side2 A40.out).mono ?_); (case side1 => repeat (first | exact (Kd.R_reads' HO_9.out).2.2 | (with_reducible refine Kd.C_alloc ?_ _) | (with_reducible refine Kd.C_drewN ?_ _) | (with_reducible refine Kd.C_drew ?_))); (case side2 => exact (Kd.R_reads' HO_9.out).2.1); rintro e w50 ⟨rfl, hb⟩; have n0_ := Aside0.mk (Kd.R_below (by (with_reducible repeat (first | apply Kd.R_alloc | apply Kd.R_drewN | apply Kd.R_drew)); exact HO_7.out) hb); have n1_ := Aside0.mk (Kd.R_below (by (with_reducible repeat (first | apply Kd.R_alloc | apply Kd.R_drewN | apply Kd.R_drew)); exact HO_9.out) hb); have n2_ := Aside0.mk (Kd.R_below (by (with_reducible repeat (first | apply Kd.R_alloc | apply Kd.R_drewN | apply Kd.R_drew)); exact HO_11.out) hb); have n3_ := Aside0.mk (Kd.R_below (by (with_reducible repeat (first | apply Kd.R_alloc | apply Kd.R_drewN | apply Kd.R_drew)); exact HO_13.out) hb); have n4_ := Aside0.mk (below_step (by repeat (first | (with_reducible first | exact HB.out | apply below_alloc | apply pw_below_drewN | apply below_drew1) | exact HB.out)) hb); clear HO_7; clear HO_9; clear HO_11; clear HO_13; clear HB; have HO_7 := n0_; have HO_9 := n1_; have HO_11 := n2_; have HO_13 := n3_; have HB := n4_; clear n0_ n1_ n2_ n3_ n4_; (try clear hb); (try clear hb2); (try clear hk); (try clear hi); obtain ⟨Ao51, co51, eo51⟩ := Kd.R_slice HO_11.out; subst eo51) | (go_at_call 18; (with_reducible refine (cover_Has.calls _ _ t369 a2 t387 _ ?side1 ?side2 A46.out).mono ?_); (case side1 => repeat (first | exact (Kd.R_reads' HO_11.out).2.2 | (with_reducible refine Kd.C_alloc ?_ _) | (with_reducible refine Kd.C_drewN ?_ _) | (with_reducible refine Kd.C_drew ?_))); (case side2 => exact (Kd.R_reads' HO_11.out).2.1); rintro e w52 ⟨rfl, hb⟩; have n0_ := Aside0.mk (Kd.R_below (by (with_reducible repeat (first | apply Kd.R_alloc | apply Kd.R_drewN | apply Kd.R_drew)); exact HO_7.out) hb); have n1_ := Aside0.mk (Kd.R_below (by (with_reducible repeat (first | apply Kd.R_alloc | apply Kd.R_drewN | apply Kd.R_drew)); exact HO_9.out) hb); have n2_ := Aside0.mk (Kd.R_below (by (with_reducible repeat (first | apply Kd.R_alloc | apply Kd.R_drewN | apply Kd.R_drew)); exact HO_11.out) hb); have n3_ := Aside0.mk (Kd.R_below (by (with_reducible repeat (first | apply Kd.R_alloc | apply Kd.R_drewN | apply Kd.R_drew)); exact HO_13.out) hb); have n4_ := Aside0.mk (below_step (by repeat (first | (with_reducible first | exact HB.out | apply below_alloc | apply pw_below_drewN | apply below_drew1) | exact HB.out)) hb); clear HO_7; clear HO_9; clear HO_11; clear HO_13; clear HB; have HO_7 := n0_; have HO_9 := n1_; have HO_11 := n2_; have HO_13 := n3_; have HB := n4_; clear n0_ n1_ n2_ n3_ n4_; (try clear hb); (try clear hb2); (try clear hk); (try clear hi)))
                  go_meet
                  case rel => exact ⟨_, ((t387 != (!t384))), (by first | rfl | (simp; done) | (simp [*]; done)), H', ⟨by have := HJ9.out; first | omega | exact Nat.le_refl _⟩, ⟨by (with_reducible repeat (first | apply Kd.R_alloc | apply Kd.R_drewN | apply Kd.R_drew)); exact HO_7.out⟩, ⟨by (with_reducible repeat (first | apply Kd.R_alloc | apply Kd.R_drewN | apply Kd.R_drew)); exact HO_9.out⟩, ⟨by (with_reducible repeat (first | apply Kd.R_alloc | apply Kd.R_drewN | apply Kd.R_drew)); exact HO_11.out⟩, ⟨by (with_reducible repeat (first | apply Kd.R_alloc | apply Kd.R_drewN | apply Kd.R_drew)); exact HO_13.out⟩, ⟨by repeat (first | (with_reducible first | exact HB.out | apply below_alloc | apply pw_below_drewN | apply below_drew1) | exact HB.out)⟩⟩
            · replace c36 := Bool.eq_false_iff.mpr c36
              subst c36
              have H1 : (if (t385 != t384) = true then (furlonglaw6_CoverSets.j1 kj9 l0 t361 t362 t365 t366 t369 t370 t373 t374 true) else ((cover_Has.f t365 a2).bind fun t388 => (if (t388 != false) = true then (furlonglaw6_CoverSets.j1 kj9 l0 t361 t362 t365 t366 t369 t370 t373 t374 true) else ((cover_Has.f t369 a2).bind fun t389 => (furlonglaw6_CoverSets.j1 kj9 l0 t361 t362 t365 t366 t369 t370 t373 t374 (t389 != false)))))) = some r := by rw [if_neg (show ¬ (false = true) by decide)] at H; exact H
              clear H
              have H := H1
              clear H1
              by_cases c53 : (t385 != t384) = true
              · rw [if_pos c53] at H
                have c53b0 : (t385 != t384) = true := c53
                (try (have c53b1 : decide (t385 = t384) = false := by simpa using c53))
                (try (have c53b2 : (t385 == t384) = false := by simpa using c53))
                (try (have c53b3 : ¬ (t385 = t384) := by simpa using c53))
                clear c53
                have H' := Aside0.mk H
                clear H
                obtain ⟨Ao54, co54, eo54⟩ := Kd.R_slice HO_7.out
                subst eo54
                go_wp2_with (first | ((with_reducible refine gate_callee (f := 18) rfl ?_); refine goesL_ (some 81) rfl rfl Try.func18 (by kernel_rfl) rfl #[.slice Ao54 t361.length co54, .int .i64 a2] rfl (by (try simp only [List.map_toArray, List.map_cons, List.map_nil]); first | done | rfl | (simp only [List.length_drop, List.length_take]; rfl)) ?_; (with_reducible refine (cover_Has.calls _ _ t361 a2 t385 _ ?side1 ?side2 A35.out).mono ?_); (case side1 => repeat (first | exact (Kd.R_reads' HO_7.out).2.2 | (with_reducible refine Kd.C_alloc ?_ _) | (with_reducible refine Kd.C_drewN ?_ _) | (with_reducible refine Kd.C_drew ?_))); (case side2 => exact (Kd.R_reads' HO_7.out).2.1); rintro e w55 ⟨rfl, hb⟩; refine ⟨_, rfl, ?_⟩; have n0_ := Aside0.mk (Kd.R_below (by (with_reducible repeat (first | apply Kd.R_alloc | apply Kd.R_drewN | apply Kd.R_drew)); exact HO_7.out) hb); have n1_ := Aside0.mk (Kd.R_below (by (with_reducible repeat (first | apply Kd.R_alloc | apply Kd.R_drewN | apply Kd.R_drew)); exact HO_9.out) hb); have n2_ := Aside0.mk (Kd.R_below (by (with_reducible repeat (first | apply Kd.R_alloc | apply Kd.R_drewN | apply Kd.R_drew)); exact HO_11.out) hb); have n3_ := Aside0.mk (Kd.R_below (by (with_reducible repeat (first | apply Kd.R_alloc | apply Kd.R_drewN | apply Kd.R_drew)); exact HO_13.out) hb); have n4_ := Aside0.mk (below_step (by repeat (first | (with_reducible first | exact HB.out | apply below_alloc | apply pw_below_drewN | apply below_drew1) | exact HB.out)) hb); clear HO_7; clear HO_9; clear HO_11; clear HO_13; clear HB; have HO_7 := n0_; have HO_9 := n1_; have HO_11 := n2_; have HO_13 := n3_; have HB := n4_; clear n0_ n1_ n2_ n3_ n4_; (try clear hb); (try clear hb2); (try clear hk); (try clear hi)))
                go_meet
                case rel => exact ⟨_, (true), (by first | rfl | (simp; done) | (simp [*]; done)), H', ⟨by have := HJ9.out; first | omega | exact Nat.le_refl _⟩, ⟨by (with_reducible repeat (first | apply Kd.R_alloc | apply Kd.R_drewN | apply Kd.R_drew)); exact HO_7.out⟩, ⟨by (with_reducible repeat (first | apply Kd.R_alloc | apply Kd.R_drewN | apply Kd.R_drew)); exact HO_9.out⟩, ⟨by (with_reducible repeat (first | apply Kd.R_alloc | apply Kd.R_drewN | apply Kd.R_drew)); exact HO_11.out⟩, ⟨by (with_reducible repeat (first | apply Kd.R_alloc | apply Kd.R_drewN | apply Kd.R_drew)); exact HO_13.out⟩, ⟨by repeat (first | (with_reducible first | exact HB.out | apply below_alloc | apply pw_below_drewN | apply below_drew1) | exact HB.out)⟩⟩
              · rw [if_neg c53] at H
                have c53b0 : (t385 != t384) = false := by simpa using c53
                (try (have c53b1 : decide (t385 = t384) = true := by simpa using c53))
                (try (have c53b2 : (t385 == t384) = true := by simpa using c53))
                clear c53
                replace H := Option.bind_eq_some_iff.mp H
                obtain ⟨t388, A560, H⟩ := H
                replace H : (if (t388 != false) = true then (furlonglaw6_CoverSets.j1 kj9 l0 t361 t362 t365 t366 t369 t370 t373 t374 true) else ((cover_Has.f t369 a2).bind fun t389 => (furlonglaw6_CoverSets.j1 kj9 l0 t361 t362 t365 t366 t369 t370 t373 t374 (t389 != false)))) = some r := H
                have A56 := Aside0.mk A560
                clear A560
                by_cases c57 : (t388 != false) = true
                · rw [if_pos c57] at H
                  have c57b0 : (t388 != false) = true := c57
                  (try (have c57b1 : decide (t388 = false) = false := by simpa using c57))
                  (try (have c57b2 : (t388 == false) = false := by simpa using c57))
                  (try (have c57b3 : ¬ (t388 = false) := by simpa using c57))
                  clear c57
                  have H' := Aside0.mk H
                  clear H
                  obtain ⟨Ao58, co58, eo58⟩ := Kd.R_slice HO_7.out
                  subst eo58
                  go_wp2_with (first | ((with_reducible refine gate_callee (f := 18) rfl ?_); refine goesL_ (some 81) rfl rfl Try.func18 (by kernel_rfl) rfl #[.slice Ao58 t361.length co58, .int .i64 a2] rfl (by (try simp only [List.map_toArray, List.map_cons, List.map_nil]); first | done | rfl | (simp only [List.length_drop, List.length_take]; rfl)) ?_; (with_reducible refine (cover_Has.calls _ _ t361 a2 t385 _ ?side1 ?side2 A35.out).mono ?_); (case side1 => repeat (first | exact (Kd.R_reads' HO_7.out).2.2 | (with_reducible refine Kd.C_alloc ?_ _) | (with_reducible refine Kd.C_drewN ?_ _) | (with_reducible refine Kd.C_drew ?_))); (case side2 => exact (Kd.R_reads' HO_7.out).2.1); rintro e w59 ⟨rfl, hb⟩; refine ⟨_, rfl, ?_⟩; have n0_ := Aside0.mk (Kd.R_below (by (with_reducible repeat (first | apply Kd.R_alloc | apply Kd.R_drewN | apply Kd.R_drew)); exact HO_7.out) hb); have n1_ := Aside0.mk (Kd.R_below (by (with_reducible repeat (first | apply Kd.R_alloc | apply Kd.R_drewN | apply Kd.R_drew)); exact HO_9.out) hb); have n2_ := Aside0.mk (Kd.R_below (by (with_reducible repeat (first | apply Kd.R_alloc | apply Kd.R_drewN | apply Kd.R_drew)); exact HO_11.out) hb); have n3_ := Aside0.mk (Kd.R_below (by (with_reducible repeat (first | apply Kd.R_alloc | apply Kd.R_drewN | apply Kd.R_drew)); exact HO_13.out) hb); have n4_ := Aside0.mk (below_step (by repeat (first | (with_reducible first | exact HB.out | apply below_alloc | apply pw_below_drewN | apply below_drew1) | exact HB.out)) hb); clear HO_7; clear HO_9; clear HO_11; clear HO_13; clear HB; have HO_7 := n0_; have HO_9 := n1_; have HO_11 := n2_; have HO_13 := n3_; have HB := n4_; clear n0_ n1_ n2_ n3_ n4_; (try clear hb); (try clear hb2); (try clear hk); (try clear hi); obtain ⟨Ao60, co60, eo60⟩ := Kd.R_slice HO_9.out; subst eo60) | (go_at_call 18; (with_reducible refine (cover_Has.calls _ _ t365 a2 t388 _ ?side1 ?side2 A56.out).mono ?_); (case side1 => repeat (first | exact (Kd.R_reads' HO_9.out).2.2 | (with_reducible refine Kd.C_alloc ?_ _) | (with_reducible refine Kd.C_drewN ?_ _) | (with_reducible refine Kd.C_drew ?_))); (case side2 => exact (Kd.R_reads' HO_9.out).2.1); rintro e w61 ⟨rfl, hb⟩; have n0_ := Aside0.mk (Kd.R_below (by (with_reducible repeat (first | apply Kd.R_alloc | apply Kd.R_drewN | apply Kd.R_drew)); exact HO_7.out) hb); have n1_ := Aside0.mk (Kd.R_below (by (with_reducible repeat (first | apply Kd.R_alloc | apply Kd.R_drewN | apply Kd.R_drew)); exact HO_9.out) hb); have n2_ := Aside0.mk (Kd.R_below (by (with_reducible repeat (first | apply Kd.R_alloc | apply Kd.R_drewN | apply Kd.R_drew)); exact HO_11.out) hb); have n3_ := Aside0.mk (Kd.R_below (by (with_reducible repeat (first | apply Kd.R_alloc | apply Kd.R_drewN | apply Kd.R_drew)); exact HO_13.out) hb); have n4_ := Aside0.mk (below_step (by repeat (first | (with_reducible first | exact HB.out | apply below_alloc | apply pw_below_drewN | apply below_drew1) | exact HB.out)) hb); clear HO_7; clear HO_9; clear HO_11; clear HO_13; clear HB; have HO_7 := n0_; have HO_9 := n1_; have HO_11 := n2_; have HO_13 := n3_; have HB := n4_; clear n0_ n1_ n2_ n3_ n4_; (try clear hb); (try clear hb2); (try clear hk); (try clear hi)))
                  go_meet
                  case rel => exact ⟨_, (true), (by first | rfl | (simp; done) | (simp [*]; done)), H', ⟨by have := HJ9.out; first | omega | exact Nat.le_refl _⟩, ⟨by (with_reducible repeat (first | apply Kd.R_alloc | apply Kd.R_drewN | apply Kd.R_drew)); exact HO_7.out⟩, ⟨by (with_reducible repeat (first | apply Kd.R_alloc | apply Kd.R_drewN | apply Kd.R_drew)); exact HO_9.out⟩, ⟨by (with_reducible repeat (first | apply Kd.R_alloc | apply Kd.R_drewN | apply Kd.R_drew)); exact HO_11.out⟩, ⟨by (with_reducible repeat (first | apply Kd.R_alloc | apply Kd.R_drewN | apply Kd.R_drew)); exact HO_13.out⟩, ⟨by repeat (first | (with_reducible first | exact HB.out | apply below_alloc | apply pw_below_drewN | apply below_drew1) | exact HB.out)⟩⟩
                · rw [if_neg c57] at H
                  have c57b0 : (t388 != false) = false := by simpa using c57
                  (try (have c57b1 : decide (t388 = false) = true := by simpa using c57))
                  (try (have c57b2 : (t388 == false) = true := by simpa using c57))
                  clear c57
                  replace H := Option.bind_eq_some_iff.mp H
                  obtain ⟨t389, A620, H⟩ := H
                  replace H : (furlonglaw6_CoverSets.j1 kj9 l0 t361 t362 t365 t366 t369 t370 t373 t374 (t389 != false)) = some r := H
                  have A62 := Aside0.mk A620
                  clear A620
                  have H' := Aside0.mk H
                  clear H
                  obtain ⟨Ao63, co63, eo63⟩ := Kd.R_slice HO_7.out
                  subst eo63
                  go_wp2_with (first | ((with_reducible refine gate_callee (f := 18) rfl ?_); refine goesL_ (some 81) rfl rfl Try.func18 (by kernel_rfl) rfl #[.slice Ao63 t361.length co63, .int .i64 a2] rfl (by (try simp only [List.map_toArray, List.map_cons, List.map_nil]); first | done | rfl | (simp only [List.length_drop, List.length_take]; rfl)) ?_; (with_reducible refine (cover_Has.calls _ _ t361 a2 t385 _ ?side1 ?side2 A35.out).mono ?_); (case side1 => repeat (first | exact (Kd.R_reads' HO_7.out).2.2 | (with_reducible refine Kd.C_alloc ?_ _) | (with_reducible refine Kd.C_drewN ?_ _) | (with_reducible refine Kd.C_drew ?_))); (case side2 => exact (Kd.R_reads' HO_7.out).2.1); rintro e w64 ⟨rfl, hb⟩; refine ⟨_, rfl, ?_⟩; have n0_ := Aside0.mk (Kd.R_below (by (with_reducible repeat (first | apply Kd.R_alloc | apply Kd.R_drewN | apply Kd.R_drew)); exact HO_7.out) hb); have n1_ := Aside0.mk (Kd.R_below (by (with_reducible repeat (first | apply Kd.R_alloc | apply Kd.R_drewN | apply Kd.R_drew)); exact HO_9.out) hb); have n2_ := Aside0.mk (Kd.R_below (by (with_reducible repeat (first | apply Kd.R_alloc | apply Kd.R_drewN | apply Kd.R_drew)); exact HO_11.out) hb); have n3_ := Aside0.mk (Kd.R_below (by (with_reducible repeat (first | apply Kd.R_alloc | apply Kd.R_drewN | apply Kd.R_drew)); exact HO_13.out) hb); have n4_ := Aside0.mk (below_step (by repeat (first | (with_reducible first | exact HB.out | apply below_alloc | apply pw_below_drewN | apply below_drew1) | exact HB.out)) hb); clear HO_7; clear HO_9; clear HO_11; clear HO_13; clear HB; have HO_7 := n0_; have HO_9 := n1_; have HO_11 := n2_; have HO_13 := n3_; have HB := n4_; clear n0_ n1_ n2_ n3_ n4_; (try clear hb); (try clear hb2); (try clear hk); (try clear hi); obtain ⟨Ao65, co65, eo65⟩ := Kd.R_slice HO_9.out; subst eo65) | (go_at_call 18; (with_reducible refine (cover_Has.calls _ _ t365 a2 t388 _ ?side1 ?side2 A56.out).mono ?_); (case side1 => repeat (first | exact (Kd.R_reads' HO_9.out).2.2 | (with_reducible refine Kd.C_alloc ?_ _) | (with_reducible refine Kd.C_drewN ?_ _) | (with_reducible refine Kd.C_drew ?_))); (case side2 => exact (Kd.R_reads' HO_9.out).2.1); rintro e w66 ⟨rfl, hb⟩; have n0_ := Aside0.mk (Kd.R_below (by (with_reducible repeat (first | apply Kd.R_alloc | apply Kd.R_drewN | apply Kd.R_drew)); exact HO_7.out) hb); have n1_ := Aside0.mk (Kd.R_below (by (with_reducible repeat (first | apply Kd.R_alloc | apply Kd.R_drewN | apply Kd.R_drew)); exact HO_9.out) hb); have n2_ := Aside0.mk (Kd.R_below (by (with_reducible repeat (first | apply Kd.R_alloc | apply Kd.R_drewN | apply Kd.R_drew)); exact HO_11.out) hb); have n3_ := Aside0.mk (Kd.R_below (by (with_reducible repeat (first | apply Kd.R_alloc | apply Kd.R_drewN | apply Kd.R_drew)); exact HO_13.out) hb); have n4_ := Aside0.mk (below_step (by repeat (first | (with_reducible first | exact HB.out | apply below_alloc | apply pw_below_drewN | apply below_drew1) | exact HB.out)) hb); clear HO_7; clear HO_9; clear HO_11; clear HO_13; clear HB; have HO_7 := n0_; have HO_9 := n1_; have HO_11 := n2_; have HO_13 := n3_; have HB := n4_; clear n0_ n1_ n2_ n3_ n4_; (try clear hb); (try clear hb2); (try clear hk); (try clear hi); obtain ⟨Ao67, co67, eo67⟩ := Kd.R_slice HO_11.out; subst eo67) | (go_at_call 18; (with_reducible refine (cover_Has.calls _ _ t369 a2 t389 _ ?side1 ?side2 A62.out).mono ?_); (case side1 => repeat (first | exact (Kd.R_reads' HO_11.out).2.2 | (with_reducible refine Kd.C_alloc ?_ _) | (with_reducible refine Kd.C_drewN ?_ _) | (with_reducible refine Kd.C_drew ?_))); (case side2 => exact (Kd.R_reads' HO_11.out).2.1); rintro e w68 ⟨rfl, hb⟩; have n0_ := Aside0.mk (Kd.R_below (by (with_reducible repeat (first | apply Kd.R_alloc | apply Kd.R_drewN | apply Kd.R_drew)); exact HO_7.out) hb); have n1_ := Aside0.mk (Kd.R_below (by (with_reducible repeat (first | apply Kd.R_alloc | apply Kd.R_drewN | apply Kd.R_drew)); exact HO_9.out) hb); have n2_ := Aside0.mk (Kd.R_below (by (with_reducible repeat (first | apply Kd.R_alloc | apply Kd.R_drewN | apply Kd.R_drew)); exact HO_11.out) hb); have n3_ := Aside0.mk (Kd.R_below (by (with_reducible repeat (first | apply Kd.R_alloc | apply Kd.R_drewN | apply Kd.R_drew)); exact HO_13.out) hb); have n4_ := Aside0.mk (below_step (by repeat (first | (with_reducible first | exact HB.out | apply below_alloc | apply pw_below_drewN | apply below_drew1) | exact HB.out)) hb); clear HO_7; clear HO_9; clear HO_11; clear HO_13; clear HB; have HO_7 := n0_; have HO_9 := n1_; have HO_11 := n2_; have HO_13 := n3_; have HB := n4_; clear n0_ n1_ n2_ n3_ n4_; (try clear hb); (try clear hb2); (try clear hk); (try clear hi)))
                  go_meet
                  case rel => exact ⟨_, ((t389 != false)), (by first | rfl | (simp; done) | (simp [*]; done)), H', ⟨by have := HJ9.out; first | omega | exact Nat.le_refl _⟩, ⟨by (with_reducible repeat (first | apply Kd.R_alloc | apply Kd.R_drewN | apply Kd.R_drew)); exact HO_7.out⟩, ⟨by (with_reducible repeat (first | apply Kd.R_alloc | apply Kd.R_drewN | apply Kd.R_drew)); exact HO_9.out⟩, ⟨by (with_reducible repeat (first | apply Kd.R_alloc | apply Kd.R_drewN | apply Kd.R_drew)); exact HO_11.out⟩, ⟨by (with_reducible repeat (first | apply Kd.R_alloc | apply Kd.R_drewN | apply Kd.R_drew)); exact HO_13.out⟩, ⟨by repeat (first | (with_reducible first | exact HB.out | apply below_alloc | apply pw_below_drewN | apply below_drew1) | exact HB.out)⟩⟩
          case rest =>
            clear HC32
            try clear c1
            try clear c2
            try clear p2
            try clear c3
            try clear c4
            try clear c5
            try clear c11
            try clear c12
            try clear c14
            try clear c15
            try clear c16
            try clear c17
            try clear c18
            try clear c21
            try clear c22
            try clear c24
            try clear c24b0
            try clear c24b1
            try clear c26
            try clear c26b0
            try clear c26b1
            try clear c28
            try clear c28b0
            try clear c28b1
            try clear c36
            try clear c37
            try clear c37b0
            try clear c37b1
            try clear c37b2
            try clear c41
            try clear c41b0
            try clear c41b1
            try clear c41b2
            try clear c53
            try clear c53b0
            try clear c53b1
            try clear c53b2
            try clear c57
            try clear c57b0
            try clear c57b1
            try clear c57b2
            try clear p2
            obtain ⟨kq, x107_31, rfl, HA, HJ31, HO_7, HO_9, HO_11, HO_13, HB⟩ := hcut
            cases kq with
            | zero => exact absurd HA.out (by simp [furlonglaw6_CoverSets.j1])
            | succ kj31 =>
              have H := HA.out
              clear HA
              simp only [furlonglaw6_CoverSets.j1] at H
              by_cases c69 : x107_31 = true
              · subst c69
                have H1 : (none) = some r := by rw [if_pos rfl] at H; exact H
                clear H
                have H := H1
                clear H1
                exact absurd H (by simp)
              · replace c69 := Bool.eq_false_iff.mpr c69
                subst c69
                have H1 : ((cover_Union.f kj31 t369 t365).bind fun bt390 => ((cover_Union.f kj31 bt390.1 t373).bind fun bt394 => ((furlonglaw0_Num.f t362).bind fun t398 => (if t398 = 0 then ((furlonglaw0_Num.f t366).bind fun t399 => (if t399 = 0 then ((furlonglaw0_Num.f t370).bind fun t400 => (if t400 = 0 then ((furlonglaw0_Num.f t374).bind fun t401 => (if t401 = 0 then ((furlonglaw0_Num.f bt390.2).bind fun t402 => (if t402 = 0 then ((furlonglaw0_Num.f bt394.2).bind fun t403 => (if t403 = 0 then ((furlonglaw0_SameRanges.f kj31 bt390.1 l0).bind fun t404 => (if t404 = true then ((furlonglaw0_SameRanges.f kj31 bt394.1 t361).bind fun t405 => (if t405 = true then ((cover_May.f kj31 t361).bind fun t406 => (if t406 = true then ((cover_May.f kj31 t365).bind fun t407 => (if t407 = true then ((cover_May.f kj31 t369).bind fun t408 => (some t408)) else (none))) else (none))) else (none))) else (none))) else (none))) else (none))) else (none))) else (none))) else (none))) else (none))))) = some r := by rw [if_neg (show ¬ (false = true) by decide)] at H; exact H
                clear H
                have H := H1
                clear H1
                replace H := Option.bind_eq_some_iff.mp H
                obtain ⟨⟨t390, t391⟩, A700, H⟩ := H
                replace H : ((cover_Union.f kj31 t390 t373).bind fun bt394 => ((furlonglaw0_Num.f t362).bind fun t398 => (if t398 = 0 then ((furlonglaw0_Num.f t366).bind fun t399 => (if t399 = 0 then ((furlonglaw0_Num.f t370).bind fun t400 => (if t400 = 0 then ((furlonglaw0_Num.f t374).bind fun t401 => (if t401 = 0 then ((furlonglaw0_Num.f t391).bind fun t402 => (if t402 = 0 then ((furlonglaw0_Num.f bt394.2).bind fun t403 => (if t403 = 0 then ((furlonglaw0_SameRanges.f kj31 t390 l0).bind fun t404 => (if t404 = true then ((furlonglaw0_SameRanges.f kj31 bt394.1 t361).bind fun t405 => (if t405 = true then ((cover_May.f kj31 t361).bind fun t406 => (if t406 = true then ((cover_May.f kj31 t365).bind fun t407 => (if t407 = true then ((cover_May.f kj31 t369).bind fun t408 => (some t408)) else (none))) else (none))) else (none))) else (none))) else (none))) else (none))) else (none))) else (none))) else (none))) else (none)))) = some r := H
                have A70 := Aside0.mk A700
                clear A700
                replace H := Option.bind_eq_some_iff.mp H
                obtain ⟨⟨t394, t395⟩, A710, H⟩ := H
                replace H : ((furlonglaw0_Num.f t362).bind fun t398 => (if t398 = 0 then ((furlonglaw0_Num.f t366).bind fun t399 => (if t399 = 0 then ((furlonglaw0_Num.f t370).bind fun t400 => (if t400 = 0 then ((furlonglaw0_Num.f t374).bind fun t401 => (if t401 = 0 then ((furlonglaw0_Num.f t391).bind fun t402 => (if t402 = 0 then ((furlonglaw0_Num.f t395).bind fun t403 => (if t403 = 0 then ((furlonglaw0_SameRanges.f kj31 t390 l0).bind fun t404 => (if t404 = true then ((furlonglaw0_SameRanges.f kj31 t394 t361).bind fun t405 => (if t405 = true then ((cover_May.f kj31 t361).bind fun t406 => (if t406 = true then ((cover_May.f kj31 t365).bind fun t407 => (if t407 = true then ((cover_May.f kj31 t369).bind fun t408 => (some t408)) else (none))) else (none))) else (none))) else (none))) else (none))) else (none))) else (none))) else (none))) else (none))) else (none))) = some r := H
                have A71 := Aside0.mk A710
                clear A710
                replace H := Option.bind_eq_some_iff.mp H
                obtain ⟨t398, A720, H⟩ := H
                replace H : (if t398 = 0 then ((furlonglaw0_Num.f t366).bind fun t399 => (if t399 = 0 then ((furlonglaw0_Num.f t370).bind fun t400 => (if t400 = 0 then ((furlonglaw0_Num.f t374).bind fun t401 => (if t401 = 0 then ((furlonglaw0_Num.f t391).bind fun t402 => (if t402 = 0 then ((furlonglaw0_Num.f t395).bind fun t403 => (if t403 = 0 then ((furlonglaw0_SameRanges.f kj31 t390 l0).bind fun t404 => (if t404 = true then ((furlonglaw0_SameRanges.f kj31 t394 t361).bind fun t405 => (if t405 = true then ((cover_May.f kj31 t361).bind fun t406 => (if t406 = true then ((cover_May.f kj31 t365).bind fun t407 => (if t407 = true then ((cover_May.f kj31 t369).bind fun t408 => (some t408)) else (none))) else (none))) else (none))) else (none))) else (none))) else (none))) else (none))) else (none))) else (none))) else (none)) = some r := H
                have A72 := Aside0.mk A720
                clear A720
                by_cases c73 : t398 = 0
                · rw [if_pos c73] at H
                  have c73b0 : (t398 == 0) = true := beq_iff_eq.mpr c73
                  have c73b1 : (t398 != 0) = false := bne_eq_false_iff_eq.mpr c73
                  clear c73
                  replace H := Option.bind_eq_some_iff.mp H
                  obtain ⟨t399, A740, H⟩ := H
                  replace H : (if t399 = 0 then ((furlonglaw0_Num.f t370).bind fun t400 => (if t400 = 0 then ((furlonglaw0_Num.f t374).bind fun t401 => (if t401 = 0 then ((furlonglaw0_Num.f t391).bind fun t402 => (if t402 = 0 then ((furlonglaw0_Num.f t395).bind fun t403 => (if t403 = 0 then ((furlonglaw0_SameRanges.f kj31 t390 l0).bind fun t404 => (if t404 = true then ((furlonglaw0_SameRanges.f kj31 t394 t361).bind fun t405 => (if t405 = true then ((cover_May.f kj31 t361).bind fun t406 => (if t406 = true then ((cover_May.f kj31 t365).bind fun t407 => (if t407 = true then ((cover_May.f kj31 t369).bind fun t408 => (some t408)) else (none))) else (none))) else (none))) else (none))) else (none))) else (none))) else (none))) else (none))) else (none)) = some r := H
                  have A74 := Aside0.mk A740
                  clear A740
                  by_cases c75 : t399 = 0
                  · rw [if_pos c75] at H
                    have c75b0 : (t399 == 0) = true := beq_iff_eq.mpr c75
                    have c75b1 : (t399 != 0) = false := bne_eq_false_iff_eq.mpr c75
                    clear c75
                    replace H := Option.bind_eq_some_iff.mp H
                    obtain ⟨t400, A760, H⟩ := H
                    replace H : (if t400 = 0 then ((furlonglaw0_Num.f t374).bind fun t401 => (if t401 = 0 then ((furlonglaw0_Num.f t391).bind fun t402 => (if t402 = 0 then ((furlonglaw0_Num.f t395).bind fun t403 => (if t403 = 0 then ((furlonglaw0_SameRanges.f kj31 t390 l0).bind fun t404 => (if t404 = true then ((furlonglaw0_SameRanges.f kj31 t394 t361).bind fun t405 => (if t405 = true then ((cover_May.f kj31 t361).bind fun t406 => (if t406 = true then ((cover_May.f kj31 t365).bind fun t407 => (if t407 = true then ((cover_May.f kj31 t369).bind fun t408 => (some t408)) else (none))) else (none))) else (none))) else (none))) else (none))) else (none))) else (none))) else (none)) = some r := H
                    have A76 := Aside0.mk A760
                    clear A760
                    by_cases c77 : t400 = 0
                    · rw [if_pos c77] at H
                      have c77b0 : (t400 == 0) = true := beq_iff_eq.mpr c77
                      have c77b1 : (t400 != 0) = false := bne_eq_false_iff_eq.mpr c77
                      clear c77
                      replace H := Option.bind_eq_some_iff.mp H
                      obtain ⟨t401, A780, H⟩ := H
                      replace H : (if t401 = 0 then ((furlonglaw0_Num.f t391).bind fun t402 => (if t402 = 0 then ((furlonglaw0_Num.f t395).bind fun t403 => (if t403 = 0 then ((furlonglaw0_SameRanges.f kj31 t390 l0).bind fun t404 => (if t404 = true then ((furlonglaw0_SameRanges.f kj31 t394 t361).bind fun t405 => (if t405 = true then ((cover_May.f kj31 t361).bind fun t406 => (if t406 = true then ((cover_May.f kj31 t365).bind fun t407 => (if t407 = true then ((cover_May.f kj31 t369).bind fun t408 => (some t408)) else (none))) else (none))) else (none))) else (none))) else (none))) else (none))) else (none)) = some r := H
                      have A78 := Aside0.mk A780
                      clear A780
                      by_cases c79 : t401 = 0
                      · rw [if_pos c79] at H
                        have c79b0 : (t401 == 0) = true := beq_iff_eq.mpr c79
                        have c79b1 : (t401 != 0) = false := bne_eq_false_iff_eq.mpr c79
                        clear c79
                        replace H := Option.bind_eq_some_iff.mp H
                        obtain ⟨t402, A800, H⟩ := H
                        replace H : (if t402 = 0 then ((furlonglaw0_Num.f t395).bind fun t403 => (if t403 = 0 then ((furlonglaw0_SameRanges.f kj31 t390 l0).bind fun t404 => (if t404 = true then ((furlonglaw0_SameRanges.f kj31 t394 t361).bind fun t405 => (if t405 = true then ((cover_May.f kj31 t361).bind fun t406 => (if t406 = true then ((cover_May.f kj31 t365).bind fun t407 => (if t407 = true then ((cover_May.f kj31 t369).bind fun t408 => (some t408)) else (none))) else (none))) else (none))) else (none))) else (none))) else (none)) = some r := H
                        have A80 := Aside0.mk A800
                        clear A800
                        by_cases c81 : t402 = 0
                        · rw [if_pos c81] at H
                          have c81b0 : (t402 == 0) = true := beq_iff_eq.mpr c81
                          have c81b1 : (t402 != 0) = false := bne_eq_false_iff_eq.mpr c81
                          clear c81
                          replace H := Option.bind_eq_some_iff.mp H
                          obtain ⟨t403, A820, H⟩ := H
                          replace H : (if t403 = 0 then ((furlonglaw0_SameRanges.f kj31 t390 l0).bind fun t404 => (if t404 = true then ((furlonglaw0_SameRanges.f kj31 t394 t361).bind fun t405 => (if t405 = true then ((cover_May.f kj31 t361).bind fun t406 => (if t406 = true then ((cover_May.f kj31 t365).bind fun t407 => (if t407 = true then ((cover_May.f kj31 t369).bind fun t408 => (some t408)) else (none))) else (none))) else (none))) else (none))) else (none)) = some r := H
                          have A82 := Aside0.mk A820
                          clear A820
                          by_cases c83 : t403 = 0
                          · rw [if_pos c83] at H
                            have c83b0 : (t403 == 0) = true := beq_iff_eq.mpr c83
                            have c83b1 : (t403 != 0) = false := bne_eq_false_iff_eq.mpr c83
                            clear c83
                            replace H := Option.bind_eq_some_iff.mp H
                            obtain ⟨t404, A840, H⟩ := H
                            replace H : (if t404 = true then ((furlonglaw0_SameRanges.f kj31 t394 t361).bind fun t405 => (if t405 = true then ((cover_May.f kj31 t361).bind fun t406 => (if t406 = true then ((cover_May.f kj31 t365).bind fun t407 => (if t407 = true then ((cover_May.f kj31 t369).bind fun t408 => (some t408)) else (none))) else (none))) else (none))) else (none)) = some r := H
                            have A84 := Aside0.mk A840
                            clear A840
                            by_cases c85 : t404 = true
                            · subst c85
                              have H1 : ((furlonglaw0_SameRanges.f kj31 t394 t361).bind fun t405 => (if t405 = true then ((cover_May.f kj31 t361).bind fun t406 => (if t406 = true then ((cover_May.f kj31 t365).bind fun t407 => (if t407 = true then ((cover_May.f kj31 t369).bind fun t408 => (some t408)) else (none))) else (none))) else (none))) = some r := by rw [if_pos rfl] at H; exact H
                              clear H
                              have H := H1
                              clear H1
                              replace H := Option.bind_eq_some_iff.mp H
                              obtain ⟨t405, A860, H⟩ := H
                              replace H : (if t405 = true then ((cover_May.f kj31 t361).bind fun t406 => (if t406 = true then ((cover_May.f kj31 t365).bind fun t407 => (if t407 = true then ((cover_May.f kj31 t369).bind fun t408 => (some t408)) else (none))) else (none))) else (none)) = some r := H
                              have A86 := Aside0.mk A860
                              clear A860
                              by_cases c87 : t405 = true
                              · subst c87
                                have H1 : ((cover_May.f kj31 t361).bind fun t406 => (if t406 = true then ((cover_May.f kj31 t365).bind fun t407 => (if t407 = true then ((cover_May.f kj31 t369).bind fun t408 => (some t408)) else (none))) else (none))) = some r := by rw [if_pos rfl] at H; exact H
                                clear H
                                have H := H1
                                clear H1
                                replace H := Option.bind_eq_some_iff.mp H
                                obtain ⟨t406, A880, H⟩ := H
                                replace H : (if t406 = true then ((cover_May.f kj31 t365).bind fun t407 => (if t407 = true then ((cover_May.f kj31 t369).bind fun t408 => (some t408)) else (none))) else (none)) = some r := H
                                have A88 := Aside0.mk A880
                                clear A880
                                by_cases c89 : t406 = true
                                · subst c89
                                  have H1 : ((cover_May.f kj31 t365).bind fun t407 => (if t407 = true then ((cover_May.f kj31 t369).bind fun t408 => (some t408)) else (none))) = some r := by rw [if_pos rfl] at H; exact H
                                  clear H
                                  have H := H1
                                  clear H1
                                  replace H := Option.bind_eq_some_iff.mp H
                                  obtain ⟨t407, A900, H⟩ := H
                                  replace H : (if t407 = true then ((cover_May.f kj31 t369).bind fun t408 => (some t408)) else (none)) = some r := H
                                  have A90 := Aside0.mk A900
                                  clear A900
                                  by_cases c91 : t407 = true
                                  · subst c91
                                    have H1 : ((cover_May.f kj31 t369).bind fun t408 => (some t408)) = some r := by rw [if_pos rfl] at H; exact H
                                    clear H
                                    have H := H1
                                    clear H1
                                    replace H := Option.bind_eq_some_iff.mp H
                                    obtain ⟨t408, A920, H⟩ := H
                                    replace H : (some t408) = some r := H
                                    have A92 := Aside0.mk A920
                                    clear A920
                                    obtain rfl := Option.some.inj H
                                    obtain ⟨Ao93, co93, eo93⟩ := Kd.R_slice HO_11.out
                                    subst eo93
                                    obtain ⟨Ao94, co94, eo94⟩ := Kd.R_slice HO_9.out
                                    subst eo94
                                    go_wp2_with (first | ((with_reducible refine gate_callee (f := 12) rfl ?_); refine goesL_ (some 111) rfl rfl Try.func12 (by kernel_rfl) rfl #[.slice Ao93 t369.length co93, .slice Ao94 t365.length co94] rfl (by (try simp only [List.map_toArray, List.map_cons, List.map_nil]); first | done | rfl | (simp only [List.length_drop, List.length_take]; rfl)) ?_; (with_reducible refine (cover_Union.calls kj31 _ _ t369 _ _ t365 t390 t391 _ ?side1 ?side2 ?side3 ?side4 A70.out).mono ?_); (case side1 => repeat (first | exact (Kd.R_reads' HO_11.out).2.2 | (with_reducible refine Kd.C_alloc ?_ _) | (with_reducible refine Kd.C_drewN ?_ _) | (with_reducible refine Kd.C_drew ?_))); (case side2 => exact (Kd.R_reads' HO_11.out).2.1); (case side3 => repeat (first | exact (Kd.R_reads' HO_9.out).2.2 | (with_reducible refine Kd.C_alloc ?_ _) | (with_reducible refine Kd.C_drewN ?_ _) | (with_reducible refine Kd.C_drew ?_))); (case side4 => exact (Kd.R_reads' HO_9.out).2.1); rintro e w95 ⟨v392, rfl, ho0, hb⟩; refine ⟨_, rfl, ?_⟩; have n0_ := Aside0.mk (Kd.R_elder' (by (with_reducible repeat (first | apply Kd.R_alloc | apply Kd.R_drewN | apply Kd.R_drew)); exact HO_7.out) (Kd.R_base ho0) hb); have n1_ := Aside0.mk (Kd.R_elder' (by (with_reducible repeat (first | apply Kd.R_alloc | apply Kd.R_drewN | apply Kd.R_drew)); exact HO_9.out) (Kd.R_base ho0) hb); have n2_ := Aside0.mk (Kd.R_elder' (by (with_reducible repeat (first | apply Kd.R_alloc | apply Kd.R_drewN | apply Kd.R_drew)); exact HO_11.out) (Kd.R_base ho0) hb); have n3_ := Aside0.mk (Kd.R_elder' (by (with_reducible repeat (first | apply Kd.R_alloc | apply Kd.R_drewN | apply Kd.R_drew)); exact HO_13.out) (Kd.R_base ho0) hb); have n4_ := Aside0.mk (Kd.R_lower (Kd.R_new' (Kd.R_new' (Kd.R_new' (Kd.R_new' ho0 (Kd.R_lt (by (with_reducible repeat (first | apply Kd.R_alloc | apply Kd.R_drewN | apply Kd.R_drew)); exact HO_7.out))) (Kd.R_lt (by (with_reducible repeat (first | apply Kd.R_alloc | apply Kd.R_drewN | apply Kd.R_drew)); exact HO_9.out))) (Kd.R_lt (by (with_reducible repeat (first | apply Kd.R_alloc | apply Kd.R_drewN | apply Kd.R_drew)); exact HO_11.out))) (Kd.R_lt (by (with_reducible repeat (first | apply Kd.R_alloc | apply Kd.R_drewN | apply Kd.R_drew)); exact HO_13.out))) (below_size (by repeat (first | (with_reducible first | exact HB.out | apply below_alloc | apply pw_below_drewN | apply below_drew1) | exact HB.out)))); have n5_ := Aside0.mk (below_step (by repeat (first | (with_reducible first | exact HB.out | apply below_alloc | apply pw_below_drewN | apply below_drew1) | exact HB.out)) hb); clear HO_7; clear HO_9; clear HO_11; clear HO_13; clear HB; have HO_7 := n0_; have HO_9 := n1_; have HO_11 := n2_; have HO_13 := n3_; have HO393 := n4_; have HB := n5_; clear n0_ n1_ n2_ n3_ n4_ n5_; (try clear hb); (try clear hb2); (try clear hk); (try clear hi); (try clear ho0); obtain ⟨Ao96, co96, eo96⟩ := Kd.R_slice HO393.out; subst eo96; obtain ⟨Ao97, co97, eo97⟩ := Kd.R_slice HO_13.out; subst eo97) | ((with_reducible refine gate_callee (f := 12) rfl ?_); refine goesL_ (some 117) rfl rfl Try.func12 (by kernel_rfl) rfl #[.slice Ao96 t390.length co96, .slice Ao97 t373.length co97] rfl (by (try simp only [List.map_toArray, List.map_cons, List.map_nil]); first | done | rfl | (simp only [List.length_drop, List.length_take]; rfl)) ?_; (with_reducible refine (cover_Union.calls kj31 _ _ t390 _ _ t373 t394 t395 _ ?side1 ?side2 ?side3 ?side4 A71.out).mono ?_); (case side1 => repeat (first | exact (Kd.R_reads' HO393.out).2.2 | (with_reducible refine Kd.C_alloc ?_ _) | (with_reducible refine Kd.C_drewN ?_ _) | (with_reducible refine Kd.C_drew ?_))); (case side2 => exact (Kd.R_reads' HO393.out).2.1); (case side3 => repeat (first | exact (Kd.R_reads' HO_13.out).2.2 | (with_reducible refine Kd.C_alloc ?_ _) | (with_reducible refine Kd.C_drewN ?_ _) | (with_reducible refine Kd.C_drew ?_))); (case side4 => exact (Kd.R_reads' HO_13.out).2.1); rintro e w98 ⟨v396, rfl, ho0, hb⟩; refine ⟨_, rfl, ?_⟩; have n0_ := Aside0.mk (Kd.R_elder' (by (with_reducible repeat (first | apply Kd.R_alloc | apply Kd.R_drewN | apply Kd.R_drew)); exact HO_7.out) (Kd.R_base ho0) hb); have n1_ := Aside0.mk (Kd.R_elder' (by (with_reducible repeat (first | apply Kd.R_alloc | apply Kd.R_drewN | apply Kd.R_drew)); exact HO_9.out) (Kd.R_base ho0) hb); have n2_ := Aside0.mk (Kd.R_elder' (by (with_reducible repeat (first | apply Kd.R_alloc | apply Kd.R_drewN | apply Kd.R_drew)); exact HO_11.out) (Kd.R_base ho0) hb); have n3_ := Aside0.mk (Kd.R_elder' (by (with_reducible repeat (first | apply Kd.R_alloc | apply Kd.R_drewN | apply Kd.R_drew)); exact HO_13.out) (Kd.R_base ho0) hb); have n4_ := Aside0.mk (Kd.R_elder' (by (with_reducible repeat (first | apply Kd.R_alloc | apply Kd.R_drewN | apply Kd.R_drew)); exact HO393.out) (Kd.R_base ho0) hb); have n5_ := Aside0.mk (Kd.R_lower (Kd.R_new' (Kd.R_new' (Kd.R_new' (Kd.R_new' (Kd.R_new' ho0 (Kd.R_lt (by (with_reducible repeat (first | apply Kd.R_alloc | apply Kd.R_drewN | apply Kd.R_drew)); exact HO_7.out))) (Kd.R_lt (by (with_reducible repeat (first | apply Kd.R_alloc | apply Kd.R_drewN | apply Kd.R_drew)); exact HO_9.out))) (Kd.R_lt (by (with_reducible repeat (first | apply Kd.R_alloc | apply Kd.R_drewN | apply Kd.R_drew)); exact HO_11.out))) (Kd.R_lt (by (with_reducible repeat (first | apply Kd.R_alloc | apply Kd.R_drewN | apply Kd.R_drew)); exact HO_13.out))) (Kd.R_lt (by (with_reducible repeat (first | apply Kd.R_alloc | apply Kd.R_drewN | apply Kd.R_drew)); exact HO393.out))) (below_size (by repeat (first | (with_reducible first | exact HB.out | apply below_alloc | apply pw_below_drewN | apply below_drew1) | exact HB.out)))); have n6_ := Aside0.mk (below_step (by repeat (first | (with_reducible first | exact HB.out | apply below_alloc | apply pw_below_drewN | apply below_drew1) | exact HB.out)) hb); clear HO_7; clear HO_9; clear HO_11; clear HO_13; clear HO393; clear HB; have HO_7 := n0_; have HO_9 := n1_; have HO_11 := n2_; have HO_13 := n3_; have HO393 := n4_; have HO397 := n5_; have HB := n6_; clear n0_ n1_ n2_ n3_ n4_ n5_ n6_; (try clear hb); (try clear hb2); (try clear hk); (try clear hi); (try clear ho0)) | ((with_reducible refine gate_callee (f := 11) rfl ?_); refine goesL_ (some 121) rfl rfl Try.func11 (by kernel_rfl) rfl #[.int .i64 t362] rfl (by (try simp only [List.map_toArray, List.map_cons, List.map_nil]); first | done | rfl | (simp only [List.length_drop, List.length_take]; rfl)) ?_; (with_reducible refine (furlonglaw0_Num.calls t362 t398 _ A72.out).mono ?_); rintro e w' ⟨rfl, ⟨nd, rfl⟩⟩; refine ⟨_, rfl, ?_⟩) | (go_at_call 11; (with_reducible refine (furlonglaw0_Num.calls t366 t399 _ A74.out).mono ?_); rintro e w' ⟨rfl, ⟨nd, rfl⟩⟩) | (go_at_call 11; (with_reducible refine (furlonglaw0_Num.calls t370 t400 _ A76.out).mono ?_); rintro e w' ⟨rfl, ⟨nd, rfl⟩⟩) | (go_at_call 11; (with_reducible refine (furlonglaw0_Num.calls t374 t401 _ A78.out).mono ?_); rintro e w' ⟨rfl, ⟨nd, rfl⟩⟩) | (go_at_call 11; (with_reducible refine (furlonglaw0_Num.calls t391 t402 _ A80.out).mono ?_); rintro e w' ⟨rfl, ⟨nd, rfl⟩⟩) | (go_at_call 11; (with_reducible refine (furlonglaw0_Num.calls t395 t403 _ A82.out).mono ?_); rintro e w' ⟨rfl, ⟨nd, rfl⟩⟩) | (go_at_call 10; (with_reducible refine (furlonglaw0_SameRanges.calls kj31 _ _ t390 _ _ l0 true _ ?side1 ?side2 ?side3 ?side4 A84.out).mono ?_); (case side1 => repeat (first | exact (Kd.R_reads' HO393.out).2.2 | (with_reducible refine Kd.C_alloc ?_ _) | (with_reducible refine Kd.C_drewN ?_ _) | (with_reducible refine Kd.C_drew ?_))); (case side2 => exact (Kd.R_reads' HO393.out).2.1); (case side3 => repeat (first | exact (Kd.C_below HR0.out (by repeat (first | (with_reducible first | exact HB.out | apply below_alloc | apply pw_below_drewN | apply below_drew1) | exact HB.out))) | (with_reducible refine Kd.C_alloc ?_ _) | (with_reducible refine Kd.C_drewN ?_ _) | (with_reducible refine Kd.C_drew ?_))); (case side4 => exact HC0.out); rintro e w' ⟨rfl, ⟨nd, rfl⟩⟩; obtain ⟨Ao99, co99, eo99⟩ := Kd.R_slice HO397.out; subst eo99; obtain ⟨Ao100, co100, eo100⟩ := Kd.R_slice HO_7.out; subst eo100) | (go_at_call 10; (with_reducible refine (furlonglaw0_SameRanges.calls kj31 _ _ t394 _ _ t361 true _ ?side1 ?side2 ?side3 ?side4 A86.out).mono ?_); (case side1 => repeat (first | exact (Kd.R_reads' HO397.out).2.2 | (with_reducible refine Kd.C_alloc ?_ _) | (with_reducible refine Kd.C_drewN ?_ _) | (with_reducible refine Kd.C_drew ?_))); (case side2 => exact (Kd.R_reads' HO397.out).2.1); (case side3 => repeat (first | exact (Kd.R_reads' HO_7.out).2.2 | (with_reducible refine Kd.C_alloc ?_ _) | (with_reducible refine Kd.C_drewN ?_ _) | (with_reducible refine Kd.C_drew ?_))); (case side4 => exact (Kd.R_reads' HO_7.out).2.1); rintro e w' ⟨rfl, ⟨nd, rfl⟩⟩) | (go_at_call 16; (with_reducible refine (cover_May.calls kj31 _ _ t361 true _ ?side1 ?side2 A88.out).mono ?_); (case side1 => repeat (first | exact (Kd.R_reads' HO_7.out).2.2 | (with_reducible refine Kd.C_alloc ?_ _) | (with_reducible refine Kd.C_drewN ?_ _) | (with_reducible refine Kd.C_drew ?_))); (case side2 => exact (Kd.R_reads' HO_7.out).2.1); rintro e w101 ⟨rfl, hb⟩; have n0_ := Aside0.mk (Kd.R_below (by (with_reducible repeat (first | apply Kd.R_alloc | apply Kd.R_drewN | apply Kd.R_drew)); exact HO_7.out) hb); have n1_ := Aside0.mk (Kd.R_below (by (with_reducible repeat (first | apply Kd.R_alloc | apply Kd.R_drewN | apply Kd.R_drew)); exact HO_9.out) hb); have n2_ := Aside0.mk (Kd.R_below (by (with_reducible repeat (first | apply Kd.R_alloc | apply Kd.R_drewN | apply Kd.R_drew)); exact HO_11.out) hb); have n3_ := Aside0.mk (Kd.R_below (by (with_reducible repeat (first | apply Kd.R_alloc | apply Kd.R_drewN | apply Kd.R_drew)); exact HO_13.out) hb); have n4_ := Aside0.mk (Kd.R_below (by (with_reducible repeat (first | apply Kd.R_alloc | apply Kd.R_drewN | apply Kd.R_drew)); exact HO393.out) hb); have n5_ := Aside0.mk (Kd.R_below (by (with_reducible repeat (first | apply Kd.R_alloc | apply Kd.R_drewN | apply Kd.R_drew)); exact HO397.out) hb); have n6_ := Aside0.mk (below_step (by repeat (first | (with_reducible first | exact HB.out | apply below_alloc | apply pw_below_drewN | apply below_drew1) | exact HB.out)) hb); clear HO_7; clear HO_9; clear HO_11; clear HO_13; clear HO393; clear HO397; clear HB; have HO_7 := n0_; have HO_9 := n1_; have HO_11 := n2_; have HO_13 := n3_; have HO393 := n4_; have HO397 := n5_; have HB := n6_; clear n0_ n1_ n2_ n3_ n4_ n5_ n6_; (try clear hb); (try clear hb2); (try clear hk); (try clear hi)) | (go_at_call 16; (with_reducible refine (cover_May.calls kj31 _ _ t365 true _ ?side1 ?side2 A90.out).mono ?_); (case side1 => repeat (first | exact (Kd.R_reads' HO_9.out).2.2 | (with_reducible refine Kd.C_alloc ?_ _) | (with_reducible refine Kd.C_drewN ?_ _) | (with_reducible refine Kd.C_drew ?_))); (case side2 => exact (Kd.R_reads' HO_9.out).2.1); rintro e w102 ⟨rfl, hb⟩; have n0_ := Aside0.mk (Kd.R_below (by (with_reducible repeat (first | apply Kd.R_alloc | apply Kd.R_drewN | apply Kd.R_drew)); exact HO_7.out) hb); have n1_ := Aside0.mk (Kd.R_below (by (with_reducible repeat (first | apply Kd.R_alloc | apply Kd.R_drewN | apply Kd.R_drew)); exact HO_9.out) hb); have n2_ := Aside0.mk (Kd.R_below (by (with_reducible repeat (first | apply Kd.R_alloc | apply Kd.R_drewN | apply Kd.R_drew)); exact HO_11.out) hb); have n3_ := Aside0.mk (Kd.R_below (by (with_reducible repeat (first | apply Kd.R_alloc | apply Kd.R_drewN | apply Kd.R_drew)); exact HO_13.out) hb); have n4_ := Aside0.mk (Kd.R_below (by (with_reducible repeat (first | apply Kd.R_alloc | apply Kd.R_drewN | apply Kd.R_drew)); exact HO393.out) hb); have n5_ := Aside0.mk (Kd.R_below (by (with_reducible repeat (first | apply Kd.R_alloc | apply Kd.R_drewN | apply Kd.R_drew)); exact HO397.out) hb); have n6_ := Aside0.mk (below_step (by repeat (first | (with_reducible first | exact HB.out | apply below_alloc | apply pw_below_drewN | apply below_drew1) | exact HB.out)) hb); clear HO_7; clear HO_9; clear HO_11; clear HO_13; clear HO393; clear HO397; clear HB; have HO_7 := n0_; have HO_9 := n1_; have HO_11 := n2_; have HO_13 := n3_; have HO393 := n4_; have HO397 := n5_; have HB := n6_; clear n0_ n1_ n2_ n3_ n4_ n5_ n6_; (try clear hb); (try clear hb2); (try clear hk); (try clear hi)) | (go_at_call 16; (with_reducible refine (cover_May.calls kj31 _ _ t369 t408 _ ?side1 ?side2 A92.out).mono ?_); (case side1 => repeat (first | exact (Kd.R_reads' HO_11.out).2.2 | (with_reducible refine Kd.C_alloc ?_ _) | (with_reducible refine Kd.C_drewN ?_ _) | (with_reducible refine Kd.C_drew ?_))); (case side2 => exact (Kd.R_reads' HO_11.out).2.1); rintro e w103 ⟨rfl, hb⟩; have n0_ := Aside0.mk (Kd.R_below (by (with_reducible repeat (first | apply Kd.R_alloc | apply Kd.R_drewN | apply Kd.R_drew)); exact HO_7.out) hb); have n1_ := Aside0.mk (Kd.R_below (by (with_reducible repeat (first | apply Kd.R_alloc | apply Kd.R_drewN | apply Kd.R_drew)); exact HO_9.out) hb); have n2_ := Aside0.mk (Kd.R_below (by (with_reducible repeat (first | apply Kd.R_alloc | apply Kd.R_drewN | apply Kd.R_drew)); exact HO_11.out) hb); have n3_ := Aside0.mk (Kd.R_below (by (with_reducible repeat (first | apply Kd.R_alloc | apply Kd.R_drewN | apply Kd.R_drew)); exact HO_13.out) hb); have n4_ := Aside0.mk (Kd.R_below (by (with_reducible repeat (first | apply Kd.R_alloc | apply Kd.R_drewN | apply Kd.R_drew)); exact HO393.out) hb); have n5_ := Aside0.mk (Kd.R_below (by (with_reducible repeat (first | apply Kd.R_alloc | apply Kd.R_drewN | apply Kd.R_drew)); exact HO397.out) hb); have n6_ := Aside0.mk (below_step (by repeat (first | (with_reducible first | exact HB.out | apply below_alloc | apply pw_below_drewN | apply below_drew1) | exact HB.out)) hb); clear HO_7; clear HO_9; clear HO_11; clear HO_13; clear HO393; clear HO397; clear HB; have HO_7 := n0_; have HO_9 := n1_; have HO_11 := n2_; have HO_13 := n3_; have HO393 := n4_; have HO397 := n5_; have HB := n6_; clear n0_ n1_ n2_ n3_ n4_ n5_ n6_; (try clear hb); (try clear hb2); (try clear hk); (try clear hi)))
                                    go_ret
                                    exact ⟨by first | rfl | (simp [errW_none, errW_some] <;> rfl) | (simp [*, errW_none, errW_some] <;> rfl), by repeat (first | (with_reducible first | exact HB.out | apply below_alloc | apply pw_below_drewN | apply below_drew1) | exact HB.out)⟩
                                  · replace c91 := Bool.eq_false_iff.mpr c91
                                    subst c91
                                    have H1 : (none) = some r := by rw [if_neg (show ¬ (false = true) by decide)] at H; exact H
                                    clear H
                                    have H := H1
                                    clear H1
                                    exact absurd H (by simp)
                                · replace c89 := Bool.eq_false_iff.mpr c89
                                  subst c89
                                  have H1 : (none) = some r := by rw [if_neg (show ¬ (false = true) by decide)] at H; exact H
                                  clear H
                                  have H := H1
                                  clear H1
                                  exact absurd H (by simp)
                              · replace c87 := Bool.eq_false_iff.mpr c87
                                subst c87
                                have H1 : (none) = some r := by rw [if_neg (show ¬ (false = true) by decide)] at H; exact H
                                clear H
                                have H := H1
                                clear H1
                                exact absurd H (by simp)
                            · replace c85 := Bool.eq_false_iff.mpr c85
                              subst c85
                              have H1 : (none) = some r := by rw [if_neg (show ¬ (false = true) by decide)] at H; exact H
                              clear H
                              have H := H1
                              clear H1
                              exact absurd H (by simp)
                          · rw [if_neg c83] at H
                            exact absurd H (by simp)
                        · rw [if_neg c81] at H
                          exact absurd H (by simp)
                      · rw [if_neg c79] at H
                        exact absurd H (by simp)
                    · rw [if_neg c77] at H
                      exact absurd H (by simp)
                  · rw [if_neg c75] at H
                    exact absurd H (by simp)
                · rw [if_neg c73] at H
                  exact absurd H (by simp)
  · replace c5 := Bool.eq_false_iff.mpr c5
    subst c5
    have H1 : (none) = some r := by rw [if_neg (show ¬ (false = true) by decide)] at H; exact H
    clear H
    have H := H1
    clear H1
    exact absurd H (by simp)

/-! ### furlonglaw6_CoverCounts: function 5 -/
def furlonglaw6_CoverCounts.l0 : Nat → List (S41) → Int → Int → Int → Int → Option (Bool)
  | 0, _, _, _, _, _ => none
  | k + 1, x3, x6, x7, x8, x9 => if x9 < (x3.length : Int) then (if 0 ≤ x9 then (if x7 = 0 then (none) else (if (Int.tmod ((rd_T41 x3 x9).f0) x7) = 0 then (if (Int.tmod ((rd_T41 x3 x9).f1) x7) = 0 then (furlonglaw6_CoverCounts.l0 k x3 x6 x7 (wrap64 ((wrap64 (x8 + ((rd_T41 x3 x9).f1))) - ((rd_T41 x3 x9).f0))) (wrap64 (x9 + 1))) else (none)) else (none))) else (none)) else (if x8 = (wrap64 (x6 * x7)) then (some (decide ((x3.length : Int) ≤ x6))) else (none))
def furlonglaw6_CoverCounts.f (k : Nat) (a0_0 : Int) (a0_1 : Int) (a0_2 : Int) (a0_3 : Int) : Option (Bool) := (furlonglaw6_awake.f k).bind fun t410 => (if t410 = true then ((cover_Of.f k a0_0 a0_1 a0_2 a0_3).bind fun bt411 => ((furlonglaw0_Num.f bt411.2).bind fun t415 => (if t415 = 0 then (furlonglaw6_CoverCounts.l0 k bt411.1 (wrap64 ((wrap64 ((wrap64 ((wrap64 (Int.tdiv a0_2 67108864)) - (wrap64 (Int.tdiv a0_0 67108864)))) + 1)) * (wrap64 ((wrap64 ((wrap64 (Int.tdiv a0_3 67108864)) - (wrap64 (Int.tdiv a0_1 67108864)))) + 1)))) 1048576 0 0) else (some ((bt411.1.length : Int) == 0))))) else (none))
theorem furlonglaw6_CoverCounts.mono_l : ∀ k, (∀ y0 y1 y2 y3 y4, LeO (furlonglaw6_CoverCounts.l0 k y0 y1 y2 y3 y4) (furlonglaw6_CoverCounts.l0 (k + 1) y0 y1 y2 y3 y4))
  | 0 => fun _ _ _ _ _ r h => by simp [furlonglaw6_CoverCounts.l0] at h
  | k + 1 => by
    have ih0 := furlonglaw6_CoverCounts.mono_l k
    · intro y0 y1 y2 y3 y4
      unfold furlonglaw6_CoverCounts.l0
      repeat' first
      | (with_reducible exact ih0 _ _ _ _ _)
      | (with_reducible exact cover_Of.mono _ _ _ _ _)
      | (with_reducible exact furlonglaw6_awake.mono _)
      | (with_reducible exact LeO.refl _)
      | (with_reducible exact LeO.none _)
      | (with_reducible refine LeO.ite ?_ ?_)
      | (with_reducible refine LeO.bind ?_ (fun _ => ?_))
      | exact ih0 _ _ _ _ _
      | exact cover_Of.mono _ _ _ _ _
      | exact furlonglaw6_awake.mono _
      | exact LeO.none _
      | refine LeO.ite ?_ ?_
      | refine LeO.bind ?_ (fun _ => ?_)
theorem furlonglaw6_CoverCounts.mono : ∀ a0 a1 a2 a3 k, LeO (furlonglaw6_CoverCounts.f k a0 a1 a2 a3) (furlonglaw6_CoverCounts.f (k + 1) a0 a1 a2 a3) := by
  intro a0 a1 a2 a3 k
  have ih0 := furlonglaw6_CoverCounts.mono_l k
  unfold furlonglaw6_CoverCounts.f
  repeat' first
      | (with_reducible exact ih0 _ _ _ _ _)
      | (with_reducible exact cover_Of.mono _ _ _ _ _)
      | (with_reducible exact furlonglaw6_awake.mono _)
      | (with_reducible exact LeO.refl _)
      | (with_reducible exact LeO.none _)
      | (with_reducible refine LeO.ite ?_ ?_)
      | (with_reducible refine LeO.bind ?_ (fun _ => ?_))
      | exact ih0 _ _ _ _ _
      | exact cover_Of.mono _ _ _ _ _
      | exact furlonglaw6_awake.mono _
      | exact LeO.none _
      | refine LeO.ite ?_ ?_
      | refine LeO.bind ?_ (fun _ => ?_)
set_option maxHeartbeats 8000000 in
set_option maxRecDepth 100000 in
theorem furlonglaw6_CoverCounts.calls (k : Nat) (a0_0 : Int) (a0_1 : Int) (a0_2 : Int) (a0_3 : Int) (r : Bool) (w : World) (h : furlonglaw6_CoverCounts.f k a0_0 a0_1 a0_2 a0_3 = some r) :
    Calls Try.prog 5 #[.agg #[.int .i64 a0_0, .int .i64 a0_1, .int .i64 a0_2, .int .i64 a0_3]] w fun e w' => e = .returned (.bool r) ∧ Below w.heap.size w w' := by
  have hu23 := Try.underlying23
  have HB := Aside0.mk (Below.refl w.heap.size w)
  have H : ((furlonglaw6_awake.f k).bind fun t410 => (if t410 = true then ((cover_Of.f k a0_0 a0_1 a0_2 a0_3).bind fun bt411 => ((furlonglaw0_Num.f bt411.2).bind fun t415 => (if t415 = 0 then (furlonglaw6_CoverCounts.l0 k bt411.1 (wrap64 ((wrap64 ((wrap64 ((wrap64 (Int.tdiv a0_2 67108864)) - (wrap64 (Int.tdiv a0_0 67108864)))) + 1)) * (wrap64 ((wrap64 ((wrap64 (Int.tdiv a0_3 67108864)) - (wrap64 (Int.tdiv a0_1 67108864)))) + 1)))) 1048576 0 0) else (some ((bt411.1.length : Int) == 0))))) else (none))) = some r := h
  clear h
  replace H := Option.bind_eq_some_iff.mp H
  obtain ⟨t410, A20, H⟩ := H
  replace H : (if t410 = true then ((cover_Of.f k a0_0 a0_1 a0_2 a0_3).bind fun bt411 => ((furlonglaw0_Num.f bt411.2).bind fun t415 => (if t415 = 0 then (furlonglaw6_CoverCounts.l0 k bt411.1 (wrap64 ((wrap64 ((wrap64 ((wrap64 (Int.tdiv a0_2 67108864)) - (wrap64 (Int.tdiv a0_0 67108864)))) + 1)) * (wrap64 ((wrap64 ((wrap64 (Int.tdiv a0_3 67108864)) - (wrap64 (Int.tdiv a0_1 67108864)))) + 1)))) 1048576 0 0) else (some ((bt411.1.length : Int) == 0))))) else (none)) = some r := H
  have A2 := Aside0.mk A20
  clear A20
  by_cases c3 : t410 = true
  · subst c3
    have H1 : ((cover_Of.f k a0_0 a0_1 a0_2 a0_3).bind fun bt411 => ((furlonglaw0_Num.f bt411.2).bind fun t415 => (if t415 = 0 then (furlonglaw6_CoverCounts.l0 k bt411.1 (wrap64 ((wrap64 ((wrap64 ((wrap64 (Int.tdiv a0_2 67108864)) - (wrap64 (Int.tdiv a0_0 67108864)))) + 1)) * (wrap64 ((wrap64 ((wrap64 (Int.tdiv a0_3 67108864)) - (wrap64 (Int.tdiv a0_1 67108864)))) + 1)))) 1048576 0 0) else (some ((bt411.1.length : Int) == 0))))) = some r := by rw [if_pos rfl] at H; exact H
    clear H
    have H := H1
    clear H1
    replace H := Option.bind_eq_some_iff.mp H
    obtain ⟨⟨t411, t414⟩, A40, H⟩ := H
    replace H : ((furlonglaw0_Num.f t414).bind fun t415 => (if t415 = 0 then (furlonglaw6_CoverCounts.l0 k t411 (wrap64 ((wrap64 ((wrap64 ((wrap64 (Int.tdiv a0_2 67108864)) - (wrap64 (Int.tdiv a0_0 67108864)))) + 1)) * (wrap64 ((wrap64 ((wrap64 (Int.tdiv a0_3 67108864)) - (wrap64 (Int.tdiv a0_1 67108864)))) + 1)))) 1048576 0 0) else (some ((t411.length : Int) == 0)))) = some r := H
    have A4 := Aside0.mk A40
    clear A40
    replace H := Option.bind_eq_some_iff.mp H
    obtain ⟨t415, A50, H⟩ := H
    replace H : (if t415 = 0 then (furlonglaw6_CoverCounts.l0 k t411 (wrap64 ((wrap64 ((wrap64 ((wrap64 (Int.tdiv a0_2 67108864)) - (wrap64 (Int.tdiv a0_0 67108864)))) + 1)) * (wrap64 ((wrap64 ((wrap64 (Int.tdiv a0_3 67108864)) - (wrap64 (Int.tdiv a0_1 67108864)))) + 1)))) 1048576 0 0) else (some ((t411.length : Int) == 0))) = some r := H
    have A5 := Aside0.mk A50
    clear A50
    by_cases c6 : t415 = 0
    · rw [if_pos c6] at H
      have c6b0 : (t415 == 0) = true := beq_iff_eq.mpr c6
      have c6b1 : (t415 != 0) = false := bne_eq_false_iff_eq.mpr c6
      clear c6
      have H' := Aside0.mk H
      clear H
      go_enter Try.func5, Try.ntmps5
      go_wp2_with (first | ((with_reducible refine gate_dst (N := 1) rfl ?_); (try (refine gate_guard (by rfl) ?_; dsimp only)); refine box_event ?hg (N := 1) ?hd (cs := #[.int .i64 a0_0, .int .i64 a0_1, .int .i64 a0_2, .int .i64 a0_3]) (t := 23) ?hr ?_; (case hd => rfl); (case hg => rfl); (case hr => first | (go_simp; done) | (go_simp; rfl)); intro gb409 hg w7 hbox hb; have n0_ := Aside0.mk (below_step (by repeat (first | (with_reducible first | exact HB.out | apply below_alloc | apply pw_below_drewN | apply below_drew1) | exact HB.out)) hb); have n1_ := Aside0.mk (hbox); have n2_ := Aside0.mk ((by rw [hg]; exact (below_size (by repeat (first | (with_reducible first | exact HB.out | apply below_alloc | apply pw_below_drewN | apply below_drew1) | exact HB.out))) : w.heap.size ≤ gb409)); have n3_ := Aside0.mk ((by rw [hg]; exact (below_size (by repeat (first | (with_reducible first | exact HB.out | apply below_alloc | apply pw_below_drewN | apply below_drew1) | exact HB.out))) : w.heap.size ≤ gb409)); clear HB; have HB := n0_; have BK409 := n1_; have GW409 := n2_; have GE409 := n3_; clear n0_ n1_ n2_ n3_; clear hb hbox hg) | (go_at_call 21; (with_reducible refine (furlonglaw6_awake.calls k  true _ A2.out).mono ?_); rintro e w8 ⟨rfl, hb⟩; have n0_ := Aside0.mk (blk_below (g := gb409) (o := .cells #[.int .i64 a0_0, .int .i64 a0_1, .int .i64 a0_2, .int .i64 a0_3] 23 (0, 0)) (by (with_reducible repeat (first | refine blk_drewN ?_ _ | refine blk_drew ?_ | refine blk_alloc ?_ _)); exact BK409.out) hb); have n1_ := Aside0.mk (below_step (by repeat (first | (with_reducible first | exact HB.out | apply below_alloc | apply pw_below_drewN | apply below_drew1 | refine below_set ?_ GE409.out) | exact HB.out)) hb); clear BK409; clear HB; have BK409 := n0_; have HB := n1_; clear n0_ n1_; (try clear hb); (try clear hb2); (try clear hk); (try clear hi); have hcz9_0 : w8.cell? ⟨gb409, 0, none⟩ = some (.int .i64 a0_0) := (blk_cell BK409.out 0).trans rfl; have hcz9_1 : w8.cell? ⟨gb409, 1, none⟩ = some (.int .i64 a0_1) := (blk_cell BK409.out 1).trans rfl; have hcz9_2 : w8.cell? ⟨gb409, 2, none⟩ = some (.int .i64 a0_2) := (blk_cell BK409.out 2).trans rfl; have hcz9_3 : w8.cell? ⟨gb409, 3, none⟩ = some (.int .i64 a0_3) := (blk_cell BK409.out 3).trans rfl; have hfz9_0 := blk_frozen BK409.out 0; have hfz9_1 := blk_frozen BK409.out 1; have hfz9_2 := blk_frozen BK409.out 2; have hfz9_3 := blk_frozen BK409.out 3) | (go_at_call 8; (with_reducible refine (cover_Of.calls k a0_0 a0_1 a0_2 a0_3 t411 t414 _ A4.out).mono ?_); rintro e w10 ⟨v412, rfl, ho0, hb⟩; have n0_ := Aside0.mk (Kd.R_lower ho0 (below_size (by repeat (first | (with_reducible first | exact HB.out | apply below_alloc | apply pw_below_drewN | apply below_drew1 | refine below_set ?_ GE409.out) | exact HB.out)))); have n1_ := Aside0.mk (blk_below (g := gb409) (o := .cells #[.int .i64 a0_0, .int .i64 a0_1, .int .i64 a0_2, .int .i64 a0_3] 23 (0, 0)) (by (with_reducible repeat (first | refine blk_drewN ?_ _ | refine blk_drew ?_ | refine blk_alloc ?_ _)); exact BK409.out) hb); have n2_ := Aside0.mk (below_step (by repeat (first | (with_reducible first | exact HB.out | apply below_alloc | apply pw_below_drewN | apply below_drew1 | refine below_set ?_ GE409.out) | exact HB.out)) hb); clear BK409; clear HB; have HO413 := n0_; have BK409 := n1_; have HB := n2_; clear n0_ n1_ n2_; (try clear hb); (try clear hb2); (try clear hk); (try clear hi); (try clear ho0)) | (go_at_call 11; (with_reducible refine (furlonglaw0_Num.calls t414 t415 _ A5.out).mono ?_); rintro e w' ⟨rfl, ⟨nd, rfl⟩⟩; (try first | exact ⟨rfl, _, World.drewN_drewN _ _ _⟩ | exact ⟨rfl, _, Eq.trans (World.drewN_drewN _ _ _) (congrArg (World.drewN _) (Nat.add_assoc _ _ _))⟩); have hcz11_0 : w10.cell? ⟨gb409, 0, none⟩ = some (.int .i64 a0_0) := (blk_cell BK409.out 0).trans rfl; have hcz11_1 : w10.cell? ⟨gb409, 1, none⟩ = some (.int .i64 a0_1) := (blk_cell BK409.out 1).trans rfl; have hcz11_2 : w10.cell? ⟨gb409, 2, none⟩ = some (.int .i64 a0_2) := (blk_cell BK409.out 2).trans rfl; have hcz11_3 : w10.cell? ⟨gb409, 3, none⟩ = some (.int .i64 a0_3) := (blk_cell BK409.out 3).trans rfl; have hfz11_0 := blk_frozen BK409.out 0; have hfz11_1 := blk_frozen BK409.out 1; have hfz11_2 := blk_frozen BK409.out 2; have hfz11_3 := blk_frozen BK409.out 3))
      repeat (go_quiet (first | ((with_reducible refine gate_dst (N := 1) rfl ?_); (try (refine gate_guard (by rfl) ?_; dsimp only)); refine box_event ?hg (N := 1) ?hd (cs := #[.int .i64 a0_0, .int .i64 a0_1, .int .i64 a0_2, .int .i64 a0_3]) (t := 23) ?hr ?_; (case hd => rfl); (case hg => rfl); (case hr => first | (go_simp; done) | (go_simp; rfl)); intro gb409 hg w7 hbox hb; have n0_ := Aside0.mk (below_step (by repeat (first | (with_reducible first | exact HB.out | apply below_alloc | apply pw_below_drewN | apply below_drew1) | exact HB.out)) hb); have n1_ := Aside0.mk (hbox); have n2_ := Aside0.mk ((by rw [hg]; exact (below_size (by repeat (first | (with_reducible first | exact HB.out | apply below_alloc | apply pw_below_drewN | apply below_drew1) | exact HB.out))) : w.heap.size ≤ gb409)); have n3_ := Aside0.mk ((by rw [hg]; exact (below_size (by repeat (first | (with_reducible first | exact HB.out | apply below_alloc | apply pw_below_drewN | apply below_drew1) | exact HB.out))) : w.heap.size ≤ gb409)); clear HB; have HB := n0_; have BK409 := n1_; have GW409 := n2_; have GE409 := n3_; clear n0_ n1_ n2_ n3_; clear hb hbox hg) | (go_at_call 21; (with_reducible refine (furlonglaw6_awake.calls k  true _ A2.out).mono ?_); rintro e w8 ⟨rfl, hb⟩; have n0_ := Aside0.mk (blk_below (g := gb409) (o := .cells #[.int .i64 a0_0, .int .i64 a0_1, .int .i64 a0_2, .int .i64 a0_3] 23 (0, 0)) (by (with_reducible repeat (first | refine blk_drewN ?_ _ | refine blk_drew ?_ | refine blk_alloc ?_ _)); exact BK409.out) hb); have n1_ := Aside0.mk (below_step (by repeat (first | (with_reducible first | exact HB.out | apply below_alloc | apply pw_below_drewN | apply below_drew1 | refine below_set ?_ GE409.out) | exact HB.out)) hb); clear BK409; clear HB; have BK409 := n0_; have HB := n1_; clear n0_ n1_; (try clear hb); (try clear hb2); (try clear hk); (try clear hi); have hcz9_0 : w8.cell? ⟨gb409, 0, none⟩ = some (.int .i64 a0_0) := (blk_cell BK409.out 0).trans rfl; have hcz9_1 : w8.cell? ⟨gb409, 1, none⟩ = some (.int .i64 a0_1) := (blk_cell BK409.out 1).trans rfl; have hcz9_2 : w8.cell? ⟨gb409, 2, none⟩ = some (.int .i64 a0_2) := (blk_cell BK409.out 2).trans rfl; have hcz9_3 : w8.cell? ⟨gb409, 3, none⟩ = some (.int .i64 a0_3) := (blk_cell BK409.out 3).trans rfl; have hfz9_0 := blk_frozen BK409.out 0; have hfz9_1 := blk_frozen BK409.out 1; have hfz9_2 := blk_frozen BK409.out 2; have hfz9_3 := blk_frozen BK409.out 3) | (go_at_call 8; (with_reducible refine (cover_Of.calls k a0_0 a0_1 a0_2 a0_3 t411 t414 _ A4.out).mono ?_); rintro e w10 ⟨v412, rfl, ho0, hb⟩; have n0_ := Aside0.mk (Kd.R_lower ho0 (below_size (by repeat (first | (with_reducible first | exact HB.out | apply below_alloc | apply pw_below_drewN | apply below_drew1 | refine below_set ?_ GE409.out) | exact HB.out)))); have n1_ := Aside0.mk (blk_below (g := gb409) (o := .cells #[.int .i64 a0_0, .int .i64 a0_1, .int .i64 a0_2, .int .i64 a0_3] 23 (0, 0)) (by (with_reducible repeat (first | refine blk_drewN ?_ _ | refine blk_drew ?_ | refine blk_alloc ?_ _)); exact BK409.out) hb); have n2_ := Aside0.mk (below_step (by repeat (first | (with_reducible first | exact HB.out | apply below_alloc | apply pw_below_drewN | apply below_drew1 | refine below_set ?_ GE409.out) | exact HB.out)) hb); clear BK409; clear HB; have HO413 := n0_; have BK409 := n1_; have HB := n2_; clear n0_ n1_ n2_; (try clear hb); (try clear hb2); (try clear hk); (try clear hi); (try clear ho0)) | (go_at_call 11; (with_reducible refine (furlonglaw0_Num.calls t414 t415 _ A5.out).mono ?_); rintro e w' ⟨rfl, ⟨nd, rfl⟩⟩; (try first | exact ⟨rfl, _, World.drewN_drewN _ _ _⟩ | exact ⟨rfl, _, Eq.trans (World.drewN_drewN _ _ _) (congrArg (World.drewN _) (Nat.add_assoc _ _ _))⟩); have hcz11_0 : w10.cell? ⟨gb409, 0, none⟩ = some (.int .i64 a0_0) := (blk_cell BK409.out 0).trans rfl; have hcz11_1 : w10.cell? ⟨gb409, 1, none⟩ = some (.int .i64 a0_1) := (blk_cell BK409.out 1).trans rfl; have hcz11_2 : w10.cell? ⟨gb409, 2, none⟩ = some (.int .i64 a0_2) := (blk_cell BK409.out 2).trans rfl; have hcz11_3 : w10.cell? ⟨gb409, 3, none⟩ = some (.int .i64 a0_3) := (blk_cell BK409.out 3).trans rfl; have hfz11_0 := blk_frozen BK409.out 0; have hfz11_1 := blk_frozen BK409.out 1; have hfz11_2 := blk_frozen BK409.out 2; have hfz11_3 := blk_frozen BK409.out 3)); try go_wp2_with (first | ((with_reducible refine gate_dst (N := 1) rfl ?_); (try (refine gate_guard (by rfl) ?_; dsimp only)); refine box_event ?hg (N := 1) ?hd (cs := #[.int .i64 a0_0, .int .i64 a0_1, .int .i64 a0_2, .int .i64 a0_3]) (t := 23) ?hr ?_; (case hd => rfl); (case hg => rfl); (case hr => first | (go_simp; done) | (go_simp; rfl)); intro gb409 hg w7 hbox hb; have n0_ := Aside0.mk (below_step (by repeat (first | (with_reducible first | exact HB.out | apply below_alloc | apply pw_below_drewN | apply below_drew1) | exact HB.out)) hb); have n1_ := Aside0.mk (hbox); have n2_ := Aside0.mk ((by rw [hg]; exact (below_size (by repeat (first | (with_reducible first | exact HB.out | apply below_alloc | apply pw_below_drewN | apply below_drew1) | exact HB.out))) : w.heap.size ≤ gb409)); have n3_ := Aside0.mk ((by rw [hg]; exact (below_size (by repeat (first | (with_reducible first | exact HB.out | apply below_alloc | apply pw_below_drewN | apply below_drew1) | exact HB.out))) : w.heap.size ≤ gb409)); clear HB; have HB := n0_; have BK409 := n1_; have GW409 := n2_; have GE409 := n3_; clear n0_ n1_ n2_ n3_; clear hb hbox hg) | (go_at_call 21; (with_reducible refine (furlonglaw6_awake.calls k  true _ A2.out).mono ?_); rintro e w8 ⟨rfl, hb⟩; have n0_ := Aside0.mk (blk_below (g := gb409) (o := .cells #[.int .i64 a0_0, .int .i64 a0_1, .int .i64 a0_2, .int .i64 a0_3] 23 (0, 0)) (by (with_reducible repeat (first | refine blk_drewN ?_ _ | refine blk_drew ?_ | refine blk_alloc ?_ _)); exact BK409.out) hb); have n1_ := Aside0.mk (below_step (by repeat (first | (with_reducible first | exact HB.out | apply below_alloc | apply pw_below_drewN | apply below_drew1 | refine below_set ?_ GE409.out) | exact HB.out)) hb); clear BK409; clear HB; have BK409 := n0_; have HB := n1_; clear n0_ n1_; (try clear hb); (try clear hb2); (try clear hk); (try clear hi); have hcz9_0 : w8.cell? ⟨gb409, 0, none⟩ = some (.int .i64 a0_0) := (blk_cell BK409.out 0).trans rfl; have hcz9_1 : w8.cell? ⟨gb409, 1, none⟩ = some (.int .i64 a0_1) := (blk_cell BK409.out 1).trans rfl; have hcz9_2 : w8.cell? ⟨gb409, 2, none⟩ = some (.int .i64 a0_2) := (blk_cell BK409.out 2).trans rfl; have hcz9_3 : w8.cell? ⟨gb409, 3, none⟩ = some (.int .i64 a0_3) := (blk_cell BK409.out 3).trans rfl; have hfz9_0 := blk_frozen BK409.out 0; have hfz9_1 := blk_frozen BK409.out 1; have hfz9_2 := blk_frozen BK409.out 2; have hfz9_3 := blk_frozen BK409.out 3) | (go_at_call 8; (with_reducible refine (cover_Of.calls k a0_0 a0_1 a0_2 a0_3 t411 t414 _ A4.out).mono ?_); rintro e w10 ⟨v412, rfl, ho0, hb⟩; have n0_ := Aside0.mk (Kd.R_lower ho0 (below_size (by repeat (first | (with_reducible first | exact HB.out | apply below_alloc | apply pw_below_drewN | apply below_drew1 | refine below_set ?_ GE409.out) | exact HB.out)))); have n1_ := Aside0.mk (blk_below (g := gb409) (o := .cells #[.int .i64 a0_0, .int .i64 a0_1, .int .i64 a0_2, .int .i64 a0_3] 23 (0, 0)) (by (with_reducible repeat (first | refine blk_drewN ?_ _ | refine blk_drew ?_ | refine blk_alloc ?_ _)); exact BK409.out) hb); have n2_ := Aside0.mk (below_step (by repeat (first | (with_reducible first | exact HB.out | apply below_alloc | apply pw_below_drewN | apply below_drew1 | refine below_set ?_ GE409.out) | exact HB.out)) hb); clear BK409; clear HB; have HO413 := n0_; have BK409 := n1_; have HB := n2_; clear n0_ n1_ n2_; (try clear hb); (try clear hb2); (try clear hk); (try clear hi); (try clear ho0)) | (go_at_call 11; (with_reducible refine (furlonglaw0_Num.calls t414 t415 _ A5.out).mono ?_); rintro e w' ⟨rfl, ⟨nd, rfl⟩⟩; (try first | exact ⟨rfl, _, World.drewN_drewN _ _ _⟩ | exact ⟨rfl, _, Eq.trans (World.drewN_drewN _ _ _) (congrArg (World.drewN _) (Nat.add_assoc _ _ _))⟩); have hcz11_0 : w10.cell? ⟨gb409, 0, none⟩ = some (.int .i64 a0_0) := (blk_cell BK409.out 0).trans rfl; have hcz11_1 : w10.cell? ⟨gb409, 1, none⟩ = some (.int .i64 a0_1) := (blk_cell BK409.out 1).trans rfl; have hcz11_2 : w10.cell? ⟨gb409, 2, none⟩ = some (.int .i64 a0_2) := (blk_cell BK409.out 2).trans rfl; have hcz11_3 : w10.cell? ⟨gb409, 3, none⟩ = some (.int .i64 a0_3) := (blk_cell BK409.out 3).trans rfl; have hfz11_0 := blk_frozen BK409.out 0; have hfz11_1 := blk_frozen BK409.out 1; have hfz11_2 := blk_frozen BK409.out 2; have hfz11_3 := blk_frozen BK409.out 3)))
      go_loopg [8, 9] k (fun kq v8 v9 w' => ∃ (x8_1 : Int) (x9_1 : Int), v8 = .int .i64 x8_1 ∧ v9 = .int .i64 x9_1 ∧ Aside0 (furlonglaw6_CoverCounts.l0 kq t411 (wrap64 ((wrap64 ((wrap64 ((wrap64 (Int.tdiv a0_2 67108864)) - (wrap64 (Int.tdiv a0_0 67108864)))) + 1)) * (wrap64 ((wrap64 ((wrap64 (Int.tdiv a0_3 67108864)) - (wrap64 (Int.tdiv a0_1 67108864)))) + 1)))) 1048576 x8_1 x9_1 = some r) ∧ Aside0 (kq ≤ k) ∧ Aside0 (Kd.R k41 41 w' w.heap.size (fun _ => True) v412 t411) ∧ Aside0 (w'.heap[gb409]? = some (.cells #[.int .i64 a0_0, .int .i64 a0_1, .int .i64 a0_2, .int .i64 a0_3] 23 (0, 0))) ∧ Aside0 (Below w.heap.size w w'))
      case atStart => exact ⟨(0), (0), (by first | rfl | (simp; done) | (simp [*]; done)), (by first | rfl | (simp; done) | (simp [*]; done)), H', ⟨Nat.le_refl _⟩, ⟨by (with_reducible repeat (first | apply Kd.R_alloc | apply Kd.R_drewN | apply Kd.R_drew)); exact HO413.out⟩, ⟨by (with_reducible repeat (first | refine blk_drewN ?_ _ | refine blk_drew ?_ | refine blk_alloc ?_ _)); exact BK409.out⟩, ⟨by repeat (first | (with_reducible first | exact HB.out | apply below_alloc | apply pw_below_drewN | apply below_drew1 | refine below_set ?_ GE409.out) | exact HB.out)⟩⟩
      case round =>
        clear H'
        try clear p2
        try clear c3
        try clear c5
        try clear c6
        try clear c6b0
        try clear c6b1
        try clear p6
        try clear hcz11_0
        try clear hcz11_1
        try clear hcz11_2
        try clear hcz11_3
        try clear hcz9_0
        try clear hcz9_1
        try clear hcz9_2
        try clear hcz9_3
        try clear hfz11_0
        try clear hfz11_1
        try clear hfz11_2
        try clear hfz11_3
        try clear hfz9_0
        try clear hfz9_1
        try clear hfz9_2
        try clear hfz9_3
        obtain ⟨x8_1, x9_1, rfl, rfl, HA, HK1, HO_3, BK409, HB⟩ := hrel
        cases gk with
        | zero => exact absurd HA.out (by simp [furlonglaw6_CoverCounts.l0])
        | succ k1 =>
          have H := HA.out
          clear HA
          simp only [furlonglaw6_CoverCounts.l0] at H
          by_cases c12 : x9_1 < (t411.length : Int)
          · rw [if_pos c12] at H
            have c12b0 : decide (x9_1 < (t411.length : Int)) = true := decide_eq_true c12
            clear c12
            by_cases c13 : 0 ≤ x9_1
            · rw [if_pos c13] at H
              have c13b0 : decide (0 ≤ x9_1) = true := decide_eq_true c13
              clear c13
              by_cases c14 : (1048576 : Int) = 0
              · rw [if_pos c14] at H
                exact absurd H (by simp)
              · rw [if_neg c14] at H
                have c14b0 : ((1048576 : Int) == 0) = false := beq_eq_false_iff_ne.mpr c14
                have c14b1 : ((1048576 : Int) != 0) = true := bne_iff_ne.mpr c14
                by_cases c15 : (Int.tmod ((rd_T41 t411 x9_1).f0) 1048576) = 0
                · rw [if_pos c15] at H
                  have c15b0 : ((Int.tmod ((rd_T41 t411 x9_1).f0) 1048576) == 0) = true := beq_iff_eq.mpr c15
                  have c15b1 : ((Int.tmod ((rd_T41 t411 x9_1).f0) 1048576) != 0) = false := bne_eq_false_iff_eq.mpr c15
                  clear c15
                  by_cases c16 : (Int.tmod ((rd_T41 t411 x9_1).f1) 1048576) = 0
                  · rw [if_pos c16] at H
                    have c16b0 : ((Int.tmod ((rd_T41 t411 x9_1).f1) 1048576) == 0) = true := beq_iff_eq.mpr c16
                    have c16b1 : ((Int.tmod ((rd_T41 t411 x9_1).f1) 1048576) != 0) = false := bne_eq_false_iff_eq.mpr c16
                    clear c16
                    have H' := Aside0.mk H
                    clear H
                    obtain ⟨Ao17, co17, eo17⟩ := Kd.R_slice HO_3.out
                    subst eo17
                    have p416 : 0 ≤ (x9_1 : Int) := of_decide_eq_true (by first | (with_reducible assumption) | assumption)
                    have q416 : x9_1 < (t411.length : Int) := of_decide_eq_true (by first | (with_reducible assumption) | assumption)
                    obtain ⟨ad416, e416, hx416_0, hx416_1⟩ := at_T41 (Kd.R_reads' HO_3.out).2.2 x9_1 p416 q416
                    cases e416
                    replace p416 := eq_true p416
                    replace q416 := eq_true q416
                    have p417 : 0 ≤ (x9_1 : Int) := of_decide_eq_true (by first | (with_reducible assumption) | assumption)
                    have q417 : x9_1 < (t411.length : Int) := of_decide_eq_true (by first | (with_reducible assumption) | assumption)
                    obtain ⟨ad417, e417, hx417_0, hx417_1⟩ := at_T41 (Kd.R_reads' HO_3.out).2.2 x9_1 p417 q417
                    obtain rfl : ad416 = ad417 := (by injection e417)
                    replace p417 := eq_true p417
                    replace q417 := eq_true q417
                    have p418 : 0 ≤ (x9_1 : Int) := of_decide_eq_true (by first | (with_reducible assumption) | assumption)
                    have q418 : x9_1 < (t411.length : Int) := of_decide_eq_true (by first | (with_reducible assumption) | assumption)
                    obtain ⟨ad418, e418, hx418_0, hx418_1⟩ := at_T41 (Kd.R_reads' HO_3.out).2.2 x9_1 p418 q418
                    obtain rfl : ad416 = ad418 := (by injection e418)
                    replace p418 := eq_true p418
                    replace q418 := eq_true q418
                    have p419 : 0 ≤ (x9_1 : Int) := of_decide_eq_true (by first | (with_reducible assumption) | assumption)
                    have q419 : x9_1 < (t411.length : Int) := of_decide_eq_true (by first | (with_reducible assumption) | assumption)
                    obtain ⟨ad419, e419, hx419_0, hx419_1⟩ := at_T41 (Kd.R_reads' HO_3.out).2.2 x9_1 p419 q419
                    obtain rfl : ad416 = ad419 := (by injection e419)
                    replace p419 := eq_true p419
                    replace q419 := eq_true q419
                    go_wp2
                    repeat (go_quiet (fail); try go_wp2)
                    go_roundg k1
                    case measure => have := HK1.out; omega
                    case rel => exact ⟨(wrap64 ((wrap64 (x8_1 + ((rd_T41 t411 x9_1).f1))) - ((rd_T41 t411 x9_1).f0))), (wrap64 (x9_1 + 1)), (by first | rfl | (simp; done) | (simp [*]; done)), (by first | rfl | (simp; done) | (simp [*]; done)), H', ⟨by have := HK1.out; omega⟩, ⟨by (with_reducible repeat (first | apply Kd.R_alloc | apply Kd.R_drewN | apply Kd.R_drew)); exact HO_3.out⟩, ⟨by (with_reducible repeat (first | refine blk_drewN ?_ _ | refine blk_drew ?_ | refine blk_alloc ?_ _)); exact BK409.out⟩, ⟨by repeat (first | (with_reducible first | exact HB.out | apply below_alloc | apply pw_below_drewN | apply below_drew1 | refine below_set ?_ GE409.out) | exact HB.out)⟩⟩
                  · rw [if_neg c16] at H
                    exact absurd H (by simp)
                · rw [if_neg c15] at H
                  exact absurd H (by simp)
            · rw [if_neg c13] at H
              exact absurd H (by simp)
          · rw [if_neg c12] at H
            have c12b0 : decide (x9_1 < (t411.length : Int)) = false := decide_eq_false c12
            clear c12
            by_cases c18 : x8_1 = (wrap64 ((wrap64 ((wrap64 ((wrap64 ((wrap64 (Int.tdiv a0_2 67108864)) - (wrap64 (Int.tdiv a0_0 67108864)))) + 1)) * (wrap64 ((wrap64 ((wrap64 (Int.tdiv a0_3 67108864)) - (wrap64 (Int.tdiv a0_1 67108864)))) + 1)))) * 1048576))
            · rw [if_pos c18] at H
              have c18b0 : (x8_1 == (wrap64 ((wrap64 ((wrap64 ((wrap64 ((wrap64 (Int.tdiv a0_2 67108864)) - (wrap64 (Int.tdiv a0_0 67108864)))) + 1)) * (wrap64 ((wrap64 ((wrap64 (Int.tdiv a0_3 67108864)) - (wrap64 (Int.tdiv a0_1 67108864)))) + 1)))) * 1048576))) = true := beq_iff_eq.mpr c18
              have c18b1 : (x8_1 != (wrap64 ((wrap64 ((wrap64 ((wrap64 ((wrap64 (Int.tdiv a0_2 67108864)) - (wrap64 (Int.tdiv a0_0 67108864)))) + 1)) * (wrap64 ((wrap64 ((wrap64 (Int.tdiv a0_3 67108864)) - (wrap64 (Int.tdiv a0_1 67108864)))) + 1)))) * 1048576))) = false := bne_eq_false_iff_eq.mpr c18
              clear c18
              obtain rfl := Option.some.inj H
              obtain ⟨Ao19, co19, eo19⟩ := Kd.R_slice HO_3.out
              subst eo19
              go_wp2
              repeat (go_quiet (fail); try go_wp2)
              go_ret
              exact ⟨by first | rfl | (simp [errW_none, errW_some] <;> rfl) | (simp [*, errW_none, errW_some] <;> rfl), by repeat (first | (with_reducible first | exact HB.out | apply below_alloc | apply pw_below_drewN | apply below_drew1 | refine below_set ?_ GE409.out) | exact HB.out)⟩
            · rw [if_neg c18] at H
              exact absurd H (by simp)
    · rw [if_neg c6] at H
      have c6b0 : (t415 == 0) = false := beq_eq_false_iff_ne.mpr c6
      have c6b1 : (t415 != 0) = true := bne_iff_ne.mpr c6
      obtain rfl := Option.some.inj H
      go_enter Try.func5, Try.ntmps5
      go_wp2_with (first | ((with_reducible refine gate_dst (N := 1) rfl ?_); (try (refine gate_guard (by rfl) ?_; dsimp only)); refine box_event ?hg (N := 1) ?hd (cs := #[.int .i64 a0_0, .int .i64 a0_1, .int .i64 a0_2, .int .i64 a0_3]) (t := 23) ?hr ?_; (case hd => rfl); (case hg => rfl); (case hr => first | (go_simp; done) | (go_simp; rfl)); intro gb409 hg w20 hbox hb; have n0_ := Aside0.mk (below_step (by repeat (first | (with_reducible first | exact HB.out | apply below_alloc | apply pw_below_drewN | apply below_drew1) | exact HB.out)) hb); have n1_ := Aside0.mk (hbox); have n2_ := Aside0.mk ((by rw [hg]; exact (below_size (by repeat (first | (with_reducible first | exact HB.out | apply below_alloc | apply pw_below_drewN | apply below_drew1) | exact HB.out))) : w.heap.size ≤ gb409)); have n3_ := Aside0.mk ((by rw [hg]; exact (below_size (by repeat (first | (with_reducible first | exact HB.out | apply below_alloc | apply pw_below_drewN | apply below_drew1) | exact HB.out))) : w.heap.size ≤ gb409)); clear HB; have HB := n0_; have BK409 := n1_; have GW409 := n2_; have GE409 := n3_; clear n0_ n1_ n2_ n3_; clear hb hbox hg) | (go_at_call 21; (with_reducible refine (furlonglaw6_awake.calls k  true _ A2.out).mono ?_); rintro e w21 ⟨rfl, hb⟩; have n0_ := Aside0.mk (blk_below (g := gb409) (o := .cells #[.int .i64 a0_0, .int .i64 a0_1, .int .i64 a0_2, .int .i64 a0_3] 23 (0, 0)) (by (with_reducible repeat (first | refine blk_drewN ?_ _ | refine blk_drew ?_ | refine blk_alloc ?_ _)); exact BK409.out) hb); have n1_ := Aside0.mk (below_step (by repeat (first | (with_reducible first | exact HB.out | apply below_alloc | apply pw_below_drewN | apply below_drew1 | refine below_set ?_ GE409.out) | exact HB.out)) hb); clear BK409; clear HB; have BK409 := n0_; have HB := n1_; clear n0_ n1_; (try clear hb); (try clear hb2); (try clear hk); (try clear hi); have hcz22_0 : w21.cell? ⟨gb409, 0, none⟩ = some (.int .i64 a0_0) := (blk_cell BK409.out 0).trans rfl; have hcz22_1 : w21.cell? ⟨gb409, 1, none⟩ = some (.int .i64 a0_1) := (blk_cell BK409.out 1).trans rfl; have hcz22_2 : w21.cell? ⟨gb409, 2, none⟩ = some (.int .i64 a0_2) := (blk_cell BK409.out 2).trans rfl; have hcz22_3 : w21.cell? ⟨gb409, 3, none⟩ = some (.int .i64 a0_3) := (blk_cell BK409.out 3).trans rfl; have hfz22_0 := blk_frozen BK409.out 0; have hfz22_1 := blk_frozen BK409.out 1; have hfz22_2 := blk_frozen BK409.out 2; have hfz22_3 := blk_frozen BK409.out 3) | (go_at_call 8; (with_reducible refine (cover_Of.calls k a0_0 a0_1 a0_2 a0_3 t411 t414 _ A4.out).mono ?_); rintro e w23 ⟨v412, rfl, ho0, hb⟩; have n0_ := Aside0.mk (Kd.R_lower ho0 (below_size (by repeat (first | (with_reducible first | exact HB.out | apply below_alloc | apply pw_below_drewN | apply below_drew1 | refine below_set ?_ GE409.out) | exact HB.out)))); have n1_ := Aside0.mk (blk_below (g := gb409) (o := .cells #[.int .i64 a0_0, .int .i64 a0_1, .int .i64 a0_2, .int .i64 a0_3] 23 (0, 0)) (by (with_reducible repeat (first | refine blk_drewN ?_ _ | refine blk_drew ?_ | refine blk_alloc ?_ _)); exact BK409.out) hb); have n2_ := Aside0.mk (below_step (by repeat (first | (with_reducible first | exact HB.out | apply below_alloc | apply pw_below_drewN | apply below_drew1 | refine below_set ?_ GE409.out) | exact HB.out)) hb); clear BK409; clear HB; have HO413 := n0_; have BK409 := n1_; have HB := n2_; clear n0_ n1_ n2_; (try clear hb); (try clear hb2); (try clear hk); (try clear hi); (try clear ho0)) | (go_at_call 11; (with_reducible refine (furlonglaw0_Num.calls t414 t415 _ A5.out).mono ?_); rintro e w' ⟨rfl, ⟨nd, rfl⟩⟩; (try first | exact ⟨rfl, _, World.drewN_drewN _ _ _⟩ | exact ⟨rfl, _, Eq.trans (World.drewN_drewN _ _ _) (congrArg (World.drewN _) (Nat.add_assoc _ _ _))⟩); obtain ⟨Ao24, co24, eo24⟩ := Kd.R_slice HO413.out; subst eo24))
      repeat (go_quiet (first | ((with_reducible refine gate_dst (N := 1) rfl ?_); (try (refine gate_guard (by rfl) ?_; dsimp only)); refine box_event ?hg (N := 1) ?hd (cs := #[.int .i64 a0_0, .int .i64 a0_1, .int .i64 a0_2, .int .i64 a0_3]) (t := 23) ?hr ?_; (case hd => rfl); (case hg => rfl); (case hr => first | (go_simp; done) | (go_simp; rfl)); intro gb409 hg w20 hbox hb; have n0_ := Aside0.mk (below_step (by repeat (first | (with_reducible first | exact HB.out | apply below_alloc | apply pw_below_drewN | apply below_drew1) | exact HB.out)) hb); have n1_ := Aside0.mk (hbox); have n2_ := Aside0.mk ((by rw [hg]; exact (below_size (by repeat (first | (with_reducible first | exact HB.out | apply below_alloc | apply pw_below_drewN | apply below_drew1) | exact HB.out))) : w.heap.size ≤ gb409)); have n3_ := Aside0.mk ((by rw [hg]; exact (below_size (by repeat (first | (with_reducible first | exact HB.out | apply below_alloc | apply pw_below_drewN | apply below_drew1) | exact HB.out))) : w.heap.size ≤ gb409)); clear HB; have HB := n0_; have BK409 := n1_; have GW409 := n2_; have GE409 := n3_; clear n0_ n1_ n2_ n3_; clear hb hbox hg) | (go_at_call 21; (with_reducible refine (furlonglaw6_awake.calls k  true _ A2.out).mono ?_); rintro e w21 ⟨rfl, hb⟩; have n0_ := Aside0.mk (blk_below (g := gb409) (o := .cells #[.int .i64 a0_0, .int .i64 a0_1, .int .i64 a0_2, .int .i64 a0_3] 23 (0, 0)) (by (with_reducible repeat (first | refine blk_drewN ?_ _ | refine blk_drew ?_ | refine blk_alloc ?_ _)); exact BK409.out) hb); have n1_ := Aside0.mk (below_step (by repeat (first | (with_reducible first | exact HB.out | apply below_alloc | apply pw_below_drewN | apply below_drew1 | refine below_set ?_ GE409.out) | exact HB.out)) hb); clear BK409; clear HB; have BK409 := n0_; have HB := n1_; clear n0_ n1_; (try clear hb); (try clear hb2); (try clear hk); (try clear hi); have hcz22_0 : w21.cell? ⟨gb409, 0, none⟩ = some (.int .i64 a0_0) := (blk_cell BK409.out 0).trans rfl; have hcz22_1 : w21.cell? ⟨gb409, 1, none⟩ = some (.int .i64 a0_1) := (blk_cell BK409.out 1).trans rfl; have hcz22_2 : w21.cell? ⟨gb409, 2, none⟩ = some (.int .i64 a0_2) := (blk_cell BK409.out 2).trans rfl; have hcz22_3 : w21.cell? ⟨gb409, 3, none⟩ = some (.int .i64 a0_3) := (blk_cell BK409.out 3).trans rfl; have hfz22_0 := blk_frozen BK409.out 0; have hfz22_1 := blk_frozen BK409.out 1; have hfz22_2 := blk_frozen BK409.out 2; have hfz22_3 := blk_frozen BK409.out 3) | (go_at_call 8; (with_reducible refine (cover_Of.calls k a0_0 a0_1 a0_2 a0_3 t411 t414 _ A4.out).mono ?_); rintro e w23 ⟨v412, rfl, ho0, hb⟩; have n0_ := Aside0.mk (Kd.R_lower ho0 (below_size (by repeat (first | (with_reducible first | exact HB.out | apply below_alloc | apply pw_below_drewN | apply below_drew1 | refine below_set ?_ GE409.out) | exact HB.out)))); have n1_ := Aside0.mk (blk_below (g := gb409) (o := .cells #[.int .i64 a0_0, .int .i64 a0_1, .int .i64 a0_2, .int .i64 a0_3] 23 (0, 0)) (by (with_reducible repeat (first | refine blk_drewN ?_ _ | refine blk_drew ?_ | refine blk_alloc ?_ _)); exact BK409.out) hb); have n2_ := Aside0.mk (below_step (by repeat (first | (with_reducible first | exact HB.out | apply below_alloc | apply pw_below_drewN | apply below_drew1 | refine below_set ?_ GE409.out) | exact HB.out)) hb); clear BK409; clear HB; have HO413 := n0_; have BK409 := n1_; have HB := n2_; clear n0_ n1_ n2_; (try clear hb); (try clear hb2); (try clear hk); (try clear hi); (try clear ho0)) | (go_at_call 11; (with_reducible refine (furlonglaw0_Num.calls t414 t415 _ A5.out).mono ?_); rintro e w' ⟨rfl, ⟨nd, rfl⟩⟩; (try first | exact ⟨rfl, _, World.drewN_drewN _ _ _⟩ | exact ⟨rfl, _, Eq.trans (World.drewN_drewN _ _ _) (congrArg (World.drewN _) (Nat.add_assoc _ _ _))⟩); obtain ⟨Ao24, co24, eo24⟩ := Kd.R_slice HO413.out; subst eo24)); try go_wp2_with (first | ((with_reducible refine gate_dst (N := 1) rfl ?_); (try (refine gate_guard (by rfl) ?_; dsimp only)); refine box_event ?hg (N := 1) ?hd (cs := #[.int .i64 a0_0, .int .i64 a0_1, .int .i64 a0_2, .int .i64 a0_3]) (t := 23) ?hr ?_; (case hd => rfl); (case hg => rfl); (case hr => first | (go_simp; done) | (go_simp; rfl)); intro gb409 hg w20 hbox hb; have n0_ := Aside0.mk (below_step (by repeat (first | (with_reducible first | exact HB.out | apply below_alloc | apply pw_below_drewN | apply below_drew1) | exact HB.out)) hb); have n1_ := Aside0.mk (hbox); have n2_ := Aside0.mk ((by rw [hg]; exact (below_size (by repeat (first | (with_reducible first | exact HB.out | apply below_alloc | apply pw_below_drewN | apply below_drew1) | exact HB.out))) : w.heap.size ≤ gb409)); have n3_ := Aside0.mk ((by rw [hg]; exact (below_size (by repeat (first | (with_reducible first | exact HB.out | apply below_alloc | apply pw_below_drewN | apply below_drew1) | exact HB.out))) : w.heap.size ≤ gb409)); clear HB; have HB := n0_; have BK409 := n1_; have GW409 := n2_; have GE409 := n3_; clear n0_ n1_ n2_ n3_; clear hb hbox hg) | (go_at_call 21; (with_reducible refine (furlonglaw6_awake.calls k  true _ A2.out).mono ?_); rintro e w21 ⟨rfl, hb⟩; have n0_ := Aside0.mk (blk_below (g := gb409) (o := .cells #[.int .i64 a0_0, .int .i64 a0_1, .int .i64 a0_2, .int .i64 a0_3] 23 (0, 0)) (by (with_reducible repeat (first | refine blk_drewN ?_ _ | refine blk_drew ?_ | refine blk_alloc ?_ _)); exact BK409.out) hb); have n1_ := Aside0.mk (below_step (by repeat (first | (with_reducible first | exact HB.out | apply below_alloc | apply pw_below_drewN | apply below_drew1 | refine below_set ?_ GE409.out) | exact HB.out)) hb); clear BK409; clear HB; have BK409 := n0_; have HB := n1_; clear n0_ n1_; (try clear hb); (try clear hb2); (try clear hk); (try clear hi); have hcz22_0 : w21.cell? ⟨gb409, 0, none⟩ = some (.int .i64 a0_0) := (blk_cell BK409.out 0).trans rfl; have hcz22_1 : w21.cell? ⟨gb409, 1, none⟩ = some (.int .i64 a0_1) := (blk_cell BK409.out 1).trans rfl; have hcz22_2 : w21.cell? ⟨gb409, 2, none⟩ = some (.int .i64 a0_2) := (blk_cell BK409.out 2).trans rfl; have hcz22_3 : w21.cell? ⟨gb409, 3, none⟩ = some (.int .i64 a0_3) := (blk_cell BK409.out 3).trans rfl; have hfz22_0 := blk_frozen BK409.out 0; have hfz22_1 := blk_frozen BK409.out 1; have hfz22_2 := blk_frozen BK409.out 2; have hfz22_3 := blk_frozen BK409.out 3) | (go_at_call 8; (with_reducible refine (cover_Of.calls k a0_0 a0_1 a0_2 a0_3 t411 t414 _ A4.out).mono ?_); rintro e w23 ⟨v412, rfl, ho0, hb⟩; have n0_ := Aside0.mk (Kd.R_lower ho0 (below_size (by repeat (first | (with_reducible first | exact HB.out | apply below_alloc | apply pw_below_drewN | apply below_drew1 | refine below_set ?_ GE409.out) | exact HB.out)))); have n1_ := Aside0.mk (blk_below (g := gb409) (o := .cells #[.int .i64 a0_0, .int .i64 a0_1, .int .i64 a0_2, .int .i64 a0_3] 23 (0, 0)) (by (with_reducible repeat (first | refine blk_drewN ?_ _ | refine blk_drew ?_ | refine blk_alloc ?_ _)); exact BK409.out) hb); have n2_ := Aside0.mk (below_step (by repeat (first | (with_reducible first | exact HB.out | apply below_alloc | apply pw_below_drewN | apply below_drew1 | refine below_set ?_ GE409.out) | exact HB.out)) hb); clear BK409; clear HB; have HO413 := n0_; have BK409 := n1_; have HB := n2_; clear n0_ n1_ n2_; (try clear hb); (try clear hb2); (try clear hk); (try clear hi); (try clear ho0)) | (go_at_call 11; (with_reducible refine (furlonglaw0_Num.calls t414 t415 _ A5.out).mono ?_); rintro e w' ⟨rfl, ⟨nd, rfl⟩⟩; (try first | exact ⟨rfl, _, World.drewN_drewN _ _ _⟩ | exact ⟨rfl, _, Eq.trans (World.drewN_drewN _ _ _) (congrArg (World.drewN _) (Nat.add_assoc _ _ _))⟩); obtain ⟨Ao24, co24, eo24⟩ := Kd.R_slice HO413.out; subst eo24)))
      go_ret
      exact ⟨by first | rfl | (simp [errW_none, errW_some] <;> rfl) | (simp [*, errW_none, errW_some] <;> rfl), by repeat (first | (with_reducible first | exact HB.out | apply below_alloc | apply pw_below_drewN | apply below_drew1 | refine below_set ?_ GE409.out) | exact HB.out)⟩
  · replace c3 := Bool.eq_false_iff.mpr c3
    subst c3
    have H1 : (none) = some r := by rw [if_neg (show ¬ (false = true) by decide)] at H; exact H
    clear H
    have H := H1
    clear H1
    exact absurd H (by simp)

end Go.Proofs.Ytngcljnhcbbdmaa.C
