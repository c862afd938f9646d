-- PRINTED by print.py (a twelfth state) out of the translation. Not trusted: Lean checks it.
import Derived.Test.YtngcljnhcbbdmaaC0
import Derived.Test.YtngcljnhcbbdmaaC3
import Derived.Test.YtngcljnhcbbdmaaC4
import Derived.Test.YtngcljnhcbbdmaaC7
import Derived.Test.YtngcljnhcbbdmaaC8
namespace Go.Proofs.Ytngcljnhcbbdmaa.C
open Go.RowKit Go.Proofs.YtngcljnhcbbdmaaW.PrintWords Go.Proofs.YtngcljnhcbbdmaaW.PrintLast Go.Proofs.YtngcljnhcbbdmaaW.PrintMore
attribute [local go_sem] max2_int min2_int max_two min_two max_three min_three max_four min_four   -- for this text's walks alone
set_option linter.unusedVariables false
set_option linter.unusedSimpArgs false

/-! ### furlonglaw6_CoverGrows: function 6 -/
def furlonglaw6_CoverGrows.j0 : Nat → List (S41) → List (S41) → Bool → Int → Int → Int → Int → Int → Int → Int → Int → Option (Bool)
  | 0, _, _, _, _, _, _, _, _, _, _, _ => none
  | k + 1, x5, x7, x36, x421000, x421001, x421002, x421003, x422000, x422001, x422002, x422003 => if x36 = true then (some true) else ((cover_Of.f k (mn x421000 x422000) (mn x421001 x422001) (mx x421002 x422002) (mx x421003 x422003)).bind fun bt433 => ((cover_Union.f k x5 x7).bind fun bt437 => ((cover_Less.f k bt437.1 bt433.1).bind fun bt441 => ((cover_Common.f k bt437.1 bt433.1).bind fun bt445 => ((furlonglaw0_Num.f bt433.2).bind fun t449 => (if t449 = 0 then ((furlonglaw0_Num.f bt437.2).bind fun t450 => (if t450 = 0 then ((furlonglaw0_Num.f bt441.2).bind fun t451 => (if t451 = 0 then (if (bt441.1.length : Int) = 0 then ((furlonglaw0_Num.f bt445.2).bind fun t452 => (if t452 = 0 then ((furlonglaw0_SameRanges.f k bt445.1 bt437.1).bind fun t453 => (some t453)) else (none))) else (none)) else (none))) else (none))) else (none)))))))
def furlonglaw6_CoverGrows.f (k : Nat) (a0_0 : Int) (a0_1 : Int) (a0_2 : Int) (a0_3 : Int) (a1_0 : Int) (a1_1 : Int) (a1_2 : Int) (a1_3 : Int) : Option (Bool) := (furlonglaw6_awake.f k).bind fun t422 => (if t422 = true then ((cover_Of.f k a0_0 a0_1 a0_2 a0_3).bind fun bt423 => ((cover_Of.f k a1_0 a1_1 a1_2 a1_3).bind fun bt427 => ((furlonglaw0_Num.f bt423.2).bind fun t431 => (if t431 = 0 then ((furlonglaw0_Num.f bt427.2).bind fun t432 => (furlonglaw6_CoverGrows.j0 k bt423.1 bt427.1 (t432 != 0) a0_0 a0_1 a0_2 a0_3 a1_0 a1_1 a1_2 a1_3)) else (furlonglaw6_CoverGrows.j0 k bt423.1 bt427.1 true a0_0 a0_1 a0_2 a0_3 a1_0 a1_1 a1_2 a1_3))))) else (none))
theorem furlonglaw6_CoverGrows.mono_l : ∀ k, (∀ y0 y1 y2 y3 y4 y5 y6 y7 y8 y9 y10, LeO (furlonglaw6_CoverGrows.j0 k y0 y1 y2 y3 y4 y5 y6 y7 y8 y9 y10) (furlonglaw6_CoverGrows.j0 (k + 1) y0 y1 y2 y3 y4 y5 y6 y7 y8 y9 y10))
  | 0 => fun _ _ _ _ _ _ _ _ _ _ _ r h => by simp [furlonglaw6_CoverGrows.j0] at h
  | k + 1 => by
    have ih0 := furlonglaw6_CoverGrows.mono_l k
    · intro y0 y1 y2 y3 y4 y5 y6 y7 y8 y9 y10
      unfold furlonglaw6_CoverGrows.j0
      repeat' first
      | (with_reducible exact ih0 _ _ _ _ _ _ _ _ _ _ _)
      | (with_reducible exact cover_Common.mono _ _ _)
      | (with_reducible exact cover_Less.mono _ _ _)
      | (with_reducible exact cover_Of.mono _ _ _ _ _)
      | (with_reducible exact cover_Union.mono _ _ _)
      | (with_reducible exact furlonglaw0_SameRanges.mono _ _ _)
      | (with_reducible exact furlonglaw6_awake.mono _)
      | (with_reducible exact LeO.refl _)
      | (with_reducible exact LeO.none _)
      | (with_reducible refine LeO.ite ?_ ?_)
      | (with_reducible refine LeO.bind ?_ (fun _ => ?_))
      | exact ih0 _ _ _ _ _ _ _ _ _ _ _
      | exact cover_Common.mono _ _ _
      | exact cover_Less.mono _ _ _
      | exact cover_Of.mono _ _ _ _ _
      | exact cover_Union.mono _ _ _
      | exact furlonglaw0_SameRanges.mono _ _ _
      | exact furlonglaw6_awake.mono _
      | exact LeO.none _
      | refine LeO.ite ?_ ?_
      | refine LeO.bind ?_ (fun _ => ?_)
theorem furlonglaw6_CoverGrows.mono : ∀ a0 a1 a2 a3 a4 a5 a6 a7 k, LeO (furlonglaw6_CoverGrows.f k a0 a1 a2 a3 a4 a5 a6 a7) (furlonglaw6_CoverGrows.f (k + 1) a0 a1 a2 a3 a4 a5 a6 a7) := by
  intro a0 a1 a2 a3 a4 a5 a6 a7 k
  have ih0 := furlonglaw6_CoverGrows.mono_l k
  unfold furlonglaw6_CoverGrows.f
  repeat' first
      | (with_reducible exact ih0 _ _ _ _ _ _ _ _ _ _ _)
      | (with_reducible exact cover_Common.mono _ _ _)
      | (with_reducible exact cover_Less.mono _ _ _)
      | (with_reducible exact cover_Of.mono _ _ _ _ _)
      | (with_reducible exact cover_Union.mono _ _ _)
      | (with_reducible exact furlonglaw0_SameRanges.mono _ _ _)
      | (with_reducible exact furlonglaw6_awake.mono _)
      | (with_reducible exact LeO.refl _)
      | (with_reducible exact LeO.none _)
      | (with_reducible refine LeO.ite ?_ ?_)
      | (with_reducible refine LeO.bind ?_ (fun _ => ?_))
      | exact ih0 _ _ _ _ _ _ _ _ _ _ _
      | exact cover_Common.mono _ _ _
      | exact cover_Less.mono _ _ _
      | exact cover_Of.mono _ _ _ _ _
      | exact cover_Union.mono _ _ _
      | exact furlonglaw0_SameRanges.mono _ _ _
      | exact furlonglaw6_awake.mono _
      | exact LeO.none _
      | refine LeO.ite ?_ ?_
      | refine LeO.bind ?_ (fun _ => ?_)
set_option maxHeartbeats 8000000 in
set_option maxRecDepth 100000 in
theorem furlonglaw6_CoverGrows.calls (k : Nat) (a0_0 : Int) (a0_1 : Int) (a0_2 : Int) (a0_3 : Int) (a1_0 : Int) (a1_1 : Int) (a1_2 : Int) (a1_3 : Int) (r : Bool) (w : World) (h : furlonglaw6_CoverGrows.f k a0_0 a0_1 a0_2 a0_3 a1_0 a1_1 a1_2 a1_3 = some r) :
    Calls Try.prog 6 #[.agg #[.int .i64 a0_0, .int .i64 a0_1, .int .i64 a0_2, .int .i64 a0_3], .agg #[.int .i64 a1_0, .int .i64 a1_1, .int .i64 a1_2, .int .i64 a1_3]] w fun e w' => e = .returned (.bool r) ∧ Below w.heap.size w w' := by
  have hu23 := Try.underlying23
  have HB := Aside0.mk (Below.refl w.heap.size w)
  have H : ((furlonglaw6_awake.f k).bind fun t422 => (if t422 = true then ((cover_Of.f k a0_0 a0_1 a0_2 a0_3).bind fun bt423 => ((cover_Of.f k a1_0 a1_1 a1_2 a1_3).bind fun bt427 => ((furlonglaw0_Num.f bt423.2).bind fun t431 => (if t431 = 0 then ((furlonglaw0_Num.f bt427.2).bind fun t432 => (furlonglaw6_CoverGrows.j0 k bt423.1 bt427.1 (t432 != 0) a0_0 a0_1 a0_2 a0_3 a1_0 a1_1 a1_2 a1_3)) else (furlonglaw6_CoverGrows.j0 k bt423.1 bt427.1 true a0_0 a0_1 a0_2 a0_3 a1_0 a1_1 a1_2 a1_3))))) else (none))) = some r := h
  clear h
  replace H := Option.bind_eq_some_iff.mp H
  obtain ⟨t422, A30, H⟩ := H
  replace H : (if t422 = true then ((cover_Of.f k a0_0 a0_1 a0_2 a0_3).bind fun bt423 => ((cover_Of.f k a1_0 a1_1 a1_2 a1_3).bind fun bt427 => ((furlonglaw0_Num.f bt423.2).bind fun t431 => (if t431 = 0 then ((furlonglaw0_Num.f bt427.2).bind fun t432 => (furlonglaw6_CoverGrows.j0 k bt423.1 bt427.1 (t432 != 0) a0_0 a0_1 a0_2 a0_3 a1_0 a1_1 a1_2 a1_3)) else (furlonglaw6_CoverGrows.j0 k bt423.1 bt427.1 true a0_0 a0_1 a0_2 a0_3 a1_0 a1_1 a1_2 a1_3))))) else (none)) = some r := H
  have A3 := Aside0.mk A30
  clear A30
  by_cases c4 : t422 = true
  · subst c4
    have H1 : ((cover_Of.f k a0_0 a0_1 a0_2 a0_3).bind fun bt423 => ((cover_Of.f k a1_0 a1_1 a1_2 a1_3).bind fun bt427 => ((furlonglaw0_Num.f bt423.2).bind fun t431 => (if t431 = 0 then ((furlonglaw0_Num.f bt427.2).bind fun t432 => (furlonglaw6_CoverGrows.j0 k bt423.1 bt427.1 (t432 != 0) a0_0 a0_1 a0_2 a0_3 a1_0 a1_1 a1_2 a1_3)) else (furlonglaw6_CoverGrows.j0 k bt423.1 bt427.1 true a0_0 a0_1 a0_2 a0_3 a1_0 a1_1 a1_2 a1_3))))) = some r := by rw [if_pos rfl] at H; exact H
    clear H
    have H := H1
    clear H1
    replace H := Option.bind_eq_some_iff.mp H
    obtain ⟨⟨t423, t426⟩, A50, H⟩ := H
    replace H : ((cover_Of.f k a1_0 a1_1 a1_2 a1_3).bind fun bt427 => ((furlonglaw0_Num.f t426).bind fun t431 => (if t431 = 0 then ((furlonglaw0_Num.f bt427.2).bind fun t432 => (furlonglaw6_CoverGrows.j0 k t423 bt427.1 (t432 != 0) a0_0 a0_1 a0_2 a0_3 a1_0 a1_1 a1_2 a1_3)) else (furlonglaw6_CoverGrows.j0 k t423 bt427.1 true a0_0 a0_1 a0_2 a0_3 a1_0 a1_1 a1_2 a1_3)))) = some r := H
    have A5 := Aside0.mk A50
    clear A50
    replace H := Option.bind_eq_some_iff.mp H
    obtain ⟨⟨t427, t430⟩, A60, H⟩ := H
    replace H : ((furlonglaw0_Num.f t426).bind fun t431 => (if t431 = 0 then ((furlonglaw0_Num.f t430).bind fun t432 => (furlonglaw6_CoverGrows.j0 k t423 t427 (t432 != 0) a0_0 a0_1 a0_2 a0_3 a1_0 a1_1 a1_2 a1_3)) else (furlonglaw6_CoverGrows.j0 k t423 t427 true a0_0 a0_1 a0_2 a0_3 a1_0 a1_1 a1_2 a1_3))) = some r := H
    have A6 := Aside0.mk A60
    clear A60
    have HC7 := Aside0.mk H
    clear H
    go_enter Try.func6, Try.ntmps6
    go_upto_region 5 with (first | ((with_reducible refine gate_dst (N := 2) rfl ?_); (try (refine gate_guard (by rfl) ?_; dsimp only)); refine box_event ?hg (N := 2) ?hd (cs := #[.int .i64 a0_0, .int .i64 a0_1, .int .i64 a0_2, .int .i64 a0_3]) (t := 23) ?hr ?_; (case hd => rfl); (case hg => rfl); (case hr => first | (go_simp; done) | (go_simp; rfl)); intro gb420 hg w8 hbox hb; have n0_ := Aside0.mk (below_step (by repeat (first | (with_reducible first | exact HB.out | apply below_alloc | apply pw_below_drewN | apply below_drew1) | exact HB.out)) hb); have n1_ := Aside0.mk (hbox); have n2_ := Aside0.mk ((by rw [hg]; exact (below_size (by repeat (first | (with_reducible first | exact HB.out | apply below_alloc | apply pw_below_drewN | apply below_drew1) | exact HB.out))) : w.heap.size ≤ gb420)); have n3_ := Aside0.mk ((by rw [hg]; exact (below_size (by repeat (first | (with_reducible first | exact HB.out | apply below_alloc | apply pw_below_drewN | apply below_drew1) | exact HB.out))) : w.heap.size ≤ gb420)); clear HB; have HB := n0_; have BK420 := n1_; have GW420 := n2_; have GE420 := n3_; clear n0_ n1_ n2_ n3_; clear hb hbox hg) | ((with_reducible refine gate_dst (N := 3) rfl ?_); (try (refine gate_guard (by rfl) ?_; dsimp only)); refine box_event ?hg (N := 3) ?hd (cs := #[.int .i64 a1_0, .int .i64 a1_1, .int .i64 a1_2, .int .i64 a1_3]) (t := 23) ?hr ?_; (case hd => rfl); (case hg => rfl); (case hr => first | (go_simp; done) | (go_simp; rfl)); intro gb421 hg w9 hbox hb; have n0_ := Aside0.mk (blk_below (g := gb420) (o := .cells #[.int .i64 a0_0, .int .i64 a0_1, .int .i64 a0_2, .int .i64 a0_3] 23 (0, 0)) (by (with_reducible repeat (first | refine blk_drewN ?_ _ | refine blk_drew ?_ | refine blk_alloc ?_ _)); exact BK420.out) hb); have n1_ := Aside0.mk (below_step (by repeat (first | (with_reducible first | exact HB.out | apply below_alloc | apply pw_below_drewN | apply below_drew1 | refine below_set ?_ GE420.out) | exact HB.out)) hb); have n2_ := Aside0.mk (hbox); have n3_ := Aside0.mk ((by rw [hg]; exact (below_size (by repeat (first | (with_reducible first | exact HB.out | apply below_alloc | apply pw_below_drewN | apply below_drew1 | refine below_set ?_ GE420.out) | exact HB.out))) : w.heap.size ≤ gb421)); have n4_ := Aside0.mk ((by rw [hg]; exact (below_size (by repeat (first | (with_reducible first | exact HB.out | apply below_alloc | apply pw_below_drewN | apply below_drew1 | refine below_set ?_ GE420.out) | exact HB.out))) : w.heap.size ≤ gb421)); have n5_ := Aside0.mk ((by rw [hg]; exact Nat.ne_of_lt (blk_lt (g := gb420) (o := .cells #[.int .i64 a0_0, .int .i64 a0_1, .int .i64 a0_2, .int .i64 a0_3] 23 (0, 0)) (by (with_reducible repeat (first | refine blk_drewN ?_ _ | refine blk_drew ?_ | refine blk_alloc ?_ _)); exact BK420.out)) : gb420 ≠ gb421)); have n6_ := Aside0.mk ((by rw [hg]; exact Nat.ne_of_gt (blk_lt (g := gb420) (o := .cells #[.int .i64 a0_0, .int .i64 a0_1, .int .i64 a0_2, .int .i64 a0_3] 23 (0, 0)) (by (with_reducible repeat (first | refine blk_drewN ?_ _ | refine blk_drew ?_ | refine blk_alloc ?_ _)); exact BK420.out)) : gb421 ≠ gb420)); clear BK420; clear HB; have BK420 := n0_; have HB := n1_; have BK421 := n2_; have GW421 := n3_; have GE421 := n4_; have NB420_421 := n5_; have NB421_420 := n6_; clear n0_ n1_ n2_ n3_ n4_ n5_ n6_; clear hb hbox hg) | ((with_reducible refine gate_callee (f := 21) rfl ?_); refine goesL_ (some 17) rfl rfl Try.func21 (by kernel_rfl) rfl #[] rfl (by (try simp only [List.map_toArray, List.map_cons, List.map_nil]); first | done | rfl | (simp only [List.length_drop, List.length_take]; rfl)) ?_; (with_reducible refine (furlonglaw6_awake.calls k  true _ A3.out).mono ?_); rintro e w10 ⟨rfl, hb⟩; refine ⟨_, rfl, ?_⟩; have n0_ := Aside0.mk (blk_below (g := gb420) (o := .cells #[.int .i64 a0_0, .int .i64 a0_1, .int .i64 a0_2, .int .i64 a0_3] 23 (0, 0)) (by (with_reducible repeat (first | refine blk_drewN ?_ _ | refine blk_drew ?_ | refine blk_alloc ?_ _)); exact BK420.out) hb); have n1_ := Aside0.mk (blk_below (g := gb421) (o := .cells #[.int .i64 a1_0, .int .i64 a1_1, .int .i64 a1_2, .int .i64 a1_3] 23 (0, 0)) (by (with_reducible repeat (first | refine blk_drewN ?_ _ | refine blk_drew ?_ | refine blk_alloc ?_ _)); exact BK421.out) hb); have n2_ := Aside0.mk (below_step (by repeat (first | (with_reducible first | exact HB.out | apply below_alloc | apply pw_below_drewN | apply below_drew1 | refine below_set ?_ GE420.out | refine below_set ?_ GE421.out) | exact HB.out)) hb); clear BK420; clear BK421; clear HB; have BK420 := n0_; have BK421 := n1_; have HB := n2_; clear n0_ n1_ n2_; (try clear hb); (try clear hb2); (try clear hk); (try clear hi); have hnb11 := NB420_421.out; have hnc11 := NB421_420.out; have hcz12_0 : w10.cell? ⟨gb420, 0, none⟩ = some (.int .i64 a0_0) := (blk_cell BK420.out 0).trans rfl; have hcz12_1 : w10.cell? ⟨gb420, 1, none⟩ = some (.int .i64 a0_1) := (blk_cell BK420.out 1).trans rfl; have hcz12_2 : w10.cell? ⟨gb420, 2, none⟩ = some (.int .i64 a0_2) := (blk_cell BK420.out 2).trans rfl; have hcz12_3 : w10.cell? ⟨gb420, 3, none⟩ = some (.int .i64 a0_3) := (blk_cell BK420.out 3).trans rfl; have hfz12_0 := blk_frozen BK420.out 0; have hfz12_1 := blk_frozen BK420.out 1; have hfz12_2 := blk_frozen BK420.out 2; have hfz12_3 := blk_frozen BK420.out 3) | ((with_reducible refine gate_callee (f := 8) rfl ?_); refine goesL_ (some 21) rfl rfl Try.func8 (by kernel_rfl) rfl #[.agg #[.int .i64 a0_0, .int .i64 a0_1, .int .i64 a0_2, .int .i64 a0_3]] rfl (by (try simp only [List.map_toArray, List.map_cons, List.map_nil]); first | done | rfl | (simp only [List.length_drop, List.length_take]; rfl)) ?_; (with_reducible refine (cover_Of.calls k a0_0 a0_1 a0_2 a0_3 t423 t426 _ A5.out).mono ?_); rintro e w13 ⟨v424, rfl, ho0, hb⟩; refine ⟨_, rfl, ?_⟩; have n0_ := Aside0.mk (Kd.R_lower ho0 (below_size (by repeat (first | (with_reducible first | exact HB.out | apply below_alloc | apply pw_below_drewN | apply below_drew1 | refine below_set ?_ GE420.out | refine below_set ?_ GE421.out) | exact HB.out)))); have n1_ := Aside0.mk (blk_below (g := gb420) (o := .cells #[.int .i64 a0_0, .int .i64 a0_1, .int .i64 a0_2, .int .i64 a0_3] 23 (0, 0)) (by (with_reducible repeat (first | refine blk_drewN ?_ _ | refine blk_drew ?_ | refine blk_alloc ?_ _)); exact BK420.out) hb); have n2_ := Aside0.mk (blk_below (g := gb421) (o := .cells #[.int .i64 a1_0, .int .i64 a1_1, .int .i64 a1_2, .int .i64 a1_3] 23 (0, 0)) (by (with_reducible repeat (first | refine blk_drewN ?_ _ | refine blk_drew ?_ | refine blk_alloc ?_ _)); exact BK421.out) hb); have n3_ := Aside0.mk (below_step (by repeat (first | (with_reducible first | exact HB.out | apply below_alloc | apply pw_below_drewN | apply below_drew1 | refine below_set ?_ GE420.out | refine below_set ?_ GE421.out) | exact HB.out)) hb); clear BK420; clear BK421; clear HB; have HO425 := n0_; have BK420 := n1_; have BK421 := n2_; have HB := n3_; clear n0_ n1_ n2_ n3_; (try clear hb); (try clear hb2); (try clear hk); (try clear hi); (try clear ho0); have hcz14_0 : w13.cell? ⟨gb421, 0, none⟩ = some (.int .i64 a1_0) := (blk_cell BK421.out 0).trans rfl; have hcz14_1 : w13.cell? ⟨gb421, 1, none⟩ = some (.int .i64 a1_1) := (blk_cell BK421.out 1).trans rfl; have hcz14_2 : w13.cell? ⟨gb421, 2, none⟩ = some (.int .i64 a1_2) := (blk_cell BK421.out 2).trans rfl; have hcz14_3 : w13.cell? ⟨gb421, 3, none⟩ = some (.int .i64 a1_3) := (blk_cell BK421.out 3).trans rfl; have hfz14_0 := blk_frozen BK421.out 0; have hfz14_1 := blk_frozen BK421.out 1; have hfz14_2 := blk_frozen BK421.out 2; have hfz14_3 := blk_frozen BK421.out 3) | ((with_reducible refine gate_callee (f := 8) rfl ?_); refine goesL_ (some 26) rfl rfl Try.func8 (by kernel_rfl) rfl #[.agg #[.int .i64 a1_0, .int .i64 a1_1, .int .i64 a1_2, .int .i64 a1_3]] rfl (by (try simp only [List.map_toArray, List.map_cons, List.map_nil]); first | done | rfl | (simp only [List.length_drop, List.length_take]; rfl)) ?_; (with_reducible refine (cover_Of.calls k a1_0 a1_1 a1_2 a1_3 t427 t430 _ A6.out).mono ?_); rintro e w15 ⟨v428, rfl, ho0, hb⟩; refine ⟨_, rfl, ?_⟩; have n0_ := Aside0.mk (Kd.R_elder' (by (with_reducible repeat (first | apply Kd.R_alloc | apply Kd.R_drewN | apply Kd.R_drew)); exact HO425.out) (Kd.R_base ho0) hb); have n1_ := Aside0.mk (Kd.R_lower (Kd.R_new' ho0 (Kd.R_lt (by (with_reducible repeat (first | apply Kd.R_alloc | apply Kd.R_drewN | apply Kd.R_drew)); exact HO425.out))) (below_size (by repeat (first | (with_reducible first | exact HB.out | apply below_alloc | apply pw_below_drewN | apply below_drew1 | refine below_set ?_ GE420.out | refine below_set ?_ GE421.out) | exact HB.out)))); have n2_ := Aside0.mk (blk_below (g := gb420) (o := .cells #[.int .i64 a0_0, .int .i64 a0_1, .int .i64 a0_2, .int .i64 a0_3] 23 (0, 0)) (by (with_reducible repeat (first | refine blk_drewN ?_ _ | refine blk_drew ?_ | refine blk_alloc ?_ _)); exact BK420.out) hb); have n3_ := Aside0.mk (blk_below (g := gb421) (o := .cells #[.int .i64 a1_0, .int .i64 a1_1, .int .i64 a1_2, .int .i64 a1_3] 23 (0, 0)) (by (with_reducible repeat (first | refine blk_drewN ?_ _ | refine blk_drew ?_ | refine blk_alloc ?_ _)); exact BK421.out) hb); have n4_ := Aside0.mk (below_step (by repeat (first | (with_reducible first | exact HB.out | apply below_alloc | apply pw_below_drewN | apply below_drew1 | refine below_set ?_ GE420.out | refine below_set ?_ GE421.out) | exact HB.out)) hb); clear HO425; clear BK420; clear BK421; clear HB; have HO425 := n0_; have HO429 := n1_; have BK420 := n2_; have BK421 := n3_; have HB := n4_; clear n0_ n1_ n2_ n3_ n4_; (try clear hb); (try clear hb2); (try clear hk); (try clear hi); (try clear ho0)))
    (try simp only [Act.put, List.setIfInBounds_toArray, List.set_cons_zero, List.set_cons_succ])
    go_cut [36] (fun v36 wc => ∃ (kq : Nat) (x36_6 : Bool), v36 = .bool x36_6 ∧ Aside0 (furlonglaw6_CoverGrows.j0 kq t423 t427 x36_6 a0_0 a0_1 a0_2 a0_3 a1_0 a1_1 a1_2 a1_3 = some r) ∧ Aside0 (kq ≤ k) ∧ Aside0 (Kd.R k41 41 wc w.heap.size (fun k_ => some k_ ≠ (v428 : Value).ownBlock) v424 t423) ∧ Aside0 (Kd.R k41 41 wc w.heap.size (fun k_ => some k_ ≠ (v424 : Value).ownBlock) v428 t427) ∧ Aside0 (wc.heap[gb420]? = some (.cells #[.int .i64 a0_0, .int .i64 a0_1, .int .i64 a0_2, .int .i64 a0_3] 23 (0, 0))) ∧ Aside0 (wc.heap[gb421]? = some (.cells #[.int .i64 a1_0, .int .i64 a1_1, .int .i64 a1_2, .int .i64 a1_3] 23 (0, 0))) ∧ Aside0 (Below w.heap.size w wc))
    case first =>
      have H := HC7.out
      clear HC7
      replace H := Option.bind_eq_some_iff.mp H
      obtain ⟨t431, A160, H⟩ := H
      replace H : (if t431 = 0 then ((furlonglaw0_Num.f t430).bind fun t432 => (furlonglaw6_CoverGrows.j0 k t423 t427 (t432 != 0) a0_0 a0_1 a0_2 a0_3 a1_0 a1_1 a1_2 a1_3)) else (furlonglaw6_CoverGrows.j0 k t423 t427 true a0_0 a0_1 a0_2 a0_3 a1_0 a1_1 a1_2 a1_3)) = some r := H
      have A16 := Aside0.mk A160
      clear A160
      by_cases c17 : t431 = 0
      · rw [if_pos c17] at H
        have c17b0 : (t431 == 0) = true := beq_iff_eq.mpr c17
        have c17b1 : (t431 != 0) = false := bne_eq_false_iff_eq.mpr c17
        clear c17
        (first | rw [c17b0] | (simp only [i64_w, i32_w]; rw [c17b0]) | skip)
        replace H := Option.bind_eq_some_iff.mp H
        obtain ⟨t432, A180, H⟩ := H
        replace H : (furlonglaw6_CoverGrows.j0 k t423 t427 (t432 != 0) a0_0 a0_1 a0_2 a0_3 a1_0 a1_1 a1_2 a1_3) = some r := H
        have A18 := Aside0.mk A180
        clear A180
        have H' := Aside0.mk H
        clear H
        go_wp2_with (first | ((with_reducible refine gate_callee (f := 11) rfl ?_); refine goesL_ (some 30) rfl rfl Try.func11 (by kernel_rfl) rfl #[.int .i64 t426] rfl (by (try simp only [List.map_toArray, List.map_cons, List.map_nil]); first | done | rfl | (simp only [List.length_drop, List.length_take]; rfl)) ?_; (with_reducible refine (furlonglaw0_Num.calls t426 t431 _ A16.out).mono ?_); rintro e w' ⟨rfl, ⟨nd, rfl⟩⟩; refine ⟨_, rfl, ?_⟩) | (go_at_call 11; (with_reducible refine (furlonglaw0_Num.calls t430 t432 _ A18.out).mono ?_); rintro e w' ⟨rfl, ⟨nd, rfl⟩⟩))
        go_meet
        case rel => exact ⟨_, ((t432 != 0)), (by first | rfl | (simp; done) | (simp [*]; done)), H', ⟨by first | omega | exact Nat.le_refl _⟩, ⟨by (with_reducible repeat (first | apply Kd.R_alloc | apply Kd.R_drewN | apply Kd.R_drew)); exact Kd.R_mono HO425.out (fun _ hk => hk.2)⟩, ⟨by (with_reducible repeat (first | apply Kd.R_alloc | apply Kd.R_drewN | apply Kd.R_drew)); exact Kd.R_mono HO429.out (fun _ hk => hk.2)⟩, ⟨by (with_reducible repeat (first | refine blk_drewN ?_ _ | refine blk_drew ?_ | refine blk_alloc ?_ _)); exact BK420.out⟩, ⟨by (with_reducible repeat (first | refine blk_drewN ?_ _ | refine blk_drew ?_ | refine blk_alloc ?_ _)); exact BK421.out⟩, ⟨by repeat (first | (with_reducible first | exact HB.out | apply below_alloc | apply pw_below_drewN | apply below_drew1 | refine below_set ?_ GE420.out | refine below_set ?_ GE421.out) | exact HB.out)⟩⟩
      · rw [if_neg c17] at H
        have c17b0 : (t431 == 0) = false := beq_eq_false_iff_ne.mpr c17
        have c17b1 : (t431 != 0) = true := bne_iff_ne.mpr c17
        (first | rw [c17b0] | (simp only [i64_w, i32_w]; rw [c17b0]) | skip)
        have H' := Aside0.mk H
        clear H
        go_wp2_with (first | ((with_reducible refine gate_callee (f := 11) rfl ?_); refine goesL_ (some 30) rfl rfl Try.func11 (by kernel_rfl) rfl #[.int .i64 t426] rfl (by (try simp only [List.map_toArray, List.map_cons, List.map_nil]); first | done | rfl | (simp only [List.length_drop, List.length_take]; rfl)) ?_; (with_reducible refine (furlonglaw0_Num.calls t426 t431 _ A16.out).mono ?_); rintro e w' ⟨rfl, ⟨nd, rfl⟩⟩; refine ⟨_, rfl, ?_⟩))
        go_meet
        case rel => exact ⟨_, (true), (by first | rfl | (simp; done) | (simp [*]; done)), H', ⟨by first | omega | exact Nat.le_refl _⟩, ⟨by (with_reducible repeat (first | apply Kd.R_alloc | apply Kd.R_drewN | apply Kd.R_drew)); exact Kd.R_mono HO425.out (fun _ hk => hk.2)⟩, ⟨by (with_reducible repeat (first | apply Kd.R_alloc | apply Kd.R_drewN | apply Kd.R_drew)); exact Kd.R_mono HO429.out (fun _ hk => hk.2)⟩, ⟨by (with_reducible repeat (first | refine blk_drewN ?_ _ | refine blk_drew ?_ | refine blk_alloc ?_ _)); exact BK420.out⟩, ⟨by (with_reducible repeat (first | refine blk_drewN ?_ _ | refine blk_drew ?_ | refine blk_alloc ?_ _)); exact BK421.out⟩, ⟨by repeat (first | (with_reducible first | exact HB.out | apply below_alloc | apply pw_below_drewN | apply below_drew1 | refine below_set ?_ GE420.out | refine below_set ?_ GE421.out) | exact HB.out)⟩⟩
    case rest =>
      clear HC7
      try clear c1
      try clear c2
      try clear p2
      try clear c4
      try clear c6
      try clear c8
      try clear c11
      try clear c17
      try clear c17b0
      try clear c17b1
      try clear hcz12_0
      try clear hcz12_1
      try clear hcz12_2
      try clear hcz12_3
      try clear hcz14_0
      try clear hcz14_1
      try clear hcz14_2
      try clear hcz14_3
      try clear hfz12_0
      try clear hfz12_1
      try clear hfz12_2
      try clear hfz12_3
      try clear hfz14_0
      try clear hfz14_1
      try clear hfz14_2
      try clear hfz14_3
      obtain ⟨kq, x36_6, rfl, HA, HJ6, HO_5, HO_7, BK420, BK421, HB⟩ := hcut
      cases kq with
      | zero => exact absurd HA.out (by simp [furlonglaw6_CoverGrows.j0])
      | succ kj6 =>
        have H := HA.out
        clear HA
        simp only [furlonglaw6_CoverGrows.j0] at H
        by_cases c19 : x36_6 = true
        · subst c19
          have H1 : (some true) = some r := by rw [if_pos rfl] at H; exact H
          clear H
          have H := H1
          clear H1
          obtain rfl := Option.some.inj H
          go_wp2
          go_ret
          exact ⟨by first | rfl | (simp [errW_none, errW_some] <;> rfl) | (simp [*, errW_none, errW_some] <;> rfl), by repeat (first | (with_reducible first | exact HB.out | apply below_alloc | apply pw_below_drewN | apply below_drew1 | refine below_set ?_ GE420.out | refine below_set ?_ GE421.out) | exact HB.out)⟩
        · replace c19 := Bool.eq_false_iff.mpr c19
          subst c19
          have H1 : ((cover_Of.f kj6 (mn a0_0 a1_0) (mn a0_1 a1_1) (mx a0_2 a1_2) (mx a0_3 a1_3)).bind fun bt433 => ((cover_Union.f kj6 t423 t427).bind fun bt437 => ((cover_Less.f kj6 bt437.1 bt433.1).bind fun bt441 => ((cover_Common.f kj6 bt437.1 bt433.1).bind fun bt445 => ((furlonglaw0_Num.f bt433.2).bind fun t449 => (if t449 = 0 then ((furlonglaw0_Num.f bt437.2).bind fun t450 => (if t450 = 0 then ((furlonglaw0_Num.f bt441.2).bind fun t451 => (if t451 = 0 then (if (bt441.1.length : Int) = 0 then ((furlonglaw0_Num.f bt445.2).bind fun t452 => (if t452 = 0 then ((furlonglaw0_SameRanges.f kj6 bt445.1 bt437.1).bind fun t453 => (some t453)) else (none))) else (none)) else (none))) else (none))) else (none))))))) = some r := by rw [if_neg (show ¬ (false = true) by decide)] at H; exact H
          clear H
          have H := H1
          clear H1
          obtain ⟨ji20, hji20⟩ : ∃ j_ : Int, (mn a0_0 a1_0) = j_ := ⟨_, rfl⟩
          replace H : ((cover_Of.f kj6 (ji20) (mn a0_1 a1_1) (mx a0_2 a1_2) (mx a0_3 a1_3)).bind fun bt433 => ((cover_Union.f kj6 t423 t427).bind fun bt437 => ((cover_Less.f kj6 bt437.1 bt433.1).bind fun bt441 => ((cover_Common.f kj6 bt437.1 bt433.1).bind fun bt445 => ((furlonglaw0_Num.f bt433.2).bind fun t449 => (if t449 = 0 then ((furlonglaw0_Num.f bt437.2).bind fun t450 => (if t450 = 0 then ((furlonglaw0_Num.f bt441.2).bind fun t451 => (if t451 = 0 then (if (bt441.1.length : Int) = 0 then ((furlonglaw0_Num.f bt445.2).bind fun t452 => (if t452 = 0 then ((furlonglaw0_SameRanges.f kj6 bt445.1 bt437.1).bind fun t453 => (some t453)) else (none))) else (none)) else (none))) else (none))) else (none))))))) = some r := by first | (rw [hji20] at H; exact H) | (simp only [hji20] at H ⊢; exact H)
          have hji20_ : (if a1_0 < a0_0 then a1_0 else a0_0) = ji20 := hji20
          obtain ⟨ji21, hji21⟩ : ∃ j_ : Int, (mn a0_1 a1_1) = j_ := ⟨_, rfl⟩
          replace H : ((cover_Of.f kj6 (ji20) (ji21) (mx a0_2 a1_2) (mx a0_3 a1_3)).bind fun bt433 => ((cover_Union.f kj6 t423 t427).bind fun bt437 => ((cover_Less.f kj6 bt437.1 bt433.1).bind fun bt441 => ((cover_Common.f kj6 bt437.1 bt433.1).bind fun bt445 => ((furlonglaw0_Num.f bt433.2).bind fun t449 => (if t449 = 0 then ((furlonglaw0_Num.f bt437.2).bind fun t450 => (if t450 = 0 then ((furlonglaw0_Num.f bt441.2).bind fun t451 => (if t451 = 0 then (if (bt441.1.length : Int) = 0 then ((furlonglaw0_Num.f bt445.2).bind fun t452 => (if t452 = 0 then ((furlonglaw0_SameRanges.f kj6 bt445.1 bt437.1).bind fun t453 => (some t453)) else (none))) else (none)) else (none))) else (none))) else (none))))))) = some r := by first | (rw [hji21] at H; exact H) | (simp only [hji21] at H ⊢; exact H)
          have hji21_ : (if a1_1 < a0_1 then a1_1 else a0_1) = ji21 := hji21
          obtain ⟨ji22, hji22⟩ : ∃ j_ : Int, (mx a0_2 a1_2) = j_ := ⟨_, rfl⟩
          replace H : ((cover_Of.f kj6 (ji20) (ji21) (ji22) (mx a0_3 a1_3)).bind fun bt433 => ((cover_Union.f kj6 t423 t427).bind fun bt437 => ((cover_Less.f kj6 bt437.1 bt433.1).bind fun bt441 => ((cover_Common.f kj6 bt437.1 bt433.1).bind fun bt445 => ((furlonglaw0_Num.f bt433.2).bind fun t449 => (if t449 = 0 then ((furlonglaw0_Num.f bt437.2).bind fun t450 => (if t450 = 0 then ((furlonglaw0_Num.f bt441.2).bind fun t451 => (if t451 = 0 then (if (bt441.1.length : Int) = 0 then ((furlonglaw0_Num.f bt445.2).bind fun t452 => (if t452 = 0 then ((furlonglaw0_SameRanges.f kj6 bt445.1 bt437.1).bind fun t453 => (some t453)) else (none))) else (none)) else (none))) else (none))) else (none))))))) = some r := by first | (rw [hji22] at H; exact H) | (simp only [hji22] at H ⊢; exact H)
          have hji22_ : (if a0_2 < a1_2 then a1_2 else a0_2) = ji22 := hji22
          obtain ⟨ji23, hji23⟩ : ∃ j_ : Int, (mx a0_3 a1_3) = j_ := ⟨_, rfl⟩
          replace H : ((cover_Of.f kj6 (ji20) (ji21) (ji22) (ji23)).bind fun bt433 => ((cover_Union.f kj6 t423 t427).bind fun bt437 => ((cover_Less.f kj6 bt437.1 bt433.1).bind fun bt441 => ((cover_Common.f kj6 bt437.1 bt433.1).bind fun bt445 => ((furlonglaw0_Num.f bt433.2).bind fun t449 => (if t449 = 0 then ((furlonglaw0_Num.f bt437.2).bind fun t450 => (if t450 = 0 then ((furlonglaw0_Num.f bt441.2).bind fun t451 => (if t451 = 0 then (if (bt441.1.length : Int) = 0 then ((furlonglaw0_Num.f bt445.2).bind fun t452 => (if t452 = 0 then ((furlonglaw0_SameRanges.f kj6 bt445.1 bt437.1).bind fun t453 => (some t453)) else (none))) else (none)) else (none))) else (none))) else (none))))))) = some r := by first | (rw [hji23] at H; exact H) | (simp only [hji23] at H ⊢; exact H)
          have hji23_ : (if a0_3 < a1_3 then a1_3 else a0_3) = ji23 := hji23
          replace H := Option.bind_eq_some_iff.mp H
          obtain ⟨⟨t433, t436⟩, A240, H⟩ := H
          replace H : ((cover_Union.f kj6 t423 t427).bind fun bt437 => ((cover_Less.f kj6 bt437.1 t433).bind fun bt441 => ((cover_Common.f kj6 bt437.1 t433).bind fun bt445 => ((furlonglaw0_Num.f t436).bind fun t449 => (if t449 = 0 then ((furlonglaw0_Num.f bt437.2).bind fun t450 => (if t450 = 0 then ((furlonglaw0_Num.f bt441.2).bind fun t451 => (if t451 = 0 then (if (bt441.1.length : Int) = 0 then ((furlonglaw0_Num.f bt445.2).bind fun t452 => (if t452 = 0 then ((furlonglaw0_SameRanges.f kj6 bt445.1 bt437.1).bind fun t453 => (some t453)) else (none))) else (none)) else (none))) else (none))) else (none)))))) = some r := H
          have A24 := Aside0.mk A240
          clear A240
          replace H := Option.bind_eq_some_iff.mp H
          obtain ⟨⟨t437, t438⟩, A250, H⟩ := H
          replace H : ((cover_Less.f kj6 t437 t433).bind fun bt441 => ((cover_Common.f kj6 t437 t433).bind fun bt445 => ((furlonglaw0_Num.f t436).bind fun t449 => (if t449 = 0 then ((furlonglaw0_Num.f t438).bind fun t450 => (if t450 = 0 then ((furlonglaw0_Num.f bt441.2).bind fun t451 => (if t451 = 0 then (if (bt441.1.length : Int) = 0 then ((furlonglaw0_Num.f bt445.2).bind fun t452 => (if t452 = 0 then ((furlonglaw0_SameRanges.f kj6 bt445.1 t437).bind fun t453 => (some t453)) else (none))) else (none)) else (none))) else (none))) else (none))))) = some r := H
          have A25 := Aside0.mk A250
          clear A250
          replace H := Option.bind_eq_some_iff.mp H
          obtain ⟨⟨t441, t442⟩, A260, H⟩ := H
          replace H : ((cover_Common.f kj6 t437 t433).bind fun bt445 => ((furlonglaw0_Num.f t436).bind fun t449 => (if t449 = 0 then ((furlonglaw0_Num.f t438).bind fun t450 => (if t450 = 0 then ((furlonglaw0_Num.f t442).bind fun t451 => (if t451 = 0 then (if (t441.length : Int) = 0 then ((furlonglaw0_Num.f bt445.2).bind fun t452 => (if t452 = 0 then ((furlonglaw0_SameRanges.f kj6 bt445.1 t437).bind fun t453 => (some t453)) else (none))) else (none)) else (none))) else (none))) else (none)))) = some r := H
          have A26 := Aside0.mk A260
          clear A260
          replace H := Option.bind_eq_some_iff.mp H
          obtain ⟨⟨t445, t446⟩, A270, H⟩ := H
          replace H : ((furlonglaw0_Num.f t436).bind fun t449 => (if t449 = 0 then ((furlonglaw0_Num.f t438).bind fun t450 => (if t450 = 0 then ((furlonglaw0_Num.f t442).bind fun t451 => (if t451 = 0 then (if (t441.length : Int) = 0 then ((furlonglaw0_Num.f t446).bind fun t452 => (if t452 = 0 then ((furlonglaw0_SameRanges.f kj6 t445 t437).bind fun t453 => (some t453)) else (none))) else (none)) else (none))) else (none))) else (none))) = some r := H
          have A27 := Aside0.mk A270
          clear A270
          replace H := Option.bind_eq_some_iff.mp H
          obtain ⟨t449, A280, H⟩ := H
          replace H : (if t449 = 0 then ((furlonglaw0_Num.f t438).bind fun t450 => (if t450 = 0 then ((furlonglaw0_Num.f t442).bind fun t451 => (if t451 = 0 then (if (t441.length : Int) = 0 then ((furlonglaw0_Num.f t446).bind fun t452 => (if t452 = 0 then ((furlonglaw0_SameRanges.f kj6 t445 t437).bind fun t453 => (some t453)) else (none))) else (none)) else (none))) else (none))) else (none)) = some r := H
          have A28 := Aside0.mk A280
          clear A280
          by_cases c29 : t449 = 0
          · rw [if_pos c29] at H
            have c29b0 : (t449 == 0) = true := beq_iff_eq.mpr c29
            have c29b1 : (t449 != 0) = false := bne_eq_false_iff_eq.mpr c29
            clear c29
            replace H := Option.bind_eq_some_iff.mp H
            obtain ⟨t450, A300, H⟩ := H
            replace H : (if t450 = 0 then ((furlonglaw0_Num.f t442).bind fun t451 => (if t451 = 0 then (if (t441.length : Int) = 0 then ((furlonglaw0_Num.f t446).bind fun t452 => (if t452 = 0 then ((furlonglaw0_SameRanges.f kj6 t445 t437).bind fun t453 => (some t453)) else (none))) else (none)) else (none))) else (none)) = some r := H
            have A30 := Aside0.mk A300
            clear A300
            by_cases c31 : t450 = 0
            · rw [if_pos c31] at H
              have c31b0 : (t450 == 0) = true := beq_iff_eq.mpr c31
              have c31b1 : (t450 != 0) = false := bne_eq_false_iff_eq.mpr c31
              clear c31
              replace H := Option.bind_eq_some_iff.mp H
              obtain ⟨t451, A320, H⟩ := H
              replace H : (if t451 = 0 then (if (t441.length : Int) = 0 then ((furlonglaw0_Num.f t446).bind fun t452 => (if t452 = 0 then ((furlonglaw0_SameRanges.f kj6 t445 t437).bind fun t453 => (some t453)) else (none))) else (none)) else (none)) = some r := H
              have A32 := Aside0.mk A320
              clear A320
              by_cases c33 : t451 = 0
              · rw [if_pos c33] at H
                have c33b0 : (t451 == 0) = true := beq_iff_eq.mpr c33
                have c33b1 : (t451 != 0) = false := bne_eq_false_iff_eq.mpr c33
                clear c33
                by_cases c34 : (t441.length : Int) = 0
                · rw [if_pos c34] at H
                  have c34b0 : ((t441.length : Int) == 0) = true := beq_iff_eq.mpr c34
                  have c34b1 : ((t441.length : Int) != 0) = false := bne_eq_false_iff_eq.mpr c34
                  clear c34
                  replace H := Option.bind_eq_some_iff.mp H
                  obtain ⟨t452, A350, H⟩ := H
                  replace H : (if t452 = 0 then ((furlonglaw0_SameRanges.f kj6 t445 t437).bind fun t453 => (some t453)) else (none)) = some r := H
                  have A35 := Aside0.mk A350
                  clear A350
                  by_cases c36 : t452 = 0
                  · rw [if_pos c36] at H
                    have c36b0 : (t452 == 0) = true := beq_iff_eq.mpr c36
                    have c36b1 : (t452 != 0) = false := bne_eq_false_iff_eq.mpr c36
                    clear c36
                    replace H := Option.bind_eq_some_iff.mp H
                    obtain ⟨t453, A370, H⟩ := H
                    replace H : (some t453) = some r := H
                    have A37 := Aside0.mk A370
                    clear A370
                    obtain rfl := Option.some.inj H
                    have hnb38 := NB420_421.out
                    have hnc38 := NB421_420.out
                    have hcz39_0 : wc.cell? ⟨gb420, 0, none⟩ = some (.int .i64 a0_0) := (blk_cell BK420.out 0).trans rfl
                    have hcz39_1 : wc.cell? ⟨gb420, 1, none⟩ = some (.int .i64 a0_1) := (blk_cell BK420.out 1).trans rfl
                    have hcz39_2 : wc.cell? ⟨gb420, 2, none⟩ = some (.int .i64 a0_2) := (blk_cell BK420.out 2).trans rfl
                    have hcz39_3 : wc.cell? ⟨gb420, 3, none⟩ = some (.int .i64 a0_3) := (blk_cell BK420.out 3).trans rfl
                    have hfz39_0 := blk_frozen BK420.out 0
                    have hfz39_1 := blk_frozen BK420.out 1
                    have hfz39_2 := blk_frozen BK420.out 2
                    have hfz39_3 := blk_frozen BK420.out 3
                    have hcz40_0 : wc.cell? ⟨gb421, 0, none⟩ = some (.int .i64 a1_0) := (blk_cell BK421.out 0).trans rfl
                    have hcz40_1 : wc.cell? ⟨gb421, 1, none⟩ = some (.int .i64 a1_1) := (blk_cell BK421.out 1).trans rfl
                    have hcz40_2 : wc.cell? ⟨gb421, 2, none⟩ = some (.int .i64 a1_2) := (blk_cell BK421.out 2).trans rfl
                    have hcz40_3 : wc.cell? ⟨gb421, 3, none⟩ = some (.int .i64 a1_3) := (blk_cell BK421.out 3).trans rfl
                    have hfz40_0 := blk_frozen BK421.out 0
                    have hfz40_1 := blk_frozen BK421.out 1
                    have hfz40_2 := blk_frozen BK421.out 2
                    have hfz40_3 := blk_frozen BK421.out 3
                    go_wp2_with (first | ((with_reducible refine gate_callee (f := 8) rfl ?_); refine goesL_ (some 59) rfl rfl Try.func8 (by kernel_rfl) rfl #[.agg #[.int .i64 ji20, .int .i64 ji21, .int .i64 ji22, .int .i64 ji23]] rfl (by (try simp only [List.map_toArray, List.map_cons, List.map_nil]); first | done | (simp only [hji20, hji21, hji22, hji23]; rfl) | rfl | (simp only [List.length_drop, List.length_take]; rfl)) ?_; (with_reducible refine (cover_Of.calls kj6 ji20 ji21 ji22 ji23 t433 t436 _ A24.out).mono ?_); rintro e w41 ⟨v434, rfl, ho0, hb⟩; refine ⟨_, rfl, ?_⟩; have n0_ := Aside0.mk (Kd.R_elder' (by (with_reducible repeat (first | apply Kd.R_alloc | apply Kd.R_drewN | apply Kd.R_drew)); exact HO_5.out) (Kd.R_base ho0) hb); have n1_ := Aside0.mk (Kd.R_elder' (by (with_reducible repeat (first | apply Kd.R_alloc | apply Kd.R_drewN | apply Kd.R_drew)); exact HO_7.out) (Kd.R_base ho0) hb); have n2_ := Aside0.mk (Kd.R_lower (Kd.R_new' (Kd.R_new' ho0 (Kd.R_lt (by (with_reducible repeat (first | apply Kd.R_alloc | apply Kd.R_drewN | apply Kd.R_drew)); exact HO_5.out))) (Kd.R_lt (by (with_reducible repeat (first | apply Kd.R_alloc | apply Kd.R_drewN | apply Kd.R_drew)); exact HO_7.out))) (below_size (by repeat (first | (with_reducible first | exact HB.out | apply below_alloc | apply pw_below_drewN | apply below_drew1 | refine below_set ?_ GE420.out | refine below_set ?_ GE421.out) | exact HB.out)))); have n3_ := Aside0.mk (blk_below (g := gb420) (o := .cells #[.int .i64 a0_0, .int .i64 a0_1, .int .i64 a0_2, .int .i64 a0_3] 23 (0, 0)) (by (with_reducible repeat (first | refine blk_drewN ?_ _ | refine blk_drew ?_ | refine blk_alloc ?_ _)); exact BK420.out) hb); have n4_ := Aside0.mk (blk_below (g := gb421) (o := .cells #[.int .i64 a1_0, .int .i64 a1_1, .int .i64 a1_2, .int .i64 a1_3] 23 (0, 0)) (by (with_reducible repeat (first | refine blk_drewN ?_ _ | refine blk_drew ?_ | refine blk_alloc ?_ _)); exact BK421.out) hb); have n5_ := Aside0.mk (below_step (by repeat (first | (with_reducible first | exact HB.out | apply below_alloc | apply pw_below_drewN | apply below_drew1 | refine below_set ?_ GE420.out | refine below_set ?_ GE421.out) | exact HB.out)) hb); clear HO_5; clear HO_7; clear BK420; clear BK421; clear HB; have HO_5 := n0_; have HO_7 := n1_; have HO435 := n2_; have BK420 := n3_; have BK421 := n4_; have HB := n5_; clear n0_ n1_ n2_ n3_ n4_ n5_; (try clear hb); (try clear hb2); (try clear hk); (try clear hi); (try clear ho0); obtain ⟨Ao42, co42, eo42⟩ := Kd.R_slice HO_5.out; subst eo42; obtain ⟨Ao43, co43, eo43⟩ := Kd.R_slice HO_7.out; subst eo43) | ((with_reducible refine gate_callee (f := 12) rfl ?_); refine goesL_ (some 65) rfl rfl Try.func12 (by kernel_rfl) rfl #[.slice Ao42 t423.length co42, .slice Ao43 t427.length co43] rfl (by (try simp only [List.map_toArray, List.map_cons, List.map_nil]); first | done | rfl | (simp only [List.length_drop, List.length_take]; rfl)) ?_; (with_reducible refine (cover_Union.calls kj6 _ _ t423 _ _ t427 t437 t438 _ ?side1 ?side2 ?side3 ?side4 A25.out).mono ?_); (case side1 => repeat (first | exact (Kd.R_reads' HO_5.out).2.2 | (with_reducible refine Kd.C_alloc ?_ _) | (with_reducible refine Kd.C_drewN ?_ _) | (with_reducible refine Kd.C_drew ?_))); (case side2 => exact (Kd.R_reads' HO_5.out).2.1); (case side3 => repeat (first | exact (Kd.R_reads' HO_7.out).2.2 | (with_reducible refine Kd.C_alloc ?_ _) | (with_reducible refine Kd.C_drewN ?_ _) | (with_reducible refine Kd.C_drew ?_))); (case side4 => exact (Kd.R_reads' HO_7.out).2.1); rintro e w44 ⟨v439, rfl, ho0, hb⟩; refine ⟨_, rfl, ?_⟩; have n0_ := Aside0.mk (Kd.R_elder' (by (with_reducible repeat (first | apply Kd.R_alloc | apply Kd.R_drewN | apply Kd.R_drew)); exact HO_5.out) (Kd.R_base ho0) hb); have n1_ := Aside0.mk (Kd.R_elder' (by (with_reducible repeat (first | apply Kd.R_alloc | apply Kd.R_drewN | apply Kd.R_drew)); exact HO_7.out) (Kd.R_base ho0) hb); have n2_ := Aside0.mk (Kd.R_elder' (by (with_reducible repeat (first | apply Kd.R_alloc | apply Kd.R_drewN | apply Kd.R_drew)); exact HO435.out) (Kd.R_base ho0) hb); have n3_ := Aside0.mk (Kd.R_lower (Kd.R_new' (Kd.R_new' (Kd.R_new' ho0 (Kd.R_lt (by (with_reducible repeat (first | apply Kd.R_alloc | apply Kd.R_drewN | apply Kd.R_drew)); exact HO_5.out))) (Kd.R_lt (by (with_reducible repeat (first | apply Kd.R_alloc | apply Kd.R_drewN | apply Kd.R_drew)); exact HO_7.out))) (Kd.R_lt (by (with_reducible repeat (first | apply Kd.R_alloc | apply Kd.R_drewN | apply Kd.R_drew)); exact HO435.out))) (below_size (by repeat (first | (with_reducible first | exact HB.out | apply below_alloc | apply pw_below_drewN | apply below_drew1 | refine below_set ?_ GE420.out | refine below_set ?_ GE421.out) | exact HB.out)))); have n4_ := Aside0.mk (blk_below (g := gb420) (o := .cells #[.int .i64 a0_0, .int .i64 a0_1, .int .i64 a0_2, .int .i64 a0_3] 23 (0, 0)) (by (with_reducible repeat (first | refine blk_drewN ?_ _ | refine blk_drew ?_ | refine blk_alloc ?_ _)); exact BK420.out) hb); have n5_ := Aside0.mk (blk_below (g := gb421) (o := .cells #[.int .i64 a1_0, .int .i64 a1_1, .int .i64 a1_2, .int .i64 a1_3] 23 (0, 0)) (by (with_reducible repeat (first | refine blk_drewN ?_ _ | refine blk_drew ?_ | refine blk_alloc ?_ _)); exact BK421.out) hb); have n6_ := Aside0.mk (below_step (by repeat (first | (with_reducible first | exact HB.out | apply below_alloc | apply pw_below_drewN | apply below_drew1 | refine below_set ?_ GE420.out | refine below_set ?_ GE421.out) | exact HB.out)) hb); clear HO_5; clear HO_7; clear HO435; clear BK420; clear BK421; clear HB; have HO_5 := n0_; have HO_7 := n1_; have HO435 := n2_; have HO440 := n3_; have BK420 := n4_; have BK421 := n5_; have HB := n6_; clear n0_ n1_ n2_ n3_ n4_ n5_ n6_; (try clear hb); (try clear hb2); (try clear hk); (try clear hi); (try clear ho0); obtain ⟨Ao45, co45, eo45⟩ := Kd.R_slice HO440.out; subst eo45; obtain ⟨Ao46, co46, eo46⟩ := Kd.R_slice HO435.out; subst eo46) | ((with_reducible refine gate_callee (f := 15) rfl ?_); refine goesL_ (some 71) rfl rfl Try.func15 (by kernel_rfl) rfl #[.slice Ao45 t437.length co45, .slice Ao46 t433.length co46] rfl (by (try simp only [List.map_toArray, List.map_cons, List.map_nil]); first | done | rfl | (simp only [List.length_drop, List.length_take]; rfl)) ?_; (with_reducible refine (cover_Less.calls kj6 _ _ t437 _ _ t433 t441 t442 _ ?side1 ?side2 ?side3 ?side4 A26.out).mono ?_); (case side1 => repeat (first | exact (Kd.R_reads' HO440.out).2.2 | (with_reducible refine Kd.C_alloc ?_ _) | (with_reducible refine Kd.C_drewN ?_ _) | (with_reducible refine Kd.C_drew ?_))); (case side2 => exact (Kd.R_reads' HO440.out).2.1); (case side3 => repeat (first | exact (Kd.R_reads' HO435.out).2.2 | (with_reducible refine Kd.C_alloc ?_ _) | (with_reducible refine Kd.C_drewN ?_ _) | (with_reducible refine Kd.C_drew ?_))); (case side4 => exact (Kd.R_reads' HO435.out).2.1); rintro e w47 ⟨v443, rfl, ho0, hb⟩; refine ⟨_, rfl, ?_⟩; have n0_ := Aside0.mk (Kd.R_elder' (by (with_reducible repeat (first | apply Kd.R_alloc | apply Kd.R_drewN | apply Kd.R_drew)); exact HO_5.out) (Kd.R_base ho0) hb); have n1_ := Aside0.mk (Kd.R_elder' (by (with_reducible repeat (first | apply Kd.R_alloc | apply Kd.R_drewN | apply Kd.R_drew)); exact HO_7.out) (Kd.R_base ho0) hb); have n2_ := Aside0.mk (Kd.R_elder' (by (with_reducible repeat (first | apply Kd.R_alloc | apply Kd.R_drewN | apply Kd.R_drew)); exact HO435.out) (Kd.R_base ho0) hb); have n3_ := Aside0.mk (Kd.R_elder' (by (with_reducible repeat (first | apply Kd.R_alloc | apply Kd.R_drewN | apply Kd.R_drew)); exact HO440.out) (Kd.R_base ho0) hb); have n4_ := Aside0.mk (Kd.R_lower (Kd.R_new' (Kd.R_new' (Kd.R_new' (Kd.R_new' ho0 (Kd.R_lt (by (with_reducible repeat (first | apply Kd.R_alloc | apply Kd.R_drewN | apply Kd.R_drew)); exact HO_5.out))) (Kd.R_lt (by (with_reducible repeat (first | apply Kd.R_alloc | apply Kd.R_drewN | apply Kd.R_drew)); exact HO_7.out))) (Kd.R_lt (by (with_reducible repeat (first | apply Kd.R_alloc | apply Kd.R_drewN | apply Kd.R_drew)); exact HO435.out))) (Kd.R_lt (by (with_reducible repeat (first | apply Kd.R_alloc | apply Kd.R_drewN | apply Kd.R_drew)); exact HO440.out))) (below_size (by repeat (first | (with_reducible first | exact HB.out | apply below_alloc | apply pw_below_drewN | apply below_drew1 | refine below_set ?_ GE420.out | refine below_set ?_ GE421.out) | exact HB.out)))); have n5_ := Aside0.mk (blk_below (g := gb420) (o := .cells #[.int .i64 a0_0, .int .i64 a0_1, .int .i64 a0_2, .int .i64 a0_3] 23 (0, 0)) (by (with_reducible repeat (first | refine blk_drewN ?_ _ | refine blk_drew ?_ | refine blk_alloc ?_ _)); exact BK420.out) hb); have n6_ := Aside0.mk (blk_below (g := gb421) (o := .cells #[.int .i64 a1_0, .int .i64 a1_1, .int .i64 a1_2, .int .i64 a1_3] 23 (0, 0)) (by (with_reducible repeat (first | refine blk_drewN ?_ _ | refine blk_drew ?_ | refine blk_alloc ?_ _)); exact BK421.out) hb); have n7_ := Aside0.mk (below_step (by repeat (first | (with_reducible first | exact HB.out | apply below_alloc | apply pw_below_drewN | apply below_drew1 | refine below_set ?_ GE420.out | refine below_set ?_ GE421.out) | exact HB.out)) hb); clear HO_5; clear HO_7; clear HO435; clear HO440; clear BK420; clear BK421; clear HB; have HO_5 := n0_; have HO_7 := n1_; have HO435 := n2_; have HO440 := n3_; have HO444 := n4_; have BK420 := n5_; have BK421 := n6_; have HB := n7_; clear n0_ n1_ n2_ n3_ n4_ n5_ n6_ n7_; (try clear hb); (try clear hb2); (try clear hk); (try clear hi); (try clear ho0)) | ((with_reducible refine gate_callee (f := 14) rfl ?_); refine goesL_ (some 77) rfl rfl Try.func14 (by kernel_rfl) rfl #[.slice Ao45 t437.length co45, .slice Ao46 t433.length co46] rfl (by (try simp only [List.map_toArray, List.map_cons, List.map_nil]); first | done | rfl | (simp only [List.length_drop, List.length_take]; rfl)) ?_; (with_reducible refine (cover_Common.calls kj6 _ _ t437 _ _ t433 t445 t446 _ ?side1 ?side2 ?side3 ?side4 A27.out).mono ?_); (case side1 => repeat (first | exact (Kd.R_reads' HO440.out).2.2 | (with_reducible refine Kd.C_alloc ?_ _) | (with_reducible refine Kd.C_drewN ?_ _) | (with_reducible refine Kd.C_drew ?_))); (case side2 => exact (Kd.R_reads' HO440.out).2.1); (case side3 => repeat (first | exact (Kd.R_reads' HO435.out).2.2 | (with_reducible refine Kd.C_alloc ?_ _) | (with_reducible refine Kd.C_drewN ?_ _) | (with_reducible refine Kd.C_drew ?_))); (case side4 => exact (Kd.R_reads' HO435.out).2.1); rintro e w48 ⟨v447, rfl, ho0, hb⟩; refine ⟨_, rfl, ?_⟩; have n0_ := Aside0.mk (Kd.R_elder' (by (with_reducible repeat (first | apply Kd.R_alloc | apply Kd.R_drewN | apply Kd.R_drew)); exact HO_5.out) (Kd.R_base ho0) hb); have n1_ := Aside0.mk (Kd.R_elder' (by (with_reducible repeat (first | apply Kd.R_alloc | apply Kd.R_drewN | apply Kd.R_drew)); exact HO_7.out) (Kd.R_base ho0) hb); have n2_ := Aside0.mk (Kd.R_elder' (by (with_reducible repeat (first | apply Kd.R_alloc | apply Kd.R_drewN | apply Kd.R_drew)); exact HO435.out) (Kd.R_base ho0) hb); have n3_ := Aside0.mk (Kd.R_elder' (by (with_reducible repeat (first | apply Kd.R_alloc | apply Kd.R_drewN | apply Kd.R_drew)); exact HO440.out) (Kd.R_base ho0) hb); have n4_ := Aside0.mk (Kd.R_elder' (by (with_reducible repeat (first | apply Kd.R_alloc | apply Kd.R_drewN | apply Kd.R_drew)); exact HO444.out) (Kd.R_base ho0) hb); have n5_ := Aside0.mk (Kd.R_lower (Kd.R_new' (Kd.R_new' (Kd.R_new' (Kd.R_new' (Kd.R_new' ho0 (Kd.R_lt (by (with_reducible repeat (first | apply Kd.R_alloc | apply Kd.R_drewN | apply Kd.R_drew)); exact HO_5.out))) (Kd.R_lt (by (with_reducible repeat (first | apply Kd.R_alloc | apply Kd.R_drewN | apply Kd.R_drew)); exact HO_7.out))) (Kd.R_lt (by (with_reducible repeat (first | apply Kd.R_alloc | apply Kd.R_drewN | apply Kd.R_drew)); exact HO435.out))) (Kd.R_lt (by (with_reducible repeat (first | apply Kd.R_alloc | apply Kd.R_drewN | apply Kd.R_drew)); exact HO440.out))) (Kd.R_lt (by (with_reducible repeat (first | apply Kd.R_alloc | apply Kd.R_drewN | apply Kd.R_drew)); exact HO444.out))) (below_size (by repeat (first | (with_reducible first | exact HB.out | apply below_alloc | apply pw_below_drewN | apply below_drew1 | refine below_set ?_ GE420.out | refine below_set ?_ GE421.out) | exact HB.out)))); have n6_ := Aside0.mk (blk_below (g := gb420) (o := .cells #[.int .i64 a0_0, .int .i64 a0_1, .int .i64 a0_2, .int .i64 a0_3] 23 (0, 0)) (by (with_reducible repeat (first | refine blk_drewN ?_ _ | refine blk_drew ?_ | refine blk_alloc ?_ _)); exact BK420.out) hb); have n7_ := Aside0.mk (blk_below (g := gb421) (o := .cells #[.int .i64 a1_0, .int .i64 a1_1, .int .i64 a1_2, .int .i64 a1_3] 23 (0, 0)) (by (with_reducible repeat (first | refine blk_drewN ?_ _ | refine blk_drew ?_ | refine blk_alloc ?_ _)); exact BK421.out) hb); have n8_ := Aside0.mk (below_step (by repeat (first | (with_reducible first | exact HB.out | apply below_alloc | apply pw_below_drewN | apply below_drew1 | refine below_set ?_ GE420.out | refine below_set ?_ GE421.out) | exact HB.out)) hb); clear HO_5; clear HO_7; clear HO435; clear HO440; clear HO444; clear BK420; clear BK421; clear HB; have HO_5 := n0_; have HO_7 := n1_; have HO435 := n2_; have HO440 := n3_; have HO444 := n4_; have HO448 := n5_; have BK420 := n6_; have BK421 := n7_; have HB := n8_; clear n0_ n1_ n2_ n3_ n4_ n5_ n6_ n7_ n8_; (try clear hb); (try clear hb2); (try clear hk); (try clear hi); (try clear ho0)) | ((with_reducible refine gate_callee (f := 11) rfl ?_); refine goesL_ (some 81) rfl rfl Try.func11 (by kernel_rfl) rfl #[.int .i64 t436] rfl (by (try simp only [List.map_toArray, List.map_cons, List.map_nil]); first | done | rfl | (simp only [List.length_drop, List.length_take]; rfl)) ?_; (with_reducible refine (furlonglaw0_Num.calls t436 t449 _ A28.out).mono ?_); rintro e w' ⟨rfl, ⟨nd, rfl⟩⟩; refine ⟨_, rfl, ?_⟩) | (go_at_call 11; (with_reducible refine (furlonglaw0_Num.calls t438 t450 _ A30.out).mono ?_); rintro e w' ⟨rfl, ⟨nd, rfl⟩⟩) | (go_at_call 11; (with_reducible refine (furlonglaw0_Num.calls t442 t451 _ A32.out).mono ?_); rintro e w' ⟨rfl, ⟨nd, rfl⟩⟩; obtain ⟨Ao49, co49, eo49⟩ := Kd.R_slice HO444.out; subst eo49) | (go_at_call 11; (with_reducible refine (furlonglaw0_Num.calls t446 t452 _ A35.out).mono ?_); rintro e w' ⟨rfl, ⟨nd, rfl⟩⟩; obtain ⟨Ao50, co50, eo50⟩ := Kd.R_slice HO448.out; subst eo50) | (go_at_call 10; (with_reducible refine (furlonglaw0_SameRanges.calls kj6 _ _ t445 _ _ t437 t453 _ ?side1 ?side2 ?side3 ?side4 A37.out).mono ?_); (case side1 => repeat (first | exact (Kd.R_reads' HO448.out).2.2 | (with_reducible refine Kd.C_alloc ?_ _) | (with_reducible refine Kd.C_drewN ?_ _) | (with_reducible refine Kd.C_drew ?_))); (case side2 => exact (Kd.R_reads' HO448.out).2.1); (case side3 => repeat (first | exact (Kd.R_reads' HO440.out).2.2 | (with_reducible refine Kd.C_alloc ?_ _) | (with_reducible refine Kd.C_drewN ?_ _) | (with_reducible refine Kd.C_drew ?_))); (case side4 => exact (Kd.R_reads' HO440.out).2.1); rintro e w' ⟨rfl, ⟨nd, rfl⟩⟩))
                    go_ret
                    exact ⟨by first | rfl | (simp [errW_none, errW_some] <;> rfl) | (simp only [← hji20, ← hji21, ← hji22, ← hji23]; first | rfl | (simp [errW_none, errW_some] <;> rfl)) | (simp [*, errW_none, errW_some] <;> rfl), by repeat (first | (with_reducible first | exact HB.out | apply below_alloc | apply pw_below_drewN | apply below_drew1 | refine below_set ?_ GE420.out | refine below_set ?_ GE421.out) | exact HB.out)⟩
                  · rw [if_neg c36] at H
                    exact absurd H (by simp)
                · rw [if_neg c34] at H
                  exact absurd H (by simp)
              · rw [if_neg c33] at H
                exact absurd H (by simp)
            · rw [if_neg c31] at H
              exact absurd H (by simp)
          · rw [if_neg c29] at H
            exact absurd H (by simp)
  · replace c4 := Bool.eq_false_iff.mpr c4
    subst c4
    have H1 : (none) = some r := by rw [if_neg (show ¬ (false = true) by decide)] at H; exact H
    clear H
    have H := H1
    clear H1
    exact absurd H (by simp)

end Go.Proofs.Ytngcljnhcbbdmaa.C
