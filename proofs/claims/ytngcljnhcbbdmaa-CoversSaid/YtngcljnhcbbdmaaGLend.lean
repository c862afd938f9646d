/-
  What the law lends: a copy with marked room behind it; and whether the room is as it was.
-/
import Derived.Test.YtngcljnhcbbdmaaPLink
namespace Go.Proofs.Ytngcljnhcbbdmaa.C
open Go.RowKit Go.Proofs.YtngcljnhcbbdmaaW.PrintWords Go.Proofs.YtngcljnhcbbdmaaW.PrintLast Go.Proofs.YtngcljnhcbbdmaaW.PrintMore
attribute [local go_sem] max2_int min2_int max_two min_two max_three min_three max_four min_four   -- for this text's walks alone
set_option linter.unusedVariables false
set_option linter.unusedSimpArgs false

theorem cut_up (A : Option Addr) (n c : Nat) (j : Int) (h0 : 0 ≤ j) (hj : j ≤ c) :
    ∀ W : World, (Instr.slice 24 (.slice A n c) none (some (.int .i64 j)) none).run Try.prog W = .ok (.slice A j.toNat c) W := by
  intro W
  obtain ⟨i0, hi, _, _, _⟩ := info_parts info41
  have hel : Try.prog.elem 24 = 41 := by simp [Program.elem, Try.underlying24]
  have hu : Try.prog.underlying 24 = some (.slice (Try.prog.elem 24)) := by rw [hel]; exact Try.underlying24
  have ha : (A.map fun x => x.add 0) = A := by cases A <;> simp [Addr.add]
  rw [run_slice_h W 24 A n c hu .i64 j h0 hj, hel]
  simp [sizeOf, typeInfo, hi, sliced, Result.andThen, ha]
def marks : List S41 := [⟨77777, 0⟩, ⟨77777, 0⟩]
/-- A slice that is lent: its block is the call's own, two marks lie behind it. -/
def Lent (w : World) (base : Nat) (ok : Nat → Prop) (A : Option Addr) (c : Nat) (l : List S41) : Prop := Kd.R k41 41 w base ok (.slice A (l ++ marks).length c) (l ++ marks)
theorem lent_C {w : World} {A : Option Addr} {l : List S41} (h : Kd.C k41 w A (l ++ marks).length (l ++ marks)) : Kd.C k41 w A l.length l := by
  have := Kd.C_take (m := l.length) h (by simp)
  simpa using this
set_option maxHeartbeats 8000000 in
set_option maxRecDepth 100000 in
theorem lend_calls (A0 : Option Addr) (c0 : Nat) (l0 : List (S41)) (w : World) (hr0 : Kd.C k41 w A0 l0.length l0) (hc0 : l0.length ≤ c0) (hl : l0.length + 2 < 8796093022208) :
    Calls Try.prog 7 #[.slice A0 l0.length c0] w fun e w' => ∃ (A : Option Addr) (c : Nat), e = .returned (.slice A l0.length c) ∧ (l0 ++ marks).length ≤ c ∧ Kd.R k41 41 w' w.heap.size (fun _ => True) (.slice A (l0 ++ marks).length c) (l0 ++ marks) ∧ Below w.heap.size w w' := by
  have hu41 := Try.underlying41
  have HR0 := Aside0.mk hr0
  have HC0 := Aside0.mk hc0
  clear hr0 hc0
  have HB := Aside0.mk (Below.refl w.heap.size w)
  obtain ⟨t107, ht⟩ : ∃ t : List S41, t = l0 := ⟨_, rfl⟩
  have A2 := Aside0.mk (show furlonglaw0_CopyRanges.f l0 = some t107 from by
    unfold furlonglaw0_CopyRanges.f
    rw [Option.bind_some, if_pos (by simp; omega), ht]
    rfl)
  obtain ⟨y110, hy110⟩ : ∃ y_ : List (S41), y_ = ([(⟨77777, 0⟩ : S41), (⟨77777, 0⟩ : S41)] : List S41) := ⟨_, rfl⟩
  have Ny110 := Aside0.mk hy110
  have LMc3 := Aside0.mk (show t107.length + y110.length < 8796093022208 from by rw [ht, hy110]; simp; omega)
  obtain ⟨y113, hy113⟩ : ∃ y_ : List (S41), y_ = t107 ++ y110 := ⟨_, rfl⟩
  have Ny113 := Aside0.mk hy113
  have NE := Aside0.mk (show y113 = l0 ++ marks from by rw [hy113, ht, hy110]; rfl)
  have LY113 := Aside0.mk (show (l0.length : Int) ≤ y113.length from by rw [NE.out]; simp; omega)
  clear ht hy110 hy113 hl
  go_enter Try.func7, Try.ntmps7
  go_wp2_with (first | ((with_reducible refine gate_callee (f := 22) rfl ?_); refine goesL_ (some 5) rfl rfl Try.func22 (by kernel_rfl) rfl #[.slice A0 l0.length c0] rfl (by (try simp only [List.map_toArray, List.map_cons, List.map_nil]); first | done | rfl | (simp only [List.length_drop, List.length_take]; rfl)) ?_; (with_reducible refine (furlonglaw0_CopyRanges.calls _ _ l0 t107 _ ?side1 ?side2 A2.out).mono ?_); (case side1 => repeat (first | exact HR0.out | (with_reducible refine Kd.C_alloc ?_ _) | (with_reducible refine Kd.C_drewN ?_ _) | (with_reducible refine Kd.C_drew ?_))); (case side2 => exact HC0.out); rintro e w6 ⟨v108, rfl, ho0, hb⟩; refine ⟨_, rfl, ?_⟩; have n0_ := Aside0.mk (Kd.R_lower ho0 (below_size (by repeat (first | (with_reducible first | exact HB.out | apply below_alloc | apply pw_below_drewN | apply below_drew1) | exact HB.out)))); have n1_ := Aside0.mk (below_step (by repeat (first | (with_reducible first | exact HB.out | apply below_alloc | apply pw_below_drewN | apply below_drew1) | exact HB.out)) hb); clear HB; have HO109 := n0_; have HB := n1_; clear n0_ n1_; (try clear hb); (try clear hb2); (try clear hk); (try clear hi); (try clear ho0)) | ((with_reducible refine gate_dst (N := 8) rfl ?_); refine Kd.R_lit k41 _ 41 ?hg (N := 8) ?hd (xs := ([(⟨77777, 0⟩ : S41), (⟨77777, 0⟩ : S41)] : List (S41))) (inner := [.int .i64 77777, .int .i64 0, .int .i64 77777, .int .i64 0]) (ok := fun _ => True) (okp := fun _ => True) ?hr ?hp (fun _ hk => hk) trivial (Below.refl _ _) (Nat.le_refl _) (by simp) ?_; (case hd => rfl); (case hg => rfl); (case hr => first | (go_simp; done) | (go_simp; rfl)); (case hp => exact (Reps.c2 (show Kd.M k41 _ _ _ (⟨77777, 0⟩ : S41) [.int .i64 77777, .int .i64 0] from (k41_mkM _ _ _ (⟨77777, 0⟩ : S41) )) (Reps.c2 (show Kd.M k41 _ _ _ (⟨77777, 0⟩ : S41) [.int .i64 77777, .int .i64 0] from (k41_mkM _ _ _ (⟨77777, 0⟩ : S41) )) (Reps.none _ _)))); intro v111 w7 ho8 hb hg_ hnew_; clear hg_ hnew_; (first | rw [← Ny110.out] at ho8 | (simp only [Int.reduceToNat] at ho8; rw [← Ny110.out] at ho8)); have n0_ := Aside0.mk (Kd.R_elder' (by (with_reducible repeat (first | apply Kd.R_alloc | apply Kd.R_drewN | apply Kd.R_drew)); exact HO109.out) (Kd.R_base ho8) hb); have n1_ := Aside0.mk (Kd.R_lower (Kd.R_new' ho8 (Kd.R_lt (by (with_reducible repeat (first | apply Kd.R_alloc | apply Kd.R_drewN | apply Kd.R_drew)); exact HO109.out))) (below_size (by repeat (first | (with_reducible first | exact HB.out | apply below_alloc | apply pw_below_drewN | apply below_drew1) | exact HB.out)))); have n2_ := Aside0.mk (below_step (by repeat (first | (with_reducible first | exact HB.out | apply below_alloc | apply pw_below_drewN | apply below_drew1) | exact HB.out)) hb); clear HO109; clear HB; have HO109 := n0_; have HO112 := n1_; have HB := n2_; clear n0_ n1_ n2_; clear hb ho8; obtain ⟨Ao10, co10, eo10⟩ := Kd.R_slice HO112.out; subst eo10) | ((with_reducible refine gate_builtin (b := .append) (xs := #[.tmp 5, .tmp 8]) rfl ?_); at_builtin; refine Kd.R_append_rows k41 (w0 := w) w.heap.size rfl (.tmp 5) (.tmp 8) 24 41 (.agg #[(.int .i64 0), (.int .i64 0)]) 16 rfl Try.underlying24 info41 rfl (by decide) (by omega) v108 t107 y110 _ _ _ (fun k_ => some k_ ≠ (.slice Ao10 y110.length co10 : Value).ownBlock) (fun _ => False) rfl rfl ?aO ?aR (fun _ _ h => h) (fun _ h => h.elim) ?aF ?aB ?aS ?aL ?_; (case aR => repeat (first | exact (Kd.R_reads' HO112.out).2.2 | (with_reducible refine Kd.C_alloc ?_ _) | (with_reducible refine Kd.C_drewN ?_ _) | (with_reducible refine Kd.C_drew ?_))); (case aB => exact (by repeat (first | (with_reducible first | exact HB.out | apply below_alloc | apply pw_below_drewN | apply below_drew1) | exact HB.out))); (case aF => exact (fun k_ hk => Kd.fresh' (Kd.R_lt (by (with_reducible repeat (first | apply Kd.R_alloc | apply Kd.R_drewN | apply Kd.R_drew)); exact HO112.out)) k_ hk)); (case aO => exact (by (with_reducible repeat (first | apply Kd.R_alloc | apply Kd.R_drewN | apply Kd.R_drew)); exact Kd.R_mono HO109.out (fun _ hk => hk.2))); (case aS => exact (below_size (by repeat (first | (with_reducible first | exact HB.out | apply below_alloc | apply pw_below_drewN | apply below_drew1) | exact HB.out)))); (case aL => have := LMc3.out; omega); intro v114 w9 ho hb hg hat; rw [← Ny113.out] at ho; have n0_ := Aside0.mk (Kd.R_after (ok := (fun _ => True)) (by (with_reducible repeat (first | apply Kd.R_alloc | apply Kd.R_drewN | apply Kd.R_drew)); exact HO112.out) hg hat); have n1_ := Aside0.mk (hb); have n2_ := Aside0.mk (ho); clear HO112; clear HB; clear HO109; have HO112 := n0_; have HB := n1_; have HO115 := n2_; clear n0_ n1_ n2_; clear ho hb hg hat; obtain ⟨Ao11, co11, eo11⟩ := Kd.R_slice HO115.out; subst eo11; have hcut12 := cut_up Ao11 y113.length co11 (l0.length : Int) (by omega) (by have h1_ := (Kd.R_reads' HO115.out).2.1; have h2_ := LY113.out; omega)))
  go_ret
  have ho := HO115.out
  have hle := (Kd.R_reads' ho).2.1
  rw [NE.out] at ho hle
  exact ⟨Ao11, co11, by first | rfl | (simp; done), hle, Kd.R_mono ho (fun _ _ => trivial), HB.out⟩

set_option maxHeartbeats 8000000 in
set_option maxRecDepth 100000 in
theorem kept_calls (k : Nat) (A0 : Option Addr) (c0 : Nat) (l : List (S41)) (A1 : Option Addr) (c1 : Nat) (w : World) (hr0 : Kd.C k41 w A0 (l ++ marks).length (l ++ marks)) (hc0 : (l ++ marks).length ≤ c0) (hr1 : Kd.C k41 w A1 l.length l) (hc1 : l.length ≤ c1) (hl : l.length + 2 < 8796093022208) (h : furlonglaw0_SameRanges.f k l l = some true) :
    Calls Try.prog 20 #[.slice A0 l.length c0, .slice A1 l.length c1] w fun e w' => e = .returned (.bool true) ∧ Drawn0 w w' := by
  have hu41 := Try.underlying41
  have hF : (l ++ marks).length = l.length + 2 := by simp [marks]
  have HR0 := Aside0.mk (lent_C hr0)
  have HC0 := Aside0.mk (show l.length ≤ c0 from by omega)
  have HR1 := Aside0.mk hr1
  have HC1 := Aside0.mk hc1
  have A6 := Aside0.mk h
  clear hr1 hc1 h
  obtain ⟨ji3, hji3⟩ : ∃ j_ : Int, (wrap64 ((l.length : Int) + 2)) = j_ := ⟨_, rfl⟩
  have hji3w : (IntKind.i64.wrap ((l.length : Int) + 2)) = ji3 := (i64_w _).trans hji3
  have e3 : ji3 = (l.length : Int) + 2 := by rw [← hji3, wrap_id _ (by omega) (by omega)]
  obtain ⟨ji11, hji11⟩ : ∃ j_ : Int, (wrap64 ((l.length : Int) + 1)) = j_ := ⟨_, rfl⟩
  have hji11w : (IntKind.i64.wrap ((l.length : Int) + 1)) = ji11 := (i64_w _).trans hji11
  have e11 : ji11 = (l.length : Int) + 1 := by rw [← hji11, wrap_id _ (by omega) (by omega)]
  obtain ⟨y220, hy220⟩ : ∃ y_ : List (S41), y_ = l ++ marks := ⟨_, rfl⟩
  rw [← hy220] at hr0 hc0 hF
  have HR223 := Aside0.mk hr0
  have F0 := Aside0.mk (show rd_T41 y220 (l.length : Int) = ⟨77777, 0⟩ from by rw [hy220]; exact rd41_at l _ _)
  have F1 := Aside0.mk (show rd_T41 y220 ji11 = ⟨77777, 0⟩ from by
    rw [hy220, e11]
    have := rd41_at (l ++ [⟨77777, 0⟩]) ⟨77777, 0⟩ []
    simpa [marks] using this)
  have hcut14 := cut_up A0 l.length c0 ji3 (by omega) (by omega)
  have hy14 : ji3.toNat = y220.length := by omega
  rw [hy14] at hcut14
  have c8b0 : decide (0 ≤ (l.length : Int)) = true := decide_eq_true (by omega)
  have c8b1 : decide (0 ≤ l.length) = true := decide_eq_true (by omega)
  have c9b0 : decide ((l.length : Int) < (y220.length : Int)) = true := decide_eq_true (by omega)
  have c9b1 : decide (l.length < y220.length) = true := decide_eq_true (by omega)
  have c12b0 : decide (0 ≤ (ji11)) = true := decide_eq_true (by omega)
  have c13b0 : decide ((ji11) < (y220.length : Int)) = true := decide_eq_true (by omega)
  clear hr0 hc0 hF hji3 e3 hji11 e11 hy220 hy14 hl
  go_enter Try.func20, Try.ntmps20
  go_wp2_with (first | ((with_reducible refine gate_callee (f := 10) rfl ?_); refine goesL_ (some 13) rfl rfl Try.func10 (by kernel_rfl) rfl #[.slice A0 l.length c0, .slice A1 l.length c1] rfl (by (try simp only [List.map_toArray, List.map_cons, List.map_nil]); first | done | rfl | (simp only [List.length_drop, List.length_take]; rfl)) ?_; (with_reducible refine (furlonglaw0_SameRanges.calls k _ _ l _ _ l true _ ?side1 ?side2 ?side3 ?side4 A6.out).mono ?_); (case side1 => repeat (first | exact HR0.out | (with_reducible refine Kd.C_alloc ?_ _) | (with_reducible refine Kd.C_drewN ?_ _) | (with_reducible refine Kd.C_drew ?_))); (case side2 => exact HC0.out); (case side3 => repeat (first | exact HR1.out | (with_reducible refine Kd.C_alloc ?_ _) | (with_reducible refine Kd.C_drewN ?_ _) | (with_reducible refine Kd.C_drew ?_))); (case side4 => exact HC1.out); rintro e w' ⟨rfl, ⟨nd, rfl⟩⟩; refine ⟨_, rfl, ?_⟩; have p225 : 0 ≤ ((l.length : Int) : Int) := of_decide_eq_true (by first | (with_reducible assumption) | assumption); have q225 : (l.length : Int) < (y220.length : Int) := of_decide_eq_true (by first | (with_reducible assumption) | assumption); obtain ⟨ad225, e225, hx225_0, hx225_1⟩ := at_T41 HR223.out (l.length : Int) p225 q225; cases e225; rw [F0.out] at hx225_0 hx225_1; (try simp only [Go.IntWalk.toNatUp] at hx225_0); (try simp only [Go.IntWalk.toNatUp] at hx225_1); replace p225 := eq_true p225; replace q225 := eq_true q225; have p226 : 0 ≤ ((ji11) : Int) := of_decide_eq_true (by first | (with_reducible assumption) | assumption); have q226 : (ji11) < (y220.length : Int) := of_decide_eq_true (by first | (with_reducible assumption) | assumption); obtain ⟨ad226, e226, hx226_0, hx226_1⟩ := at_T41 HR223.out (ji11) p226 q226; obtain rfl : ad225 = ad226 := (by injection e226); rw [F1.out] at hx226_0 hx226_1; replace p226 := eq_true p226; replace q226 := eq_true q226))
  go_ret
  exact ⟨by first | rfl | (simp; done), by repeat (first | exact Drawn0.refl _ | apply Drawn0.step)⟩
end Go.Proofs.Ytngcljnhcbbdmaa.C
