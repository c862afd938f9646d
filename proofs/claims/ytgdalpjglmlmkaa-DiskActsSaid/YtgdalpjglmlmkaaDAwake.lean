/-
  The disk's first look, walked: it is true.
-/
import Derived.Test.YtgdalpjglmlmkaaDSec
import Derived.Deep.RegionWith
import Derived.Deep.RegionHeld3
namespace Go.Proofs.Ytgdalpjglmlmkaa.D
open Go.RowKit Go.Maps Go.Proofs.YtgdalpjglmlmkaaW.PrintWords Go.Proofs.YtgdalpjglmlmkaaW.PrintLast Go.Proofs.YtgdalpjglmlmkaaW.PrintMore
set_option linter.unusedVariables false
set_option linter.unusedSimpArgs false

theorem DiskIs.below {W W1 : World} {g bs bm : Nat} {d : Dk} {n : Nat} (h : DiskIs W g bs bm d n) (hb : Below W.heap.size W W1) : DiskIs W1 g bs bm d n :=
  h.kept (Kept.of_below hb (fun _ => False)) id id id
theorem DiskIs.drawn {W W1 : World} {g bs bm : Nat} {d : Dk} {n : Nat} (h : DiskIs W g bs bm d n) (hb : Drawn0 W W1) : DiskIs W1 g bs bm d n := h.below hb.below
/-- a disk made behind W, as it lies in W1 -/
structure Mine (W W1 : World) (g bs bm : Nat) (d : Dk) (n : Nat) : Prop where
  is : DiskIs W1 g bs bm d n
  bel : Below W.heap.size W W1
  hg : W.heap.size ≤ g
  hbs : W.heap.size ≤ bs
  hbm : W.heap.size ≤ bm
theorem Mine.below {W W1 W2 : World} {g bs bm : Nat} {d : Dk} {n : Nat} (h : Mine W W1 g bs bm d n) (hb : Below W1.heap.size W1 W2) : Mine W W2 g bs bm d n :=
  ⟨h.is.below hb, below_step h.bel hb, h.hg, h.hbs, h.hbm⟩
theorem Mine.drawn {W W1 W2 : World} {g bs bm : Nat} {d : Dk} {n : Nat} (h : Mine W W1 g bs bm d n) (hb : Drawn0 W1 W2) : Mine W W2 g bs bm d n := h.below hb.below
theorem Mine.turn {W W1 W2 : World} {g bs bm : Nat} {d d2 : Dk} {n n2 : Nat} (h : Mine W W1 g bs bm d n) (h2 : DiskIs W2 g bs bm d2 n2) (hk : Kp W1 W2 (Parts g bs bm)) : Mine W W2 g bs bm d2 n2 :=
  ⟨h2, h.bel.trans (hk.to_below h.bel.size (fun k hk => by rcases hk with rfl | rfl | rfl <;> first | exact h.hg | exact h.hbs | exact h.hbm)), h.hg, h.hbs, h.hbm⟩
theorem new_mine (W : World) (n : Nat) (h1 : 1 ≤ n) (h2 : n ≤ 1024) :
    Calls Try.prog 8 #[.int .i64 n] W fun e W' => ∃ g bs bm, e = .returned (.tuple #[.pointer (some ⟨g, 0, none⟩), .int .i64 0]) ∧ Mine W W' g bs bm (Dk.fresh n) 0 :=
  (new_calls W n h1 h2).mono fun e W' ⟨g, bs, bm, he, hd, hb, a, b, c⟩ => ⟨g, bs, bm, he, hd, hb, a, b, c⟩

def aw3 : Dk := (((Dk.fresh 3).write 0 (sec 1)).write 1 (sec 2)).write 2 (sec 3)
def aw4 : Dk := ⟨crashRun 4 1 10 aw3 0 aw3.keys aw3.S, aw3.F.map fun _ => none⟩
theorem aw_count : count aw3.F = 3 := by decide +kernel
theorem aw_count4 : count aw4.F = 0 := by decide +kernel
theorem aw_len : aw4.S.length = 3 := by decide +kernel
theorem aw_0 : aw4.now 0 = sec 0 := by decide +kernel
theorem aw_1 : aw4.now 1 = (sec 2).extract 0 10 ++ (sec 0).extract 10 64 := by decide +kernel
theorem aw_2 : aw4.now 2 = sec 3 := by decide +kernel

set_option maxHeartbeats 8000000 in
set_option maxRecDepth 100000 in
theorem awake_calls (W : World) : Calls Try.prog 7 #[] W fun e W' => e = .returned (.bool true) ∧ Below W.heap.size W W' := by
  go_enter Try.func7, Try.ntmps7
  go_upto_region 2 with (first
    | (go_at_call 8; refine (new_mine _ 3 (by decide) (by decide)).mono ?_; rintro e w1 ⟨g, bs, bm, rfl, hm⟩; have HM := Aside0.mk hm; clear hm))
  go_upto_region 5 with (first
    | (go_at_call 8; refine (new_none _ 0 (by omega)).mono ?_; rintro e w1 ⟨rfl, hd⟩; replace HM := Aside0.mk (HM.out.drawn hd); clear hd)
    | (go_at_call 13; refine (num_calls _ _).mono ?_; rintro e w1 ⟨rfl, hd⟩; replace HM := Aside0.mk (HM.out.drawn hd); clear hd))
  go_upto_region 6 with (first
    | (go_at_call 11; refine (sector_calls _ _).mono ?_; rintro e w1 ⟨rfl, hb⟩; replace HM := Aside0.mk (HM.out.below hb); clear hb)
    | (go_at_call 10; refine (write_calls _ g bs bm _ _ HM.out.is (by decide) 0 (by decide) (sec 1) (sec_size 1)).mono ?_; rintro e w1 ⟨rfl, hd, hk⟩; replace HM := Aside0.mk (HM.out.turn hd hk); clear hd hk))
  go_upto_region 7 with (first
    | (go_at_call 11; refine (sector_calls _ _).mono ?_; rintro e w1 ⟨rfl, hb⟩; replace HM := Aside0.mk (HM.out.below hb); clear hb)
    | (go_at_call 10; refine (write_calls _ g bs bm _ _ HM.out.is (by decide) 1 (by decide) (sec 2) (sec_size 2)).mono ?_; rintro e w1 ⟨rfl, hd, hk⟩; replace HM := Aside0.mk (HM.out.turn hd hk); clear hd hk))
  go_upto_region 8 with (first
    | (go_at_call 11; refine (sector_calls _ _).mono ?_; rintro e w1 ⟨rfl, hb⟩; replace HM := Aside0.mk (HM.out.below hb); clear hb)
    | (go_at_call 10; refine (write_calls _ g bs bm _ _ HM.out.is (by decide) 2 (by decide) (sec 3) (sec_size 3)).mono ?_; rintro e w1 ⟨rfl, hd, hk⟩; replace HM := Aside0.mk (HM.out.turn hd hk); clear hd hk))
  replace HM : Aside0 (Mine W _ g bs bm aw3 3) := HM
  go_upto_region 9 with (go_at_call 20; refine (dirty_calls _ g bs bm _ _ HM.out.is).mono ?_; rintro e w1 ⟨rfl, hd⟩; replace HM := Aside0.mk (HM.out.drawn hd); clear hd; rw [aw_count])
  go_upto_region 10 with (go_at_call 12; refine (crash_calls _ g bs bm _ _ HM.out.is (by decide) 4 1 10 (by decide) (by decide)).mono ?_; rintro e w1 ⟨rfl, hd, hk⟩; replace HM := Aside0.mk (HM.out.turn hd hk); clear hd hk)
  replace HM : Aside0 (Mine W _ g bs bm aw4 0) := HM
  go_upto_region 11 with (go_at_call 9; refine (read_calls _ g bs bm _ _ HM.out.is 0 (by rw [aw_len]; decide)).mono ?_; rintro e w1 ⟨rfl, hd⟩; replace HM := Aside0.mk (HM.out.drawn hd); clear hd; rw [aw_0])
  go_upto_region 12 with (go_at_call 9; refine (read_calls _ g bs bm _ _ HM.out.is 1 (by rw [aw_len]; decide)).mono ?_; rintro e w1 ⟨rfl, hd⟩; replace HM := Aside0.mk (HM.out.drawn hd); clear hd; rw [aw_1])
  go_upto_region 13 with (go_at_call 9; refine (read_calls _ g bs bm _ _ HM.out.is 2 (by rw [aw_len]; decide)).mono ?_; rintro e w1 ⟨rfl, hd⟩; replace HM := Aside0.mk (HM.out.drawn hd); clear hd; rw [aw_2])
  go_upto_region 14 with (go_at_call 12; refine (crash_none _ g _ _ _ (by decide)).mono ?_; rintro e w1 ⟨rfl, hb⟩; replace HM := Aside0.mk (HM.out.below hb); clear hb)
  go_upto_region 15 with (go_at_call 9; refine (read_none _ g bs bm _ _ HM.out.is 3 (by rw [aw_len]; decide)).mono ?_; rintro e w1 ⟨rfl, hd⟩; replace HM := Aside0.mk (HM.out.drawn hd); clear hd)
  simp only [List.append]
  replace HM : Aside0 (Mine W (World.drew _) g bs bm aw4 0) := Aside0.mk (HM.out.drawn ⟨⟨1, rfl⟩⟩)
  have hs0 : (sec 2).size = 64 := sec_size 2
  have hs1 : (sec 0).size = 64 := sec_size 0
  go_region_held3 (fun _ => True) (trivial) (first
    | (go_at_call 13; refine (num_calls _ _).mono ?_; rintro e w1 ⟨rfl, hd⟩; replace HM := Aside0.mk (HM.out.drawn hd); clear hd)
    | (go_at_call 11; refine (sector_calls _ _).mono ?_; rintro e w1 ⟨rfl, hb⟩; replace HM := Aside0.mk (HM.out.below hb); clear hb)
    | (go_at_call 20; refine (dirty_calls _ g bs bm _ _ HM.out.is).mono ?_; rintro e w1 ⟨rfl, hd⟩; replace HM := Aside0.mk (HM.out.drawn hd); clear hd; rw [aw_count4])
    | (go_at_call 22; refine (sectors_calls _ g bs bm _ _ HM.out.is).mono ?_; rintro e w1 ⟨rfl, hd⟩; replace HM := Aside0.mk (HM.out.drawn hd); clear hd; rw [aw_len]))
  all_goals go_wp2
  all_goals go_ret
  all_goals exact ⟨rfl, HM.out.bel⟩
end Go.Proofs.Ytgdalpjglmlmkaa.D
