/-
  The disk's New, walked; a crash that is none.
-/
import Derived.Test.YtgdalpjglmlmkaaDRep
import Derived.Test.YtgdalpjglmlmkaaDCrashW
namespace Go.Proofs.Ytgdalpjglmlmkaa.D
open Go.RowKit Go.Maps Go.Proofs.YtgdalpjglmlmkaaW.PrintWords Go.Proofs.YtgdalpjglmlmkaaW.PrintLast Go.Proofs.YtgdalpjglmlmkaaW.PrintMore
set_option linter.unusedVariables false
set_option linter.unusedSimpArgs false

/-- a sector of one byte -/
def sec (c : Int) : ByteArray := strOfNums (List.replicate 64 (c % 256))
theorem sec0 : strOfNums (List.replicate 64 0) = sec 0 := rfl
theorem sec_size (c : Int) : (sec c).size = 64 := by
  rfl
/-- a new disk -/
def Dk.fresh (n : Nat) : Dk := ⟨List.replicate n (sec 0), List.replicate n none⟩
set_option maxHeartbeats 4000000 in
set_option maxRecDepth 100000 in
theorem new_none (W : World) (n : Int) (h : ¬ (1 ≤ n ∧ n ≤ 1024)) :
    Calls Try.prog 8 #[.int .i64 n] W fun e W' => e = .returned (.tuple #[.pointer none, .int .i64 800]) ∧ Drawn0 W W' := by
  by_cases h1 : n < 1
  · go_enter Try.func8, Try.ntmps8
    go_wp2
    go_ret2
    exact ⟨rfl, Drawn0.refl _⟩
  · have h2 : 1024 < n := by omega
    go_enter Try.func8, Try.ntmps8
    go_wp2
    go_ret2
    exact ⟨rfl, Drawn0.refl _⟩
set_option maxHeartbeats 4000000 in
set_option maxRecDepth 100000 in
theorem new_calls (W : World) (n : Nat) (h1 : 1 ≤ n) (h2 : n ≤ 1024) :
    Calls Try.prog 8 #[.int .i64 n] W fun e W' => ∃ g bs bm, e = .returned (.tuple #[.pointer (some ⟨g, 0, none⟩), .int .i64 0]) ∧ DiskIs W' g bs bm (Dk.fresh n) 0 ∧ Below W.heap.size W W' ∧ W.heap.size ≤ g ∧ W.heap.size ≤ bs ∧ W.heap.size ≤ bm := by
  go_enter Try.func8, Try.ntmps8
  go_wp2_with (first
    | ((with_reducible refine gate_dst (N := 11) rfl ?_); refine Kd.R_make (Kd.int .u8) _ 5 rfl (N := 11) rfl 31 _ _ rfl 64 rfl rfl Try.underlying31 (.int .u8 0) 1 X.info5 rfl (by decide) (by omega) 0 (ok := fun _ => True) (okp := fun _ => True) rfl (fun _ hk => hk) trivial (by omega) (by omega) (Below.refl _ _) (Nat.le_refl _) ?_; intro v1 w1 ho hb hg_ hnew_; clear hg_ hnew_; simp only [Int.reduceToNat] at ho; have hcv := own_string (P := Try.prog) Try.underlying31 Try.underlying5 Try.underlying9 (Kd.own_of_R ho); rw [sec0] at hcv; have HB := Aside0.mk hb; clear hb ho)
    | (go_at_call 24; refine (repeat_calls _ w1.heap.size n (sec 0) (heap_alloc_new w1 _) h1 h2).mono ?_; rintro e w2 ⟨rfl, hr, hb2⟩; have HB2 := Aside0.mk (below_step (below_alloc HB.out _) hb2); have HR := Aside0.mk hr; clear hr hb2; have hmk := run_makeMap (P := Try.prog) 59 w2))
  go_ret2
  have e1 : (w1.alloc (.cells #[.string (sec 0)] 9)).heap.size = w1.heap.size + 1 := Array.size_push _
  have hr := HR.out
  rw [e1] at hr
  have hl1 := blk_lt hr
  have hs1 := HB.out.size
  have hs2 := HB2.out.size
  have e2 : (w2.alloc (.map #[] 0)).heap.size = w2.heap.size + 1 := Array.size_push _
  have hg := heap_alloc_new (w2.alloc (.map #[] 0)) (.cells #[.slice (some ⟨w1.heap.size + 1, 0, none⟩) n n, .map (some w2.heap.size), .int .i64 0] 66)
  rw [e2] at hg
  have hm0 := heap_alloc_new w2 (.map #[] 0)
  have hm := (Below.heap_alloc (w2.alloc (.map #[] 0)) (.cells #[.slice (some ⟨w1.heap.size + 1, 0, none⟩) n n, .map (some w2.heap.size), .int .i64 0] 66) w2.heap.size (by rw [e2]; omega)).trans hm0
  have hr2 := (Below.heap_alloc (w2.alloc (.map #[] 0)) (.cells #[.slice (some ⟨w1.heap.size + 1, 0, none⟩) n n, .map (some w2.heap.size), .int .i64 0] 66) (w1.heap.size + 1) (by rw [e2]; omega)).trans ((Below.heap_alloc w2 (.map #[] 0) (w1.heap.size + 1) hl1).trans hr)
  refine ⟨w2.heap.size + 1, w1.heap.size + 1, w2.heap.size, rfl, ⟨?_, ?_, ⟨.map [], ⟨#[], 0, hm, ⟨by simp, Go.MapKept.stamped_empty 0, by simp⟩, Nat.le_refl _, rfl⟩, fun i hi => ?_, fun kl hkl => by cases hkl⟩, ?_, ?_, ?_, fun s hs => ?_, fun i s hs => ?_⟩, below_alloc (below_alloc HB2.out _) _, by omega, by omega, by omega⟩
  · have hc : count (Dk.fresh n).F = 0 := by
      unfold count Dk.fresh
      rw [List.countP_eq_zero]
      intro x hx
      rw [(List.mem_replicate.1 hx).2]
      simp
    rw [hc]
    simpa [Dk.fresh] using hg
  · simpa [Dk.fresh] using hr2
  · have : (Dk.fresh n).F.getD i none = none := by
      simp only [Dk.fresh, List.getD_eq_getElem?_getD, List.getElem?_replicate]
      split <;> rfl
    rw [this]
    exact ⟨rfl, fun s hs => by cases hs⟩
  · simp [Dk.fresh]
  · simp [Dk.fresh]; omega
  · simpa [Dk.fresh] using h2
  · rw [(List.mem_replicate.1 hs).2]; exact sec_size 0
  · have : (Dk.fresh n).F.getD i none = none := by
      simp only [Dk.fresh, List.getD_eq_getElem?_getD, List.getElem?_replicate]
      split <;> rfl
    rw [this] at hs
    cases hs
set_option maxHeartbeats 4000000 in
set_option maxRecDepth 100000 in
theorem crash_none (W : World) (g : Nat) (keep torn bytes : Int) (h : ¬ (0 ≤ bytes ∧ bytes ≤ 64)) :
    Calls Try.prog 12 #[.pointer (some ⟨g, 0, none⟩), .agg #[.int .i64 keep, .int .i64 torn, .int .i64 bytes]] W fun e W' => e = .returned (.int .i64 800) ∧ Below W.heap.size W W' := by
  by_cases h1 : bytes < 0
  · go_enter Try.func12, Try.ntmps12
    go_wp2
    go_ret
    exact ⟨rfl, below_alloc (Below.refl _ _) _⟩
  · have h2 : 64 < bytes := by omega
    go_enter Try.func12, Try.ntmps12
    go_wp2
    go_ret
    exact ⟨rfl, below_alloc (Below.refl _ _) _⟩
theorem num_calls (a : Int) (W : World) : Calls Try.prog 13 #[.int .i64 a] W fun e w' => e = .returned (.int .i64 a) ∧ Drawn0 W w' := by
  go_enter Try.func13, Try.ntmps13
  go_wp2
  go_ret
  exact ⟨rfl, Drawn0.refl _⟩
end Go.Proofs.Ytgdalpjglmlmkaa.D
