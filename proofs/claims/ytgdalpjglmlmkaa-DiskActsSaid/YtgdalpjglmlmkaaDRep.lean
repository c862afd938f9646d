/-
  slices.Repeat at one string, walked: the row doubles till it is full.
-/
import Derived.Test.YtgdalpjglmlmkaaX1
import Derived.Test.YtgdalpjglmlmkaaDBase
import Derived.Laws.CopyOwn
import Derived.Deep.OwnRows
import Derived.StillTailTactics
namespace Go.Proofs.Ytgdalpjglmlmkaa.D
open Go.RowKit Go.Maps Go.Proofs.YtgdalpjglmlmkaaW.PrintWords Go.Proofs.YtgdalpjglmlmkaaW.PrintLast Go.Proofs.YtgdalpjglmlmkaaW.PrintMore
set_option linter.unusedVariables false
set_option linter.unusedSimpArgs false

theorem mul_all : ((List.range 1025).all fun n => decide (X.bits_Mul.f 1 (n : Int) = some (0, (n : Int)))) = true := by decide +kernel
theorem mul_one (n : Nat) (h : n ≤ 1024) : X.bits_Mul.f 1 (n : Int) = some (0, (n : Int)) :=
  of_decide_eq_true (List.all_eq_true.1 mul_all n (List.mem_range.2 (by omega)))
theorem mul_calls (n : Nat) (h : n ≤ 1024) (W : World) : Calls Try.prog 30 #[.int .u64 1, .int .u64 n] W fun e w' => e = .returned (.tuple #[.int .u64 0, .int .u64 n]) ∧ Drawn0 W w' :=
  X.bits_Mul.calls 1 n 0 n W (mul_one n h)
theorem info9 : (Try.prog.info? 9).map (fun i => (i.zero, i.size, i.bytes)) = some (some (.string ByteArray.empty), 1, 16) := by kernel_rfl
theorem info9s : (Try.prog.info? 9).map (·.size) = some 1 := by kernel_rfl
theorem made9 (n : Nat) : madeCells #[Value.string ByteArray.empty] n = (List.replicate n (Value.string ByteArray.empty)).toArray := by
  rw [← toList_madeCells_one]
def rowR (Z : ByteArray) (k n : Nat) : List Value := List.replicate k (Value.string Z) ++ List.replicate (n - k) (Value.string ByteArray.empty)
theorem rowR_len (Z : ByteArray) (k n : Nat) (h : k ≤ n) : (rowR Z k n).length = n := by simp [rowR]; omega
theorem rowR_splice (Z : ByteArray) (k c n : Nat) (h : k + c ≤ n) : splice (rowR Z k n) k (List.replicate c (Value.string Z)) = rowR Z (k + c) n := by
  unfold splice rowR
  have e1 : (List.replicate k (Value.string Z) ++ List.replicate (n - k) (Value.string ByteArray.empty)).take k = List.replicate k (Value.string Z) := by
    rw [List.take_append_of_le_length (by simp)]; simp
  have e2 : (List.replicate k (Value.string Z) ++ List.replicate (n - k) (Value.string ByteArray.empty)).drop (k + (List.replicate c (Value.string Z)).length) = List.replicate (n - (k + c)) (Value.string ByteArray.empty) := by
    rw [List.drop_append]
    simp [show n - k - c = n - (k + c) by omega]
  rw [e1, e2, ← List.append_assoc, List.replicate_append_replicate]
theorem rowR_full (Z : ByteArray) (n : Nat) : rowR Z n n = List.replicate n (Value.string Z) := by simp [rowR]
theorem rowR_zero (Z : ByteArray) (n : Nat) : rowR Z 0 n = List.replicate n (Value.string ByteArray.empty) := by simp [rowR]
theorem rowR_get (Z : ByteArray) (k n j : Nat) (h : j < k) : (rowR Z k n)[j]? = some (.string Z) := by
  unfold rowR
  rw [List.getElem?_append_left (by simpa using h)]
  simp [h]

set_option maxHeartbeats 4000000 in
set_option maxRecDepth 100000 in
theorem repeat_calls (W : World) (b n : Nat) (Z : ByteArray) (hc : W.heap[b]? = some (.cells #[.string Z] 9 (0, 0))) (h1 : 1 ≤ n) (h2 : n ≤ 1024) :
    Calls Try.prog 24 #[.slice (some ⟨b, 0, none⟩) 1 1, .int .i64 n] W fun e W' => e = .returned (.slice (some ⟨W.heap.size, 0, none⟩) n n) ∧ W'.heap[W.heap.size]? = some (.cells (List.replicate n (Value.string Z)).toArray 9 (0, 0)) ∧ Below W.heap.size W W' := by
  have hbl := blk_lt hc
  have HC := Aside0.mk hc
  clear hc
  have q1 : Aside0 ((List.replicate 1 (Value.string Z)).length = Nat.min 1 n) := ⟨show 1 = min 1 n by omega⟩
  have q2 : Aside0 (∀ v ∈ List.replicate 1 (Value.string Z), v.oneCell' = true) := ⟨fun v hv => by rw [(List.mem_replicate.1 hv).2]; rfl⟩
  have q3 : Aside0 (0 + (List.replicate 1 (Value.string Z)).length ≤ (rowR Z 0 n).length) := ⟨by rw [rowR_len Z 0 n (by omega)]; simp; omega⟩
  obtain ⟨i9, hi9, hz9, hs9, hb9⟩ := info_parts info9
  go_enter Try.func24, Try.ntmps24
  go_wp2_with (first
    | (go_at_call 30; refine (mul_calls n h2 _).mono ?_; rintro e w1 ⟨rfl, ⟨m, rfl⟩⟩)
    | (at_make; refine wpList_make_row _ rfl _ _ 57 rfl 9 i9 (.string ByteArray.empty) Try.underlying57 hi9 hz9 hs9 rfl .i64 .i64 n rfl rfl (by rw [hb9]; omega) (by omega) ?_; rw [made9, ← rowR_zero Z]; have HG1 : ((W.drewN m).alloc (.cells (rowR Z 0 n).toArray 9)).heap[W.heap.size]? = some (.cells (rowR Z 0 n).toArray 9 (0, 0)) := heap_alloc_new (W.drewN m) _; have HB1 : Below W.heap.size W ((W.drewN m).alloc (.cells (rowR Z 0 n).toArray 9)) := below_alloc (pw_below_drewN (Below.refl _ _) m) _; generalize ((W.drewN m).alloc (.cells (rowR Z 0 n).toArray 9)) = w1 at HG1 HB1 ⊢; have HG1' := Aside0.mk HG1; have HB1' := Aside0.mk HB1; have HS1 : w1.cell? ⟨b, 0, none⟩ = some (.string Z) := (blk_cell ((HB1.block b hbl).trans HC.out) 0).trans rfl; have HS1' := Aside0.mk HS1; clear HG1 HB1 HS1)
    | ((with_reducible refine gate_dst (N := 33) rfl ?_); refine wpList_copy_splice rfl _ _ 57 57 rfl 9 Try.underlying57 info9s _ _ _ _ _ _ rfl rfl W.heap.size 0 (rowR Z 0 n) 9 HG1'.out (List.replicate 1 (Value.string Z)) q1.out (fun _ => ⟨rfl, _, rfl, fun j v hj => by cases j with | zero => (injection hj with hj; subst hj; exact HS1'.out) | succ j => exact absurd hj (by simp)⟩) q3.out q2.out W.heap.size W HB1'.out (Nat.le_refl _) ?_; intro w2 HG2 hB2; rw [rowR_splice Z 0 1 n (by omega)] at HG2; have HB2 := Aside0.mk hB2; clear hB2 HG1' HB1' HS1'))

  clear hi9 hz9 hs9 hb9 HC q1 q2 q3
  go_loopw [8] (fun v wr => ∃ k : Nat, v = .int .i64 k ∧ Aside0 (1 ≤ k ∧ k ≤ n) ∧ Aside0 (wr.heap[W.heap.size]? = some (.cells (rowR Z k n).toArray 9 (0, 0))) ∧ Aside0 (Below W.heap.size W wr)) (fun v _ => n - (intOf v).toNat)
  case atStart => exact ⟨1, rfl, ⟨by omega⟩, ⟨HG2.out⟩, HB2⟩
  case round =>
    clear HG2 HB2
    obtain ⟨k, rfl, hk, HG, HB⟩ := hrel
    obtain ⟨hk1, hk2⟩ := hk.out
    clear hk
    by_cases hlt : k < n
    · go_wp2
      obtain ⟨c, hc⟩ : ∃ c, c = min k (n - k) := ⟨_, rfl⟩
      have q1 : Aside0 ((List.replicate c (Value.string Z)).length = Nat.min k (n - k)) := ⟨by rw [List.length_replicate, hc]⟩
      have q2 : Aside0 (∀ v ∈ List.replicate c (Value.string Z), v.oneCell' = true) := ⟨fun v hv => by rw [(List.mem_replicate.1 hv).2]; rfl⟩
      have q3 : Aside0 (k + (List.replicate c (Value.string Z)).length ≤ (rowR Z k n).length) := ⟨by rw [rowR_len Z k n (by omega), List.length_replicate]; omega⟩
      have q4 : Aside0 (∀ j v, (List.replicate c (Value.string Z))[j]? = some v → wr.drew.cell? (Addr.add ⟨W.heap.size, 0, none⟩ j) = some v) := ⟨fun j v hj => by
        obtain ⟨hj1, hj2⟩ := List.getElem?_eq_some_iff.1 hj
        rw [List.length_replicate] at hj1
        rw [List.getElem_replicate] at hj2
        subst hj2
        rw [show (Addr.add ⟨W.heap.size, 0, none⟩ j) = ⟨W.heap.size, j, none⟩ by cases j <;> simp [Addr.add], blk_cell (w := wr.drew) HG.out j]
        simp [rowR_get Z k n j (by omega)]⟩
      have q5 : Aside0 (c = min k (n - k)) := ⟨hc⟩
      have q6 : Aside0 (¬ (n = k)) := ⟨by omega⟩
      have hw : IntKind.i64.wrap ((k : Int) + (c : Int)) = ((k + c : Nat) : Int) := by rw [IntKind.wrap_i64]; omega
      have hw' := Aside0.mk hw
      clear hc hw
      go_region_law (refine step_copy_splice rfl (.tmp 41) (.tmp 44) 57 57 rfl 9 Try.underlying57 info9s (some ⟨W.heap.size, k, none⟩) (some ⟨W.heap.size, 0, none⟩) (n - k) (n - k) k n (by simp [Act.eval, Act.put, q6.out]) (by simp [Act.eval, Act.put]) W.heap.size k (rowR Z k n) 9 HG.out (List.replicate c (Value.string Z)) q1.out (fun _ => ⟨rfl, _, rfl, q4.out⟩) q3.out q2.out W.heap.size W (below_drew HB.out) (Nat.le_refl _) ?_; intro w4 HG4 hB4; rw [rowR_splice Z k c n (by have := q5.out; omega)] at HG4; rw [List.length_replicate]; have HB4 := Aside0.mk hB4; clear hB4 q1 q2 q3 q4 q6)
      all_goals go_wp2
      all_goals rw [hw'.out]
      all_goals (go_roundw; (case rel => have hq := q5.out; first | exact ⟨k + c, rfl, ⟨by omega⟩, ⟨HG4.out⟩⟩ | exact ⟨k + c, rfl, ⟨by omega⟩, ⟨HG4.out⟩, HB4⟩); (case measure => have := q5.out; simp [intOf]; omega))
    · obtain rfl : k = n := by omega
      go_wp2
      go_ret
      exact ⟨rfl, by rw [← rowR_full]; exact HG.out, HB.out⟩
end Go.Proofs.Ytgdalpjglmlmkaa.D
