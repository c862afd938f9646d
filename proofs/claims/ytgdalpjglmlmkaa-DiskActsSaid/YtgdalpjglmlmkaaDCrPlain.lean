/-
  What a crash leaves, sector by sector: plain.
-/
import Derived.Test.YtgdalpjglmlmkaaDLast
namespace Go.Proofs.Ytgdalpjglmlmkaa.D
open Go.RowKit Go.Maps Go.Proofs.YtgdalpjglmlmkaaW.PrintWords Go.Proofs.YtgdalpjglmlmkaaW.PrintLast Go.Proofs.YtgdalpjglmlmkaaW.PrintMore
set_option linter.unusedVariables false
set_option linter.unusedSimpArgs false

theorem crashRun_other (k t b : Int) (d : Dk) : ∀ (js : List Nat) (i : Nat) (S' : List ByteArray) (j : Nat), j ∉ js → (crashRun k t b d i js S').getD j ByteArray.empty = S'.getD j ByteArray.empty
  | [], i, S', j, _ => rfl
  | x :: js, i, S', j, h => by
    have hne : j ≠ x := fun e => h (by rw [e]; exact List.mem_cons_self)
    rw [crashRun, crashRun_other k t b d js _ _ j (fun hh => h (List.mem_cons_of_mem _ hh)), getD_set_other _ _ _ _ _ hne]
theorem crashRun_at (k t b : Int) (d : Dk) : ∀ (js : List Nat) (i : Nat) (S' : List ByteArray) (p j : Nat), js.Nodup → js[p]? = some j → j < S'.length →
    (crashRun k t b d i js S').getD j ByteArray.empty = pickS k t b (i + p) (d.now j) (S'.getD j ByteArray.empty)
  | [], i, S', p, j, _, h, _ => by simp at h
  | x :: js, i, S', p, j, hn, h, hj => by
    rw [List.nodup_cons] at hn
    rw [crashRun]
    cases p with
    | zero =>
      have hx : x = j := by simpa using h
      subst hx
      rw [crashRun_other _ _ _ _ _ _ _ _ hn.1, getD_set_same _ _ _ _ hj]
      rfl
    | succ p =>
      have hm : js[p]? = some j := by simpa using h
      have hne : j ≠ x := fun e => hn.1 (e ▸ List.mem_of_getElem? hm)
      rw [crashRun_at k t b d js (i + 1) _ p j hn.2 hm (by rw [List.length_set]; exact hj), getD_set_other _ _ _ _ _ hne, show i + 1 + p = i + (p + 1) by omega]
/-- how many of the first k are dirty -/
def rank (B : List Bool) (k : Nat) : Nat := ((List.range k).filter fun i => B.getD i false).length
theorem rank_succ (B : List Bool) (k : Nat) : rank B (k + 1) = rank B k + (if B.getD k false = true then 1 else 0) := by
  unfold rank
  rw [List.range_succ, List.filter_append, List.length_append]
  congr 1
  cases h : B.getD k false with
  | true =>
    have e : List.filter (fun i => B.getD i false) [k] = [k] := by rw [List.filter_cons_of_pos (by exact h)]; rfl
    rw [e]; rfl
  | false =>
    have e : List.filter (fun i => B.getD i false) [k] = [] := by rw [List.filter_cons_of_neg (by rw [h]; simp)]; rfl
    rw [e]; rfl
theorem rank_le (B : List Bool) (k : Nat) : rank B k ≤ k := by
  unfold rank
  have := List.length_filter_le (fun i => B.getD i false) (List.range k)
  simpa using this
theorem rank_at (B : List Bool) (k : Nat) (h : B.getD k false = true) : ∀ m : Nat, ((List.range (k + 1 + m)).filter fun i => B.getD i false)[rank B k]? = some k
  | 0 => by
    rw [Nat.add_zero, List.range_succ, List.filter_append]
    have e : List.filter (fun i => B.getD i false) [k] = [k] := by rw [List.filter_cons_of_pos (by exact h)]; rfl
    rw [e, List.getElem?_append_right (by exact Nat.le_refl _)]
    unfold rank
    rw [Nat.sub_self]
    rfl
  | m + 1 => by
    have ih := rank_at B k h m
    rw [show k + 1 + (m + 1) = (k + 1 + m) + 1 by omega, List.range_succ, List.filter_append, List.getElem?_append_left (List.getElem?_eq_some_iff.1 ih).1]
    exact ih
theorem keys_eq {d : Dk} {B : List Bool} (h : ∀ k, k < d.F.length → (d.F.getD k none).isSome = B.getD k false) : d.keys = (List.range d.F.length).filter fun i => B.getD i false := by
  unfold Dk.keys
  apply List.filter_congr
  intro i hi
  exact h i (List.mem_range.1 hi)
/-- the law's own word for what a sector holds behind a crash -/
def want (keep torn bytes : Int) (ws is : List Int) (B : List Bool) (k : Nat) : ByteArray :=
  if B.getD k false = true then
    (if (rank B k : Int) = torn then (sec (is.getD k 0)).extract 0 bytes.toNat ++ (sec (ws.getD k 0)).extract bytes.toNat 64 else if Go.bits .and .i64 (keep / 2 ^ rank B k) 1 = 1 then sec (is.getD k 0) else sec (ws.getD k 0))
  else sec (ws.getD k 0)
theorem cr_want {d : Dk} {ws is : List Int} {B : List Bool} (keep torn bytes : Int) (h0 : 0 ≤ bytes) (h1 : bytes ≤ 64) (hS : d.S.length = 16) (hF : d.F.length = d.S.length) (h2 : ∀ k, k < 16 → d.S.getD k ByteArray.empty = sec (ws.getD k 0))
    (h3 : ∀ k, k < 16 → d.F.getD k none = if B.getD k false = true then some (sec (is.getD k 0)) else none) (k : Nat) (hk : k < 16) : (d.cr keep torn bytes).now k = want keep torn bytes ws is B k := by
  have hkeys : d.keys = (List.range 16).filter fun i => B.getD i false := by
    rw [keys_eq (B := B) (fun j hj => by rw [h3 j (by omega)]; cases B.getD j false <;> rfl), hF, hS]
  unfold Dk.cr
  rw [if_pos ⟨h0, h1⟩]
  show (((d.F.map fun _ => (none : Option ByteArray)).getD k none).getD ((crashRun keep torn bytes d 0 d.keys d.S).getD k ByteArray.empty)) = _
  rw [getD_map_none]
  show (crashRun keep torn bytes d 0 d.keys d.S).getD k ByteArray.empty = _
  unfold want
  cases hB : B.getD k false with
  | false =>
    rw [if_neg (by simp), crashRun_other _ _ _ _ _ _ _ _ (by rw [hkeys]; intro hm; have := (List.mem_filter.1 hm).2; rw [hB] at this; cases this), h2 k hk]
  | true =>
    rw [if_pos rfl]
    have hat : d.keys[rank B k]? = some k := by
      rw [hkeys]
      have := rank_at B k hB (16 - (k + 1))
      rwa [show k + 1 + (16 - (k + 1)) = 16 by omega] at this
    have hnow : d.now k = sec (is.getD k 0) := by
      unfold Dk.now
      rw [h3 k hk, if_pos hB]
      rfl
    rw [crashRun_at keep torn bytes d d.keys 0 d.S (rank B k) k (keys_nodup d) hat (by omega), hnow, h2 k hk, Nat.zero_add]
    unfold pickS
    by_cases ht : (rank B k : Int) = torn
    · rw [if_pos ht, if_pos ht, sec_size]
    · rw [if_neg ht, if_neg ht]
      have hr := rank_le B k
      by_cases hb : Go.bits .and .i64 (keep / 2 ^ rank B k) 1 = 1
      · rw [if_pos hb, if_pos ⟨by omega, hb⟩]
      · rw [if_neg hb, if_neg (fun hh => hb hh.2)]
end Go.Proofs.Ytgdalpjglmlmkaa.D
