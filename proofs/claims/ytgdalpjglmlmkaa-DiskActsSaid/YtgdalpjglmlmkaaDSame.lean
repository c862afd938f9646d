/-
  The program's disk and the document's answer alike: plain.
-/
import Derived.Test.YtgdalpjglmlmkaaDRefCr
namespace Go.Proofs.Ytgdalpjglmlmkaa.D
open Go.RowKit Go.Maps Go.Proofs.YtgdalpjglmlmkaaW.PrintWords Go.Proofs.YtgdalpjglmlmkaaW.PrintLast Go.Proofs.YtgdalpjglmlmkaaW.PrintMore
set_option linter.unusedVariables false
set_option linter.unusedSimpArgs false

structure Same (d : Dk) (R : Rk) : Prop where
  ls : R.now.length = d.S.length
  lt : R.then_.length = d.S.length
  lb : R.dirty.length = d.S.length
  lf : d.F.length = d.S.length
  now : ∀ k, k < d.S.length → R.now.getD k ByteArray.empty = d.now k
  th : ∀ k, k < d.S.length → R.then_.getD k ByteArray.empty = d.S.getD k ByteArray.empty
  di : ∀ k, k < d.S.length → R.dirty.getD k false = (d.F.getD k none).isSome
theorem getD_rep {α : Type} (x z : α) (n k : Nat) (h : k < n) : (List.replicate n x).getD k z = x := by simp [h]
theorem same_fresh (n : Nat) : Same (Dk.fresh n) (Rk.fresh n) := by
  have l : (Dk.fresh n).S.length = n := by simp [Dk.fresh]
  refine ⟨by simp [Dk.fresh, Rk.fresh], by simp [Dk.fresh, Rk.fresh], by simp [Dk.fresh, Rk.fresh], by simp [Dk.fresh], fun k hk => ?_, fun k hk => rfl, fun k hk => ?_⟩
  · rw [l] at hk
    rw [Dk.fresh_now n k hk]
    exact getD_rep _ _ _ _ hk
  · rw [l] at hk
    show (List.replicate n false).getD k false = ((List.replicate n (none : Option ByteArray)).getD k none).isSome
    rw [getD_rep _ _ _ _ hk, getD_rep _ _ _ _ hk]
    rfl
section
variable {d : Dk} {R : Rk}
theorem Same.inB (h : Same d R) (i : Int) : R.inB i ↔ d.inB i := by unfold Rk.inB Dk.inB; rw [h.ls]
theorem Same.rd (h : Same d R) (i : Int) : R.rd i = d.rd i := by
  unfold Rk.rd Dk.rd
  by_cases hi : d.inB i
  · rw [if_pos hi, if_pos ((h.inB i).2 hi), h.now _ (by have := hi.1; have := hi.2; omega)]
  · rw [if_neg hi, if_neg (fun hh => hi ((h.inB i).1 hh))]
theorem Same.rdE (h : Same d R) (i : Int) : R.rdE i = d.rdE i := by
  unfold Rk.rdE Dk.rdE
  by_cases hi : d.inB i
  · rw [if_pos hi, if_pos ((h.inB i).2 hi)]
  · rw [if_neg hi, if_neg (fun hh => hi ((h.inB i).1 hh))]
theorem Same.wrE (h : Same d R) (i : Int) (s : ByteArray) : R.wrE i s = d.wrE i s := by
  unfold Rk.wrE Dk.wrE
  by_cases hi : d.inB i ∧ s.size = 64
  · rw [if_pos hi, if_pos ⟨(h.inB i).2 hi.1, hi.2⟩]
  · rw [if_neg hi, if_neg (fun hh => hi ⟨(h.inB i).1 hh.1, hh.2⟩)]
theorem Same.wr (h : Same d R) (i : Int) (s : ByteArray) : Same (d.wr i s) (R.wr i s) := by
  unfold Rk.wr Dk.wr
  by_cases hi : d.inB i ∧ s.size = 64
  · rw [if_pos hi, if_pos ⟨(h.inB i).2 hi.1, hi.2⟩]
    have hn : i.toNat < d.S.length := by have := hi.1.1; have := hi.1.2; omega
    have l1 := h.lf; have l2 := h.ls; have l3 := h.lb
    refine ⟨by rw [List.length_set]; exact h.ls, h.lt, by rw [List.length_set]; exact h.lb, by simpa [Dk.write] using h.lf, fun k hk => ?_, h.th, fun k hk => ?_⟩
    · have hk' : k < d.S.length := hk
      rw [Dk.now_write _ _ _ _ (by omega)]
      by_cases hki : k = i.toNat
      · rw [if_pos hki, hki]
        exact getD_set_same _ _ _ _ (by omega)
      · rw [if_neg hki, ← h.now k hk']
        exact getD_set_other _ _ _ _ _ hki
    · have hk' : k < d.S.length := hk
      show (R.dirty.set i.toNat true).getD k false = ((d.F.set i.toNat (some s)).getD k none).isSome
      by_cases hki : k = i.toNat
      · subst hki
        rw [getD_set_same _ _ _ _ (by omega), getD_set_same _ _ _ _ (by omega)]
        rfl
      · rw [getD_set_other _ _ _ _ _ hki, getD_set_other _ _ _ _ _ hki, h.di k hk']
  · rw [if_neg hi, if_neg (fun hh => hi ⟨(h.inB i).1 hh.1, hh.2⟩)]
    exact h
theorem Same.sync (h : Same d R) : Same d.synced R.sync := by
  have hl := Dk.synced_len d
  refine ⟨by rw [hl]; exact h.ls, by rw [hl]; exact h.ls, by rw [hl]; simp [Rk.sync, h.ls], by rw [hl, Dk.synced_flen]; exact h.lf, fun k hk => ?_, fun k hk => ?_, fun k hk => ?_⟩
  · rw [hl] at hk
    rw [Dk.now_synced d k hk]
    exact h.now k hk
  · rw [hl] at hk
    show R.now.getD k ByteArray.empty = d.nowL.getD k ByteArray.empty
    rw [h.now k hk]
    simp [Dk.nowL, hk]
  · rw [hl] at hk
    show (List.replicate R.now.length false).getD k false = ((d.F.map fun _ => (none : Option ByteArray)).getD k none).isSome
    rw [getD_map_none, getD_rep _ _ _ _ (by rw [h.ls]; exact hk)]
    rfl
theorem Same.keys (h : Same d R) : d.keys = (List.range d.S.length).filter fun i => R.dirty.getD i false := by
  rw [keys_eq (B := R.dirty) (fun j hj => (h.di j (by rw [← h.lf]; exact hj)).symm), h.lf]
theorem Same.num (h : Same d R) : rank R.dirty R.now.length = count d.F := by
  have h1 : d.keys.length = rank R.dirty R.now.length := by rw [h.keys, h.ls]; rfl
  rw [← h1]
  have h2 : d.F = (List.range d.F.length).map (fun i => d.F.getD i none) := by
    apply List.ext_getElem
    · simp
    · intro k h1 h2
      simp [h1]
  unfold Dk.keys count
  conv => rhs; rw [h2]
  rw [List.countP_map, List.countP_eq_length_filter]
  rfl
theorem Same.crash (h : Same d R) (keep torn bytes : Int) : Same (d.cr keep torn bytes) (R.cr keep torn bytes) := by
  unfold Dk.cr Rk.cr
  by_cases hb : 0 ≤ bytes ∧ bytes ≤ 64
  · rw [if_pos hb, if_pos hb]
    have hl : (crashRun keep torn bytes d 0 d.keys d.S).length = d.S.length := crashRun_len _ _ _ _ _ _ _
    have hc : (crAll keep torn bytes R.now R.then_ R.dirty).length = d.S.length := by simp [crAll, h.ls]
    have key : ∀ k, k < d.S.length → (crAll keep torn bytes R.now R.then_ R.dirty).getD k ByteArray.empty = (crashRun keep torn bytes d 0 d.keys d.S).getD k ByteArray.empty := by
      intro k hk
      rw [crAll_getD _ _ _ _ _ _ _ (by rw [h.ls]; exact hk)]
      unfold crOne
      have hdi := h.di k hk
      cases hB : R.dirty.getD k false with
      | false =>
        rw [if_neg (by simp), crashRun_other _ _ _ _ _ _ _ _ (by rw [h.keys]; intro hm; have := (List.mem_filter.1 hm).2; rw [hB] at this; cases this), h.now k hk]
        rw [hB] at hdi
        unfold Dk.now
        cases hF : d.F.getD k none with
        | none => rfl
        | some f => rw [hF] at hdi; cases hdi
      | true =>
        have hat : d.keys[rank R.dirty k]? = some k := by
          rw [h.keys]
          have := rank_at R.dirty k hB (d.S.length - (k + 1))
          rwa [show k + 1 + (d.S.length - (k + 1)) = d.S.length by omega] at this
        rw [if_pos rfl, crashRun_at keep torn bytes d d.keys 0 d.S (rank R.dirty k) k (keys_nodup d) hat hk, h.now k hk, h.th k hk, Nat.zero_add]
    refine ⟨by show (crAll keep torn bytes R.now R.then_ R.dirty).length = (crashRun keep torn bytes d 0 d.keys d.S).length; rw [hc, hl], by show (crAll keep torn bytes R.now R.then_ R.dirty).length = (crashRun keep torn bytes d 0 d.keys d.S).length; rw [hc, hl], by show (List.replicate (crAll keep torn bytes R.now R.then_ R.dirty).length false).length = (crashRun keep torn bytes d 0 d.keys d.S).length; rw [List.length_replicate, hc, hl], by show (d.F.map fun _ => (none : Option ByteArray)).length = (crashRun keep torn bytes d 0 d.keys d.S).length; rw [List.length_map, hl, h.lf], fun k hk => ?_, fun k hk => ?_, fun k hk => ?_⟩
    · have hk' : k < d.S.length := by rw [← hl]; exact hk
      show (crAll keep torn bytes R.now R.then_ R.dirty).getD k ByteArray.empty = ((d.F.map fun _ => (none : Option ByteArray)).getD k none).getD ((crashRun keep torn bytes d 0 d.keys d.S).getD k ByteArray.empty)
      rw [getD_map_none, key k hk']
      rfl
    · have hk' : k < d.S.length := by rw [← hl]; exact hk
      exact key k hk'
    · have hk' : k < d.S.length := by rw [← hl]; exact hk
      show (List.replicate (crAll keep torn bytes R.now R.then_ R.dirty).length false).getD k false = ((d.F.map fun _ => (none : Option ByteArray)).getD k none).isSome
      rw [getD_map_none, getD_rep _ _ _ _ (by rw [hc]; exact hk')]
      rfl
  · rw [if_neg hb, if_neg hb]
    exact h
end
end Go.Proofs.Ytgdalpjglmlmkaa.D
