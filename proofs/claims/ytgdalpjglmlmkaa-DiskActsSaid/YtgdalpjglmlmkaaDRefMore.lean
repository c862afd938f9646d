/-
  The document's disk: Sync, Dirty, Crash, walked.
-/
import Derived.Test.YtgdalpjglmlmkaaDRefOps
namespace Go.Proofs.Ytgdalpjglmlmkaa.D
open Go.RowKit Go.Maps Go.Proofs.YtgdalpjglmlmkaaW.PrintWords Go.Proofs.YtgdalpjglmlmkaaW.PrintLast Go.Proofs.YtgdalpjglmlmkaaW.PrintMore
set_option linter.unusedVariables false
set_option linter.unusedSimpArgs false

section
variable {W : World} {r b0 b1 b2 : Nat} {N T : List ByteArray} {B : List Bool}
theorem RefIs.putN (h : RefIs W r b0 b1 b2 ⟨N, T, B⟩) (i : Nat) (hi : i < N.length) (s : ByteArray) : RefIs (W.setCell ⟨b0, i, none⟩ (.string s)) r b0 b1 b2 ⟨N.set i s, T, B⟩ := by
  obtain ⟨a1, a2, a3, a4, a5⟩ := h.apart
  obtain ⟨c0, c1, c2, hb⟩ := h.box
  have k1 := kp_one W b0 i (.string s)
  have l1 := h.lt; have l2 := h.ld; have l3 := h.pos; have l4 := h.most
  simp only at l1 l2 l3 l4
  refine ⟨⟨c0, c1, c2, ?_⟩, h.now.put i hi s, h.th.turned k1 h.ne.symm, k1.blkOf h.dirty a4.symm, h.ne, by simp [l1], by simp [l2], by simpa using l3, by simpa using l4⟩
  have := k1.blkOf hb a1.symm
  simpa using this
theorem RefIs.putT (h : RefIs W r b0 b1 b2 ⟨N, T, B⟩) (i : Nat) (hi : i < T.length) (s : ByteArray) : RefIs (W.setCell ⟨b1, i, none⟩ (.string s)) r b0 b1 b2 ⟨N, T.set i s, B⟩ := by
  obtain ⟨a1, a2, a3, a4, a5⟩ := h.apart
  obtain ⟨c0, c1, c2, hb⟩ := h.box
  have k1 := kp_one W b1 i (.string s)
  exact ⟨⟨c0, c1, c2, k1.blkOf hb a2.symm⟩, h.now.turned k1 h.ne, h.th.put i hi s, k1.blkOf h.dirty a5.symm, h.ne, by simpa using h.lt, h.ld, h.pos, h.most⟩
theorem RefIs.putD (h : RefIs W r b0 b1 b2 ⟨N, T, B⟩) (i : Nat) (x : Bool) : RefIs (W.setCell ⟨b2, i, none⟩ (.bool x)) r b0 b1 b2 ⟨N, T, B.set i x⟩ := by
  obtain ⟨a1, a2, a3, a4, a5⟩ := h.apart
  obtain ⟨c0, c1, c2, hb⟩ := h.box
  have k1 := kp_one W b2 i (.bool x)
  exact ⟨⟨c0, c1, c2, k1.blkOf hb a3.symm⟩, h.now.turned k1 a4, h.th.turned k1 a5, ArrB.put h.dirty i x, h.ne, h.lt, by simpa using h.ld, h.pos, h.most⟩
end
theorem ext_getD {α : Type} (z : α) {a b : List α} (hl : a.length = b.length) (h : ∀ k, k < a.length → a.getD k z = b.getD k z) : a = b := by
  apply List.ext_getElem hl
  intro k h1 h2
  have := h k h1
  simpa [h1, h2] using this

set_option maxHeartbeats 4000000 in
set_option maxRecDepth 100000 in
theorem rsync {W : World} {r b0 b1 b2 : Nat} {N T : List ByteArray} {B : List Bool} (h : RefIs W r b0 b1 b2 ⟨N, T, B⟩) : Calls Try.prog 18 #[.pointer (some ⟨r, 0, none⟩)] W fun e W' => e = .returned (.tuple #[]) ∧ RefIs W' r b0 b1 b2 (Rk.sync ⟨N, T, B⟩) ∧ Kp W W' (RParts r b0 b1 b2) := by
  have HH := Aside0.mk h
  clear h
  go_enter Try.func18, Try.ntmps18
  go_wp2_with fail
  go_loopw [2] (fun v wr => ∃ (j : Nat) (T' : List ByteArray) (B' : List Bool), v = .int .i64 j ∧ Aside0 (j ≤ N.length ∧ (∀ k, k < j → T'.getD k ByteArray.empty = N.getD k ByteArray.empty) ∧ ∀ k, k < j → B'.getD k false = false) ∧ Aside0 (RefIs wr r b0 b1 b2 ⟨N, T', B'⟩) ∧ Aside0 (Kp W wr (RParts r b0 b1 b2))) (fun v _ => N.length - (intOf v).toNat)
  case atStart => exact ⟨0, T, B, rfl, ⟨⟨Nat.zero_le _, fun k hk => by omega, fun k hk => by omega⟩⟩, HH, ⟨Kp.refl _ _⟩⟩
  case round =>
    clear HH
    obtain ⟨j, T', B', rfl, HJ, HR, HK⟩ := hrel
    obtain ⟨c0, c1, c2, q0, q1, q2⟩ := HR.out.cells
    simp only at q0 q1 q2
    have l1 : T'.length = N.length := HR.out.lt
    have l2 : B'.length = N.length := HR.out.ld
    have hm : N.length ≤ 1024 := HR.out.most
    by_cases hj : j < N.length
    · have q3 := HR.out.now.cell j hj
      have q4 := HR.out.th.cell j (by simp only [l1]; exact hj)
      have q5 := HR.out.th.frozen j
      simp only at q3 q4 q5
      obtain ⟨s, hs⟩ : ∃ s, s = N.getD j ByteArray.empty := ⟨_, rfl⟩
      rw [← hs] at q3
      have HS := Aside0.mk hs
      clear hs
      go_wp2
      go_still_tail 13, (by kernel_rfl)
      change wpList _ _ _ _ _ wr.drew
      go_upto_region 4 with fail
      have HR2 : Aside0 (RefIs (World.drew (wr.setCell ⟨b1, j, none⟩ (.string s))) r b0 b1 b2 ⟨N, T'.set j s, B'⟩) := Aside0.mk ((RefIs.putT HR.out j (by rw [l1]; exact hj) s).drawn ⟨⟨1, rfl⟩⟩)
      have HK2 : Aside0 (Kp W (World.drew (wr.setCell ⟨b1, j, none⟩ (.string s))) (RParts r b0 b1 b2)) := Aside0.mk ((Kp.setCell (S := RParts r b0 b1 b2) HK.out (p := ⟨b1, j, none⟩) (.inl (show RParts r b0 b1 b2 b1 from .inr (.inr (.inl rfl)))) (.string s)).drewN 1)
      clear q0 q1 q2 q3 q4 q5 HR HK
      generalize World.drew (wr.setCell ⟨b1, j, none⟩ (.string s)) = w8 at HR2 HK2 ⊢
      obtain ⟨c3, c4, c5, q0, q1, q2⟩ := HR2.out.cells
      simp only at q0 q1 q2
      have q5 := HR2.out.dirty.cell j (by simp only [l2]; exact hj)
      have q6 : w8.frozen? ⟨b2, j, none⟩ = false := blk_frozen HR2.out.dirty j
      simp only at q5
      go_wp2
      have HJ2 : j + 1 ≤ N.length ∧ (∀ k, k < j + 1 → (T'.set j s).getD k ByteArray.empty = N.getD k ByteArray.empty) ∧ ∀ k, k < j + 1 → (B'.set j false).getD k false = false := by
        refine ⟨by omega, fun k hk => ?_, fun k hk => ?_⟩
        · by_cases hkj : k = j
          · subst hkj; rw [getD_set_same _ _ _ _ (by omega), HS.out]
          · rw [getD_set_other _ _ _ _ _ hkj]; exact HJ.out.2.1 k (by omega)
        · by_cases hkj : k = j
          · subst hkj; rw [getD_set_same _ _ _ _ (by omega)]
          · rw [getD_set_other _ _ _ _ _ hkj]; exact HJ.out.2.2 k (by omega)
      exact ⟨⟨j + 1, T'.set j s, B'.set j false, congrArg (Value.int .i64) (by omega), ⟨HJ2⟩, ⟨HR2.out.putD j false⟩, ⟨Kp.setCell (S := RParts r b0 b1 b2) HK2.out (p := ⟨b2, j, none⟩) (.inl (show RParts r b0 b1 b2 b2 from .inr (.inr (.inr rfl)))) _⟩⟩, by simp [intOf]; omega⟩
    · obtain ⟨h1, h2, h3⟩ := HJ.out
      obtain rfl : j = N.length := by omega
      have hT : T' = N := ext_getD ByteArray.empty l1 (fun k hk => h2 k (by omega))
      have hB : B' = List.replicate N.length false := ext_getD false (by simp [l2]) (fun k hk => by
        rw [h3 k (by omega)]
        simp only [List.getD_eq_getElem?_getD, List.getElem?_replicate]
        split <;> rfl)
      subst hT hB
      go_wp2
      exact ⟨rfl, .tuple #[], results_none rfl _ _ _, rfl, HR.out, HK.out⟩

set_option maxHeartbeats 4000000 in
set_option maxRecDepth 100000 in
theorem rdirty {W : World} {r b0 b1 b2 : Nat} {R : Rk} (h : RefIs W r b0 b1 b2 R) : Calls Try.prog 21 #[.pointer (some ⟨r, 0, none⟩)] W fun e W' => e = .returned (.int .i64 (rank R.dirty R.now.length)) ∧ Drawn0 W W' := by
  have HH := Aside0.mk h
  have hm : R.now.length ≤ 1024 := h.most
  have hl : R.dirty.length = R.now.length := h.ld
  clear h
  go_enter Try.func21, Try.ntmps21
  go_wp2_with fail
  go_loopw [3, 4] (fun v1 v2 wr => ∃ (j : Nat), v1 = .int .i64 (rank R.dirty j : Nat) ∧ v2 = .int .i64 j ∧ Aside0 (j ≤ R.now.length) ∧ Aside0 (Drawn0 W wr)) (fun _ v _ => R.now.length - (intOf v).toNat)
  case atStart => exact ⟨0, rfl, rfl, ⟨Nat.zero_le _⟩, ⟨Drawn0.refl _⟩⟩
  case round =>
    obtain ⟨j, rfl, rfl, HJ, HD⟩ := hrel
    have HR := Aside0.mk (HH.out.drawn HD.out)
    obtain ⟨c0, c1, c2, q0, q1, q2⟩ := HR.out.cells
    have hr := rank_le R.dirty j
    obtain ⟨k, hk⟩ : ∃ k, k = rank R.dirty j := ⟨_, rfl⟩
    have hk2 := rank_succ R.dirty j
    rw [← hk] at hr hk2 ⊢
    have HK := Aside0.mk hk
    have HK2 := Aside0.mk hk2
    clear hk hk2
    by_cases hj : j < R.now.length
    · have q3 := HR.out.dirty.cell j (by rw [hl]; exact hj)
      obtain ⟨b, hb⟩ : ∃ b, b = R.dirty.getD j false := ⟨_, rfl⟩
      rw [← hb] at q3 HK2
      clear hb
      cases b with
      | false =>
        go_wp2
        exact ⟨⟨j + 1, congrArg (Value.int .i64) (by rw [HK2.out]; simp), congrArg (Value.int .i64) (by omega), ⟨by omega⟩, HD⟩, by simp [intOf]; omega⟩
      | true =>
        go_wp2
        exact ⟨⟨j + 1, congrArg (Value.int .i64) (by rw [HK2.out]; simp), congrArg (Value.int .i64) (by omega), ⟨by omega⟩, HD⟩, by simp [intOf]; omega⟩
    · obtain rfl : j = R.now.length := by have := HJ.out; omega
      go_wp2
      go_ret
      exact ⟨by rw [← HK.out]; rfl, HD.out⟩
end Go.Proofs.Ytgdalpjglmlmkaa.D
