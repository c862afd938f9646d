/-
  The document's disk: Crash, walked.
-/
import Derived.Test.YtgdalpjglmlmkaaDRefMore
namespace Go.Proofs.Ytgdalpjglmlmkaa.D
open Go.RowKit Go.Maps Go.Proofs.YtgdalpjglmlmkaaW.PrintWords Go.Proofs.YtgdalpjglmlmkaaW.PrintLast Go.Proofs.YtgdalpjglmlmkaaW.PrintMore
set_option linter.unusedVariables false
set_option linter.unusedSimpArgs false

/-- what a crash lets sector k hold -/
def crOne (keep torn bytes : Int) (N T : List ByteArray) (B : List Bool) (k : Nat) : ByteArray :=
  if B.getD k false = true then pickS keep torn bytes (rank B k) (N.getD k ByteArray.empty) (T.getD k ByteArray.empty) else N.getD k ByteArray.empty
def crAll (keep torn bytes : Int) (N T : List ByteArray) (B : List Bool) : List ByteArray := (List.range N.length).map (crOne keep torn bytes N T B)
theorem crAll_getD (keep torn bytes : Int) (N T : List ByteArray) (B : List Bool) (k : Nat) (hk : k < N.length) : (crAll keep torn bytes N T B).getD k ByteArray.empty = crOne keep torn bytes N T B k := by
  unfold crAll
  simp [hk]
def Rk.cr (R : Rk) (keep torn bytes : Int) : Rk := if 0 ≤ bytes ∧ bytes ≤ 64 then Rk.sync ⟨crAll keep torn bytes R.now R.then_ R.dirty, R.then_, R.dirty⟩ else R
structure CrInv (keep torn bytes : Int) (N T : List ByteArray) (B : List Bool) (j : Nat) (N' : List ByteArray) : Prop where
  le : j ≤ N.length
  len : N'.length = N.length
  done : ∀ k, k < j → N'.getD k ByteArray.empty = crOne keep torn bytes N T B k
  rest : ∀ k, j ≤ k → N'.getD k ByteArray.empty = N.getD k ByteArray.empty
section
variable {keep torn bytes : Int} {N T : List ByteArray} {B : List Bool} {j : Nat} {N' : List ByteArray}
theorem CrInv.put (h : CrInv keep torn bytes N T B j N') (hj : j < N.length) {x : ByteArray} (hx : crOne keep torn bytes N T B j = x) : CrInv keep torn bytes N T B (j + 1) (N'.set j x) := by
  refine ⟨by omega, by rw [List.length_set]; exact h.len, fun k hk => ?_, fun k hk => ?_⟩
  · by_cases hkj : k = j
    · subst hkj; rw [getD_set_same _ _ _ _ (by rw [h.len]; exact hj), hx]
    · rw [getD_set_other _ _ _ _ _ hkj]; exact h.done k (by omega)
  · rw [getD_set_other _ _ _ _ _ (by omega)]; exact h.rest k (by omega)
theorem CrInv.skip (h : CrInv keep torn bytes N T B j N') (hj : j < N.length) (hx : crOne keep torn bytes N T B j = N.getD j ByteArray.empty) : CrInv keep torn bytes N T B (j + 1) N' := by
  refine ⟨by omega, h.len, fun k hk => ?_, fun k hk => h.rest k (by omega)⟩
  by_cases hkj : k = j
  · subst hkj; rw [h.rest k (Nat.le_refl _), hx]
  · exact h.done k (by omega)
end
set_option maxHeartbeats 4000000 in
set_option maxRecDepth 100000 in
theorem rcrash {W : World} {r b0 b1 b2 : Nat} {N T : List ByteArray} {B : List Bool} (h : RefIs W r b0 b1 b2 ⟨N, T, B⟩) (hN : ∀ k, k < N.length → (N.getD k ByteArray.empty).size = 64) (hT : ∀ k, k < N.length → (T.getD k ByteArray.empty).size = 64) (keep torn bytes : Int) :
    Calls Try.prog 19 #[.pointer (some ⟨r, 0, none⟩), .agg #[.int .i64 keep, .int .i64 torn, .int .i64 bytes]] W fun e W' => e = .returned (.int .i64 (crE bytes)) ∧ RefIs W' r b0 b1 b2 (Rk.cr ⟨N, T, B⟩ keep torn bytes) ∧ Kp W W' (RParts r b0 b1 b2) := by
  unfold Rk.cr crE
  by_cases hb : 0 ≤ bytes ∧ bytes ≤ 64
  · rw [if_pos hb, if_pos hb]
    obtain ⟨hb0, hb1⟩ := hb
    have HH := Aside0.mk h
    have hm : N.length ≤ 1024 := h.most
    have l1 : T.length = N.length := h.lt
    have l2 : B.length = N.length := h.ld
    clear h
    go_enter Try.func19, Try.ntmps19
    go_upto_region 3 with (first
      | ((with_reducible refine gate_dst (N := 3) rfl ?_); refine box_event ?hg (N := 3) ?hd (cs := #[.int .i64 keep, .int .i64 torn, .int .i64 bytes]) (t := 34) ?hr ?_; (case hd => rfl); (case hg => rfl); (case hr => first | (go_simp; done) | (go_simp; rfl)); intro gc hgc w4 hbox hb; have HX := Aside0.mk hbox; have HGC := Aside0.mk hgc; have c_2 : w4.cell? ⟨gc, 2, none⟩ = some (.int .i64 bytes) := (blk_cell hbox 2).trans rfl; have HR := Aside0.mk (HH.out.below hb); have HK := Aside0.mk (Kp.of_below hb (RParts r b0 b1 b2)); clear hgc hbox hb))
    have HNC := Aside0.mk (show ¬ RParts r b0 b1 b2 gc from fun hk => by have := HH.out.lt_ hk; have := HGC.out; omega)
    clear HH c_2 HGC
    go_wp2_with fail
    go_loopw [5, 6] (fun v1 v2 wr => ∃ (j : Nat) (N' : List ByteArray), v1 = .int .i64 (rank B j : Nat) ∧ v2 = .int .i64 j ∧ Aside0 (CrInv keep torn bytes N T B j N') ∧ Aside0 (RefIs wr r b0 b1 b2 ⟨N', T, B⟩) ∧ Aside0 (Kp W wr (RParts r b0 b1 b2)) ∧ Aside0 (wr.heap[gc]? = some (.cells #[.int .i64 keep, .int .i64 torn, .int .i64 bytes] 34 (0, 0)))) (fun _ v _ => N.length - (intOf v).toNat)
    case atStart => exact ⟨0, N, rfl, rfl, ⟨⟨Nat.zero_le _, rfl, fun k hk => by omega, fun k _ => rfl⟩⟩, HR, HK, HX⟩
    case round =>
      clear HR HK HX
      obtain ⟨j, N', rfl, rfl, HJ, HR, HK, HX⟩ := hrel
      obtain ⟨c0, c1, c2, q0, q1, q2⟩ := HR.out.cells
      have l3 : N'.length = N.length := HJ.out.len
      simp only [l3] at q0 q1 q2
      have hr := rank_le B j
      obtain ⟨k, hk⟩ : ∃ k, k = rank B j := ⟨_, rfl⟩
      have hk2 := rank_succ B j
      rw [← hk] at hr hk2 ⊢
      have HK1 := Aside0.mk hk
      have HK2 := Aside0.mk hk2
      clear hk hk2
      by_cases hj : j < N.length
      · have q3 := HR.out.dirty.cell j (by simp only [l2]; exact hj)
        have q4 := HR.out.now.cell j (by simp only [l3]; exact hj)
        have q5 := HR.out.th.cell j (by simp only [l1]; exact hj)
        have q6 := HR.out.now.frozen j
        simp only at q3 q4 q5
        rw [HJ.out.rest j (Nat.le_refl _)] at q4
        obtain ⟨b, hb⟩ : ∃ b, b = B.getD j false := ⟨_, rfl⟩
        obtain ⟨s, hs⟩ : ∃ s, s = N.getD j ByteArray.empty := ⟨_, rfl⟩
        obtain ⟨u, hu⟩ : ∃ u, u = T.getD j ByteArray.empty := ⟨_, rfl⟩
        have zs := hN j hj
        have zu := hT j hj
        have HO := Aside0.mk (show crOne keep torn bytes N T B j = if b = true then pickS keep torn bytes k s u else s by unfold crOne; rw [← hb, ← hs, ← hu, ← HK1.out])
        have HS := Aside0.mk hs
        rw [← hb] at q3 HK2
        rw [← hs] at q4 zs
        rw [← hu] at q5 zu
        clear hb hs hu
        have x0 : wr.cell? ⟨gc, 0, none⟩ = some (.int .i64 keep) := (blk_cell HX.out 0).trans rfl
        have x1 : wr.cell? ⟨gc, 1, none⟩ = some (.int .i64 torn) := (blk_cell HX.out 1).trans rfl
        have x2 : wr.cell? ⟨gc, 2, none⟩ = some (.int .i64 bytes) := (blk_cell HX.out 2).trans rfl
        cases b with
        | false =>
          go_wp2
          exact ⟨⟨j + 1, N', congrArg (Value.int .i64) (by rw [HK2.out]; simp), congrArg (Value.int .i64) (by omega), ⟨HJ.out.skip hj (by rw [HO.out, ← HS.out]; simp)⟩, HR, HK, HX⟩, by simp [intOf]; omega⟩
        | true =>
          by_cases ht : (k : Int) = torn
          · have tT : ((k : Int) == torn) = true := beq_iff_eq.mpr ht
            have tD : decide ((k : Int) = torn) = true := decide_eq_true ht
            have HV := Aside0.mk (show crOne keep torn bytes N T B j = s.extract 0 bytes.toNat ++ u.extract bytes.toNat 64 by rw [HO.out, if_pos rfl]; unfold pickS; rw [if_pos ht, zu])
            clear ht
            go_wp2
            go_still_tail 27, (by kernel_rfl)
            change wpList _ _ _ _ _ wr.drew
            go_wp2
            exact ⟨⟨j + 1, _, congrArg (Value.int .i64) (by rw [HK2.out]; simp), congrArg (Value.int .i64) (by omega), ⟨HJ.out.put hj HV.out⟩, ⟨(RefIs.putN HR.out j (by rw [l3]; exact hj) _).drawn ⟨⟨1, rfl⟩⟩⟩, ⟨(Kp.setCell (S := RParts r b0 b1 b2) HK.out (p := ⟨b0, j, none⟩) (.inl (show RParts r b0 b1 b2 b0 from .inr (.inl rfl))) _).drewN 1⟩, ⟨(blk_other (fun e => HNC.out (.inr (.inl e)))).trans HX.out⟩⟩, by simp [intOf]; omega⟩
          · have tT : ((k : Int) == torn) = false := beq_eq_false_iff_ne.mpr ht
            have tD : decide ((k : Int) = torn) = false := decide_eq_false ht
            by_cases h62 : k < 62
            · by_cases hbit : Go.bits .and .i64 (keep / 2 ^ k) 1 = 1
              · have tb : (Go.bits .and .i64 (keep / 2 ^ k) 1 == 0) = false := beq_eq_false_iff_ne.mpr (by rw [hbit]; decide)
                have HV := Aside0.mk (show crOne keep torn bytes N T B j = N.getD j ByteArray.empty by rw [HO.out, if_pos rfl, ← HS.out]; unfold pickS; rw [if_neg ht, if_pos ⟨h62, hbit⟩])
                clear ht hbit
                go_wp2
                exact ⟨⟨j + 1, N', congrArg (Value.int .i64) (by rw [HK2.out]; simp), congrArg (Value.int .i64) (by omega), ⟨HJ.out.skip hj HV.out⟩, HR, HK, HX⟩, by simp [intOf]; omega⟩
              · have hz : Go.bits .and .i64 (keep / 2 ^ k) 1 = 0 := by
                  have := i64_and1 (keep / 2 ^ k)
                  omega
                have tb : (Go.bits .and .i64 (keep / 2 ^ k) 1 == 0) = true := beq_iff_eq.mpr hz
                have HV := Aside0.mk (show crOne keep torn bytes N T B j = u by rw [HO.out, if_pos rfl]; unfold pickS; rw [if_neg ht, if_neg (fun hh => hbit hh.2)])
                clear ht hbit hz
                go_wp2
                go_still_tail 13, (by kernel_rfl)
                change wpList _ _ _ _ _ wr.drew
                go_wp2
                exact ⟨⟨j + 1, _, congrArg (Value.int .i64) (by rw [HK2.out]; simp), congrArg (Value.int .i64) (by omega), ⟨HJ.out.put hj HV.out⟩, ⟨(RefIs.putN HR.out j (by rw [l3]; exact hj) _).drawn ⟨⟨1, rfl⟩⟩⟩, ⟨(Kp.setCell (S := RParts r b0 b1 b2) HK.out (p := ⟨b0, j, none⟩) (.inl (show RParts r b0 b1 b2 b0 from .inr (.inl rfl))) _).drewN 1⟩, ⟨(blk_other (fun e => HNC.out (.inr (.inl e)))).trans HX.out⟩⟩, by simp [intOf]; omega⟩
            · have hge : (62 : Int) ≤ (k : Int) := by omega
              have HV := Aside0.mk (show crOne keep torn bytes N T B j = u by rw [HO.out, if_pos rfl]; unfold pickS; rw [if_neg ht, if_neg (fun hh => h62 hh.1)])
              clear ht
              go_wp2
              go_still_tail 13, (by kernel_rfl)
              change wpList _ _ _ _ _ wr.drew
              go_wp2
              exact ⟨⟨j + 1, _, congrArg (Value.int .i64) (by rw [HK2.out]; simp), congrArg (Value.int .i64) (by omega), ⟨HJ.out.put hj HV.out⟩, ⟨(RefIs.putN HR.out j (by rw [l3]; exact hj) _).drawn ⟨⟨1, rfl⟩⟩⟩, ⟨(Kp.setCell (S := RParts r b0 b1 b2) HK.out (p := ⟨b0, j, none⟩) (.inl (show RParts r b0 b1 b2 b0 from .inr (.inl rfl))) _).drewN 1⟩, ⟨(blk_other (fun e => HNC.out (.inr (.inl e)))).trans HX.out⟩⟩, by simp [intOf]; omega⟩
      · obtain rfl : j = N.length := by have := HJ.out.le; omega
        have hN2 : N' = crAll keep torn bytes N T B := ext_getD ByteArray.empty (by rw [l3]; simp [crAll]) (fun k hk => by rw [HJ.out.done k (by omega), crAll_getD _ _ _ _ _ _ _ (by omega)])
        go_wp2_with (go_at_call 18; refine (rsync HR.out).mono ?_; rintro e w9 ⟨rfl, hr2, hk2⟩; have HR2 := Aside0.mk hr2; have HK3 := Aside0.mk (HK.out.then_ hk2 (fun k hk => .inl hk)); clear hr2 hk2)
        go_ret
        exact ⟨rfl, by rw [← hN2]; exact HR2.out, HK3.out⟩
  · rw [if_neg hb, if_neg hb]
    have hb' : bytes < 0 ∨ 64 < bytes := by omega
    have HH := Aside0.mk h
    clear hb h
    rcases hb' with hb | hb
    all_goals (
      go_enter Try.func19, Try.ntmps19
      go_wp2
      go_ret
      have hbl := below_alloc (Below.refl W.heap.size W) (.cells #[.int .i64 keep, .int .i64 torn, .int .i64 bytes] 34)
      exact ⟨rfl, HH.out.below hbl, Kp.of_below hbl _⟩)
end Go.Proofs.Ytgdalpjglmlmkaa.D
