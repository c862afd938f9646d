/-
  The disk's Write, walked.
-/
import Derived.Test.YtgdalpjglmlmkaaDOps
namespace Go.Proofs.Ytgdalpjglmlmkaa.D
open Go.RowKit Go.Maps Go.Proofs.YtgdalpjglmlmkaaW.PrintWords Go.Proofs.YtgdalpjglmlmkaaW.PrintLast Go.Proofs.YtgdalpjglmlmkaaW.PrintMore
set_option linter.unusedVariables false
set_option linter.unusedSimpArgs false

theorem getD_set_same {α : Type} (l : List α) (i : Nat) (x z : α) (h : i < l.length) : (l.set i x).getD i z = x := by simp [h]
theorem getD_set_other {α : Type} (l : List α) (i j : Nat) (x z : α) (h : j ≠ i) : (l.set i x).getD j z = l.getD j z := by
  simp only [List.getD_eq_getElem?_getD]
  rw [List.getElem?_set_ne (Ne.symm h)]
theorem fresh_put {D : DataW Unit} {F : List (Option ByteArray)} (hf : Fresh D F) (hm : IsMap D) {i : Nat} (hi : i < F.length) (s : ByteArray) : Fresh (D.put (.int .i64 i) (.lit (.string s.data.toList))) (F.set i (some s)) := by
  have hk : WideAt.IsKeyLit (.int .i64 i) := trivial
  refine ⟨fun j hj => ?_, fun kl hkl => ?_⟩
  · rw [List.length_set] at hj
    by_cases hji : j = i
    · subst hji
      rw [getD_set_same _ _ _ _ hi]
      refine ⟨has_put_same hm hk _, fun s' hs' => ?_⟩
      cases hs'
      exact atKey_put_same hm hk _ _
    · rw [getD_set_other _ _ _ _ _ hji]
      have hne : (Lit.int .i64 (j : Int)) ≠ .int .i64 i := by
        intro e
        injection e with _ e
        omega
      rw [has_put_other hne, atKey_put_other hne]
      exact hf.1 j hj
  · by_cases hki : kl = .int .i64 i
    · exact ⟨i, by rw [List.length_set]; exact hi, hki⟩
    · rw [has_put_other hki] at hkl
      obtain ⟨j, hj, e⟩ := hf.2 kl hkl
      exact ⟨j, by rw [List.length_set]; exact hj, e⟩
theorem count_set {F : List (Option ByteArray)} {i : Nat} (hi : i < F.length) (s : ByteArray) : count (F.set i (some s)) = count F + (if (F.getD i none).isSome = true then 0 else 1) := by
  induction F generalizing i with
  | nil => simp at hi
  | cons a F ih =>
    cases i with
    | zero => cases a <;> simp [count, List.countP_cons]
    | succ i =>
      have := ih (i := i) (by simpa using hi)
      simp only [List.set_cons_succ, count, List.countP_cons] at this ⊢
      simp only [List.getD_cons_succ]
      omega
theorem DiskIs.apart {W : World} {g bs bm : Nat} {d : Dk} {n : Nat} (h : DiskIs W g bs bm d n) : bm ≠ g ∧ bm ≠ bs ∧ g ≠ bs := by
  obtain ⟨D, ⟨es, clock, hb, _⟩, _⟩ := h.map
  have h1 := h.box
  have h2 := h.row
  refine ⟨fun e => ?_, fun e => ?_, fun e => ?_⟩
  · subst e; rw [hb] at h1; simp at h1
  · subst e; rw [hb] at h2; simp at h2
  · subst e; rw [h1] at h2; simp at h2
def Dk.write (d : Dk) (i : Nat) (s : ByteArray) : Dk := ⟨d.S, d.F.set i (some s)⟩

theorem DiskIs.wrote {W W1 W2 : World} {g bs bm : Nat} {d : Dk} {n : Nat} (h : DiskIs W g bs bm d n) {i : Nat} (hi : i < d.S.length) {s : ByteArray} (hs : s.size = 64)
    (hb : W1.heap[g]? = some (.cells #[.slice (some ⟨bs, 0, none⟩) d.S.length d.S.length, .map (some bm), .int .i64 (count (d.write i s).F : Nat)] 66 (0, 0))) (hr : W1.heap[bs]? = some (.cells (d.S.map Value.string).toArray 9 (0, 0))) (hk : Kp W W1 (Parts g bs bm))
    {D2 : DataW Unit} (hown : W2.ownsMap Try.prog 3 (plainElem Try.prog 9) bm (n + 1) D2) (hf : Fresh D2 (d.write i s).F) (hg : W1.grownBy W2 (some bm)) : DiskIs W2 g bs bm (d.write i s) (n + 1) ∧ Kp W W2 (Parts g bs bm) := by
  obtain ⟨a1, a2, a3⟩ := h.apart
  refine ⟨⟨blk_grown hb hg (fun e => by injection e with e; exact a1 e.symm), blk_grown hr hg (fun e => by injection e with e; exact a2 e.symm), ⟨D2, hown, hf⟩, by simp [Dk.write, h.len], h.pos, h.most, h.size, fun j z hz => ?_⟩, ?_⟩
  · by_cases hji : j = i
    · subst hji
      have hz' : (d.F.set j (some s)).getD j none = some z := hz
      rw [getD_set_same _ _ _ _ (by rw [h.len]; exact hi)] at hz'
      cases hz'
      exact hs
    · have hz' : (d.F.set i (some s)).getD j none = some z := hz
      rw [getD_set_other _ _ _ _ _ hji] at hz'
      exact h.fsize j z hz'
  · refine ⟨hg.os.trans hk.os, hg.tape.trans hk.tape, hg.output.trans hk.output, Nat.le_trans hk.sz hg.size, fun k hk1 hn => ?_⟩
    rw [hg.block k (Nat.lt_of_lt_of_le hk1 hk.sz) (fun e => by injection e with e; exact hn (.inr (.inr e)))]
    exact hk.blk k hk1 hn

set_option maxHeartbeats 2000000 in
set_option maxRecDepth 100000 in
theorem add_calls (W : World) (a : Addr) (x : Int) (h0 : 0 ≤ x) (h1 : x ≤ 1024) (c : W.cell? a = some (.int .i64 x)) (f : W.frozen? a = false) (ha : a.spot = none) :
    Calls Try.prog 25 #[.pointer (some a), .int .i64 1] W fun e W' => e = .returned (.int .i64 (x + 1)) ∧ W' = W.setCell a (.int .i64 (x + 1)) := by
  have hadd := run_call_add (P := Try.prog) Try.func31 (by kernel_rfl) (by kernel_rfl) (by kernel_rfl) .i64 (by kernel_rfl) (y := 1) (s := x + 1) c f (by simp [go_sem, IntKind.wrap_i64]; omega)
  obtain ⟨b, o, q⟩ := a
  simp only at ha
  subst ha
  go_enter Try.func25, Try.ntmps25
  go_wp2
  go_ret
  exact ⟨rfl, rfl⟩

set_option maxHeartbeats 4000000 in
set_option maxRecDepth 100000 in
theorem write_calls (W : World) (g bs bm : Nat) (d : Dk) (n : Nat) (h : DiskIs W g bs bm d n) (hn : n < 1000000) (i : Nat) (hi : i < d.S.length) (s : ByteArray) (hs : s.size = 64) :
    Calls Try.prog 10 #[.pointer (some ⟨g, 0, none⟩), .int .i64 i, .string s] W fun e W' => e = .returned (.int .i64 0) ∧ DiskIs W' g bs bm (d.write i s) (n + 1) ∧ Kp W W' (Parts g bs bm) := by
  have c0 : W.cell? ⟨g, 0, none⟩ = some (.slice (some ⟨bs, 0, none⟩) d.S.length d.S.length) := (blk_cell h.box 0).trans rfl
  have c1 : W.cell? ⟨g, 1, none⟩ = some (.map (some bm)) := (blk_cell h.box 1).trans rfl
  have c2 : W.cell? ⟨g, 2, none⟩ = some (.int .i64 (count d.F : Nat)) := (blk_cell h.box 2).trans rfl
  have f2 : W.frozen? ⟨g, 2, none⟩ = false := blk_frozen h.box 2
  obtain ⟨D, hown, hf⟩ := h.map
  have HI := hf.1 i (by rw [h.len]; exact hi)
  have hkey := key_int (i := i) (by have := h.most; omega)
  have hcount : count d.F ≤ 1024 := by have := List.countP_le_length (p := Option.isSome) (l := d.F); have := h.len; have := h.most; unfold count; omega
  have hap := h.apart.1
  have HD := Aside0.mk h
  have HF := Aside0.mk hf
  clear h hf
  cases hF : d.F.getD i none with
  | none =>
    rw [hF] at HI
    have hh : Maps.has D (.int .i64 i) = false := HI.1
    clear HI
    go_enter Try.func10, Try.ntmps10
    go_wp2_with (first
      | (at_lookup; refine lookup_ok_string _ rfl _ _ 59 rfl 3 9 law3 Try.underlying59 Try.underlying9 (zero9 _) bm n D rfl hown _ _ rfl hkey ?_; intro s1 hs1 hl1; rw [hh])
      | (go_at_call 25; refine (add_calls _ ⟨g, 2, none⟩ _ (by omega) (by omega) c2 f2 rfl).mono ?_; rintro e w' ⟨rfl, rfl⟩)
      | (at_mapUpdate; refine wpList_mapUpdate_own _ rfl _ _ _ 59 rfl 3 9 law3 Try.underlying59 _ bm n _ rfl (hown.setCell (a := ⟨g, 2, none⟩) hap _) (by unfold maxLen; omega) _ _ _ rfl rfl hkey _ [] (plainElem_string Try.underlying9 (by unfold maxLen; omega)) ?_; intro w1 hown1 hgrow1; have HO1 := Aside0.mk hown1; have HG1 := Aside0.mk hgrow1; clear hown1 hgrow1))
    go_ret
    have e1 : count (d.write i s).F = count d.F + 1 := by
      have := count_set (F := d.F) (i := i) (by rw [HD.out.len]; exact hi) s
      rw [hF] at this
      simpa [Dk.write] using this
    refine ⟨rfl, HD.out.wrote hi hs (blk_put HD.out.box 2 _ (by rw [e1]; simp)) (blk_far HD.out.row HD.out.apart.2.2.symm _) ?_ HO1.out (fresh_put HF.out hown.isMap (by rw [HD.out.len]; exact hi) s) HG1.out⟩
    exact Kp.setCell (S := Parts g bs bm) (Kp.refl _ _) (.inl (show Parts g bs bm g from .inl rfl)) _
  | some f =>
    rw [hF] at HI
    have hh : Maps.has D (.int .i64 i) = true := HI.1
    clear HI
    go_enter Try.func10, Try.ntmps10
    go_wp2_with (first
      | (at_lookup; refine lookup_ok_string _ rfl _ _ 59 rfl 3 9 law3 Try.underlying59 Try.underlying9 (zero9 _) bm n D rfl hown _ _ rfl hkey ?_; intro s1 hs1 hl1; rw [hh])
      | (at_mapUpdate; refine wpList_mapUpdate_own _ rfl _ _ _ 59 rfl 3 9 law3 Try.underlying59 _ bm n _ rfl hown (by unfold maxLen; omega) _ _ _ rfl rfl hkey _ [] (plainElem_string Try.underlying9 (by unfold maxLen; omega)) ?_; intro w1 hown1 hgrow1; have HO1 := Aside0.mk hown1; have HG1 := Aside0.mk hgrow1; clear hown1 hgrow1))
    go_ret
    have e1 : count (d.write i s).F = count d.F := by
      have := count_set (F := d.F) (i := i) (by rw [HD.out.len]; exact hi) s
      rw [hF] at this
      simpa [Dk.write] using this
    exact ⟨rfl, HD.out.wrote hi hs (by rw [e1]; exact HD.out.box) HD.out.row (Kp.refl _ _) HO1.out (fresh_put HF.out hown.isMap (by rw [HD.out.len]; exact hi) s) HG1.out⟩
end Go.Proofs.Ytgdalpjglmlmkaa.D
