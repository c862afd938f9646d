/-
  Plain: what covers a box: the cells of its places, as ranges.
-/
import Derived.Test.YtngcljnhcbbdmaaPCell
namespace Go.Proofs.Ytngcljnhcbbdmaa.C
open Go.RowKit Go.Proofs.YtngcljnhcbbdmaaW.PrintWords Go.Proofs.YtngcljnhcbbdmaaW.PrintLast Go.Proofs.YtngcljnhcbbdmaaW.PrintMore
set_option linter.unusedVariables false
set_option linter.unusedSimpArgs false

/-! ### one cell -/
theorem cell_facts {x y : Nat} (hx : x < 64) (hy : y < 64) : cellN x y < 4096 ∧ (place 6 (cellN x y)).1 = x ∧ (place 6 (cellN x y)).2 = y := by
  have h := cells_there
  rw [List.all_eq_true] at h
  have h1 := h x (List.mem_range.2 hx)
  rw [List.all_eq_true] at h1
  have h2 := h1 y (List.mem_range.2 hy)
  simp only [Bool.and_eq_true, Nat.ble_eq, beq_iff_eq] at h2
  exact ⟨by omega, h2.1.2, h2.2⟩
theorem cell_inj {x y u v : Nat} (hx : x < 64) (hy : y < 64) (hu : u < 64) (hv : v < 64) (h : cellN x y = cellN u v) : x = u ∧ y = v := by
  have h1 := cell_facts hx hy
  have h2 := cell_facts hu hv
  rw [h] at h1
  exact ⟨h1.2.1.symm.trans h2.2.1, h1.2.2.symm.trans h2.2.2⟩
theorem Ev.of_mono {α : Type} {g : Nat → Option α} (hm : ∀ k, LeO (g k) (g (k + 1))) {n : Nat} {r : α} (h : g n = some r) : Ev g r := by
  refine ⟨n, fun k hk => ?_⟩
  induction k with
  | zero => rw [← h]; congr 1; omega
  | succ k ih =>
    by_cases hkn : n = k + 1
    · subst hkn; exact h
    · exact hm k _ (ih (by omega))
theorem cell_ev {x y : Nat} (hx : x < 64) (hy : y < 64) : Ev (fun k => hilbert_Cell.f k (x : Int) (y : Int) 6) ((cellN x y : Int), 0) := by
  refine Ev.of_mono (n := 9) (fun k => hilbert_Cell.mono _ _ _ k) ?_
  have h1 := (cell_facts hx hy).1
  unfold cellN at h1 ⊢
  split at h1
  · rename_i v e
    rw [e]
    rfl
  · omega

/-! ### the box's cells, as they come -/
def col (x y : Nat) : Nat → List Nat
  | 0 => []
  | n + 1 => cellN x y :: col x (y + 1) n
def grid (y ny x : Nat) : Nat → List Nat
  | 0 => []
  | n + 1 => col x y ny ++ grid y ny (x + 1) n
theorem mem_col {x y n c : Nat} : c ∈ col x y n ↔ ∃ j, y ≤ j ∧ j < y + n ∧ c = cellN x j := by
  induction n generalizing y with
  | zero => simp [col]; intro j h1 h2; omega
  | succ n ih =>
    rw [col, List.mem_cons, ih]
    constructor
    · rintro (h | ⟨j, h1, h2, h3⟩)
      · exact ⟨y, Nat.le_refl _, by omega, h⟩
      · exact ⟨j, by omega, by omega, h3⟩
    · rintro ⟨j, h1, h2, h3⟩
      by_cases hj : j = y
      · subst hj; exact .inl h3
      · exact .inr ⟨j, by omega, by omega, h3⟩
theorem mem_grid {y ny x n c : Nat} : c ∈ grid y ny x n ↔ ∃ i j, x ≤ i ∧ i < x + n ∧ y ≤ j ∧ j < y + ny ∧ c = cellN i j := by
  induction n generalizing x with
  | zero => simp [grid]; intro i h1 h2; omega
  | succ n ih =>
    rw [grid, List.mem_append, ih, mem_col]
    constructor
    · rintro (⟨j, h1, h2, h3⟩ | ⟨i, j, h1, h2, h3⟩)
      · exact ⟨x, j, Nat.le_refl _, by omega, h1, h2, h3⟩
      · exact ⟨i, j, by omega, by omega, h3⟩
    · rintro ⟨i, j, h1, h2, h3⟩
      by_cases hi : i = x
      · subst hi; exact .inl ⟨j, h3⟩
      · exact .inr ⟨i, j, by omega, by omega, h3⟩
theorem col_nodup {x y n : Nat} (hx : x < 64) (hy : y + n ≤ 64) : (col x y n).Nodup := by
  induction n generalizing y with
  | zero => exact List.nodup_nil
  | succ n ih =>
    rw [col, List.nodup_cons]
    refine ⟨fun h => ?_, ih (by omega)⟩
    obtain ⟨j, h1, h2, h3⟩ := mem_col.1 h
    have := cell_inj hx (by omega) hx (by omega) h3
    omega
theorem grid_nodup {y ny x n : Nat} (hx : x + n ≤ 64) (hy : y + ny ≤ 64) : (grid y ny x n).Nodup := by
  induction n generalizing x with
  | zero => exact List.nodup_nil
  | succ n ih =>
    rw [grid, List.nodup_append]
    refine ⟨col_nodup (by omega) hy, ih (by omega), fun a ha b hb hab => ?_⟩
    obtain ⟨j, h1, h2, h3⟩ := mem_col.1 ha
    obtain ⟨i, j', g1, g2, g3, g4, g5⟩ := mem_grid.1 hb
    subst hab
    have := cell_inj (x := x) (by omega) (by omega) (by omega) (by omega) (h3.symm.trans g5)
    omega
theorem col_len (x y n : Nat) : (col x y n).length = n := by
  induction n generalizing y with
  | zero => rfl
  | succ n ih => rw [col, List.length_cons, ih]
theorem grid_len (y ny x n : Nat) : (grid y ny x n).length = n * ny := by
  induction n generalizing x with
  | zero => simp [grid]
  | succ n ih => rw [grid, List.length_append, col_len, ih, Nat.succ_mul]; omega

/-! ### the cells as ranges -/
def addAll : List S41 → List Int → List S41
  | acc, [] => acc
  | acc, c :: cs => addAll (addR acc (c * 1048576) ((c + 1) * 1048576)) cs
def total (l : List S41) : Int := (l.map fun r => r.f1 - r.f0).sum
theorem total_cons (a : S41) (l : List S41) : total (a :: l) = (a.f1 - a.f0) + total l := by simp [total]
theorem total_append (l m : List S41) : total (l ++ m) = total l + total m := by
  induction l with
  | nil => simp [total]
  | cons a l ih => rw [List.cons_append, total_cons, total_cons, ih]; omega
theorem addR_total (l : List S41) (f t : Int) : total (addR l f t) = total l + (t - f) := by
  rcases snoc_cases l with rfl | ⟨m, r, rfl⟩
  · rw [addR_nil, total_cons]; simp [total]
  · rw [addR_snoc]
    split
    · rename_i h
      rw [total_append, total_append, total_cons, total_cons]
      show total m + ((t - r.f0) + total []) = _
      omega
    · rw [total_append, total_cons]
      show _ + ((t - f) + 0) = _
      omega
def even (l : List S41) : Prop := ∀ r ∈ l, r.f0 % 1048576 = 0 ∧ r.f1 % 1048576 = 0
theorem addR_even {l : List S41} {f t : Int} (h : even l) (hf : f % 1048576 = 0) (ht : t % 1048576 = 0) : even (addR l f t) := by
  rcases snoc_cases l with rfl | ⟨m, r, rfl⟩
  · intro q hq
    rw [addR_nil, List.mem_singleton] at hq
    subst hq
    exact ⟨hf, ht⟩
  · rw [addR_snoc]
    split
    · intro q hq
      rcases List.mem_append.1 hq with hq | hq
      · exact h q (List.mem_append_left _ hq)
      · rw [List.mem_singleton] at hq
        subst hq
        exact ⟨(h r (by simp)).1, ht⟩
    · intro q hq
      rcases List.mem_append.1 hq with hq | hq
      · exact h q hq
      · rw [List.mem_singleton] at hq
        subst hq
        exact ⟨hf, ht⟩
theorem addAll_spec (cs : List Int) : ∀ acc : List S41, Norm acc → even acc → (∀ c ∈ cs, 0 ≤ c ∧ c < 4096 ∧ ∀ r ∈ acc, r.f1 ≤ c * 1048576) → cs.Pairwise (· < ·) →
    Norm (addAll acc cs) ∧ even (addAll acc cs) ∧ (∀ d, Mem (addAll acc cs) d ↔ Mem acc d ∨ d / 1048576 ∈ cs) ∧ total (addAll acc cs) = total acc + cs.length * 1048576 ∧ (addAll acc cs).length ≤ acc.length + cs.length := by
  induction cs with
  | nil => intro acc h he _ _; exact ⟨h, he, fun d => by simp [addAll], by simp [addAll], by simp [addAll]⟩
  | cons c cs ih =>
    intro acc h he hc hp
    have hc0 := hc c List.mem_cons_self
    obtain ⟨h1, h2⟩ := List.pairwise_cons.1 hp
    obtain ⟨a1, a2, a3⟩ := addR_norm h hc0.2.2 (by omega) (show c * 1048576 < (c + 1) * 1048576 by omega) (by omega)
    obtain ⟨b1, b2, b3, b4, b5⟩ := ih _ a1 (addR_even he (by omega) (by omega)) (fun x hx => by
      have := hc x (List.mem_cons_of_mem _ hx)
      have := h1 x hx
      exact ⟨by omega, by omega, fun r hr => by have := a2 r hr; omega⟩) h2
    refine ⟨b1, b2, fun d => ?_, ?_, ?_⟩
    · rw [addAll, b3, a3, List.mem_cons]
      constructor
      · rintro ((h | h) | h)
        · exact .inl h
        · exact .inr (.inl (by omega))
        · exact .inr (.inr h)
      · rintro (h | h | h)
        · exact .inl (.inl h)
        · exact .inl (.inr (by omega))
        · exact .inr h
    · rw [addAll, b4, addR_total, List.length_cons]
      omega
    · have := addR_len acc (c * 1048576) ((c + 1) * 1048576)
      rw [addAll, List.length_cons]
      omega

/-! ### the loops -/
theorem Of_l1 {X1 Y1 : Nat} {a b c d : Int} (hY : d / 67108864 = (Y1 : Int)) (hY1 : Y1 < 64) {x : Nat} (hx : x < 64) {r : List S41 × Int} : ∀ (n y : Nat) (acc : List Int), y + n = Y1 + 1 → acc.length + n < 17592186044416 →
    Ev (fun k => cover_Of.l0 k (acc ++ (col x y n).map Int.ofNat) (wrap64 ((x : Int) + 1)) a b c d) r → Ev (fun k => cover_Of.l1 k acc (x : Int) (y : Int) a b c d) r := by
  intro n
  induction n with
  | zero =>
    intro y acc hy hl h
    refine Ev.succ ?_
    simp only [cover_Of.l1]
    refine Ev.neg (by omega) ?_
    simpa [col] using h
  | succ n ih =>
    intro y acc hy hl h
    refine Ev.succ ?_
    simp only [cover_Of.l1]
    refine Ev.pos (by omega) (Ev.bind (cell_ev hx (by omega)) (Ev.pos (by omega) ?_))
    rw [wrap_succ y (by omega)]
    refine ih (y + 1) _ (by omega) (by simp; omega) ?_
    simpa [col] using h
theorem Of_l0 {X1 Y0 Y1 : Nat} {a b c d : Int} (hX : c / 67108864 = (X1 : Int)) (hX1 : X1 < 64) (hY0 : b / 67108864 = (Y0 : Int)) (hY : d / 67108864 = (Y1 : Int)) (hY1 : Y1 < 64) (hYY : Y0 ≤ Y1) {r : List S41 × Int} : ∀ (n x : Nat) (acc : List Int), x + n = X1 + 1 → acc.length + n * 64 < 17592186044416 →
    Ev (fun k => (slices_Sort_int_int.f (acc ++ (grid Y0 (Y1 + 1 - Y0) x n).map Int.ofNat)).bind fun t142 => (cover_Of.l2 k ([] : List (S41)) t142 (((acc ++ (grid Y0 (Y1 + 1 - Y0) x n).map Int.ofNat).length : Nat) : Int) 0)) r → Ev (fun k => cover_Of.l0 k acc (x : Int) a b c d) r := by
  intro n
  induction n with
  | zero =>
    intro x acc hx hl h
    refine Ev.succ ?_
    simp only [cover_Of.l0]
    refine Ev.neg (by omega) ?_
    simpa [grid] using h
  | succ n ih =>
    intro x acc hx hl h
    refine Ev.succ ?_
    simp only [cover_Of.l0]
    refine Ev.pos (by omega) ?_
    rw [hY0]
    refine Of_l1 (X1 := X1) hY hY1 (by omega) (Y1 + 1 - Y0) Y0 acc (by omega) (by omega) ?_
    rw [wrap_succ x (by omega)]
    refine ih (x + 1) _ (by omega) (by simp [col_len]; omega) ?_
    simpa [grid] using h
theorem rd_at (pre : List Int) (c : Int) (rest : List Int) : rd (pre ++ c :: rest) (pre.length : Int) = c := by
  unfold rd
  simp [List.getD_eq_getElem?_getD]
theorem Of_l2 : ∀ (rest pre : List Int) (acc : List S41), (∀ c ∈ rest, 0 ≤ c ∧ c < 4096) → pre.length + rest.length ≤ 1000000 → acc.length + rest.length ≤ 1000000 →
    Ev (fun k => cover_Of.l2 k acc (pre ++ rest) ((pre ++ rest).length : Int) (pre.length : Int)) (addAll acc rest, 0) := by
  intro rest
  induction rest with
  | nil =>
    intro pre acc _ _ _
    refine Ev.succ ?_
    simp only [cover_Of.l2]
    exact Ev.neg (by simp) (Ev.const rfl)
  | cons c rest ih =>
    intro pre acc hc hl ha
    have hl2 : (pre ++ c :: rest).length = pre.length + rest.length + 1 := by simp; omega
    simp only [List.length_cons] at hl ha
    have hcc := hc c List.mem_cons_self
    have hw : wrap64 ((pre.length : Int) + 1) = ((pre ++ [c]).length : Int) := by rw [wrap_succ _ (by omega)]; simp
    have hlen := addR_len acc (c * 1048576) ((c + 1) * 1048576)
    refine Ev.succ ?_
    simp only [cover_Of.l2, rd_at]
    refine Ev.pos (by omega) (Ev.pos (by omega) (Ev.pos (by omega) (Ev.bind (Ev.const (cover_add_spec _ _ _ (by omega))) ?_)))
    rw [wrap_id (c * 1048576) (by omega) (by omega), wrap_id (c + 1) (by omega) (by omega), wrap_id ((c + 1) * 1048576) (by omega) (by omega), hw]
    have := ih (pre ++ [c]) (addR acc (c * 1048576) ((c + 1) * 1048576)) (fun x hx => hc x (List.mem_cons_of_mem _ hx)) (by simp; omega) (by omega)
    rw [List.append_assoc] at this
    exact this

/-! ### the whole -/
def boxMay (a b c d : Int) : Prop := 0 ≤ a ∧ 0 ≤ b ∧ c ≤ 4294967295 ∧ d ≤ 4294967295 ∧ a ≤ c ∧ b ≤ d
theorem boxMay_spec {a b c d : Int} : geom_BoxMay.f a b c d = some (decide (0 ≤ a ∧ 0 ≤ b ∧ c ≤ 4294967295 ∧ d ≤ 4294967295 ∧ a ≤ c ∧ b ≤ d)) := by
  have hc : ∀ x : Int, geom_coord.f x = some (decide (0 ≤ x ∧ x ≤ 4294967295)) := by
    intro x
    unfold geom_coord.f
    by_cases h : x ≥ 0
    · rw [if_pos h]
      congr 1
      exact decide_eq_decide.2 ⟨fun h2 => ⟨h, h2⟩, fun h2 => h2.2⟩
    · rw [if_neg h]
      congr 1
      exact (decide_eq_false (by omega)).symm
  unfold geom_BoxMay.f
  simp only [hc, Option.bind_some, decide_eq_true_eq]
  by_cases h1 : 0 ≤ a ∧ a ≤ 4294967295
  · rw [if_pos h1]
    by_cases h2 : 0 ≤ b ∧ b ≤ 4294967295
    · rw [if_pos h2]
      by_cases h3 : 0 ≤ c ∧ c ≤ 4294967295
      · rw [if_pos h3]
        by_cases h4 : 0 ≤ d ∧ d ≤ 4294967295
        · rw [if_pos h4]
          by_cases h5 : a ≤ c
          · rw [if_pos h5]
            congr 1
            exact decide_eq_decide.2 ⟨fun h6 => by omega, fun h6 => by omega⟩
          · rw [if_neg h5]; congr 1; exact (decide_eq_false (by omega)).symm
        · rw [if_neg h4]; congr 1; exact (decide_eq_false (by omega)).symm
      · rw [if_neg h3]; congr 1; exact (decide_eq_false (by omega)).symm
    · rw [if_neg h2]; congr 1; exact (decide_eq_false (by omega)).symm
  · rw [if_neg h1]; congr 1; exact (decide_eq_false (by omega)).symm

/-- the box's cells -/
def boxCells (a b c d : Int) : List Nat := grid (b / 67108864).toNat ((d / 67108864).toNat + 1 - (b / 67108864).toNat) (a / 67108864).toNat ((c / 67108864).toNat + 1 - (a / 67108864).toNat)
theorem Of_may {a b c d : Int} (h : boxMay a b c d) : ∃ R, Ev (fun k => cover_Of.f k a b c d) (R, 0) ∧ Norm R ∧ even R ∧ (∀ e, Mem R e ↔ 0 ≤ e ∧ (e / 1048576).toNat ∈ boxCells a b c d) ∧ total R = (boxCells a b c d).length * 1048576 ∧ R.length ≤ (boxCells a b c d).length := by
  obtain ⟨h1, h2, h3, h4, h5, h6⟩ := h
  have ha : a / 67108864 = ((a / 67108864).toNat : Int) := by omega
  have hb : b / 67108864 = ((b / 67108864).toNat : Int) := by omega
  have hc : c / 67108864 = ((c / 67108864).toNat : Int) := by omega
  have hd : d / 67108864 = ((d / 67108864).toNat : Int) := by omega
  have hnd : (boxCells a b c d).Nodup := grid_nodup (by omega) (by omega)
  have hlen : (boxCells a b c d).length ≤ 4096 := by
    unfold boxCells
    rw [grid_len]
    exact Nat.le_trans (Nat.mul_le_mul (show _ ≤ 64 by omega) (show _ ≤ 64 by omega)) (by decide)
  have hin : ∀ v ∈ boxCells a b c d, v < 4096 := by
    intro v hv
    obtain ⟨i, j, g1, g2, g3, g4, rfl⟩ := mem_grid.1 hv
    exact (cell_facts (by omega) (by omega)).1
  let L : List Int := (boxCells a b c d).map Int.ofNat
  have hLl : L.length = (boxCells a b c d).length := List.length_map _
  have hperm : (sortZ L).Perm L := List.mergeSort_perm L _
  have hsl : (sortZ L).length = (boxCells a b c d).length := by rw [hperm.length_eq, hLl]
  have hLn : L.Nodup := by
    refine List.pairwise_map.2 (hnd.imp ?_)
    intro x y hxy he
    exact hxy (Int.ofNat.inj he)
  have hsorted : (sortZ L).Pairwise (· < ·) := by
    have h7 := List.pairwise_mergeSort (le := fun x y : Int => decide (x ≤ y)) (fun x y z p q => by simp at p q ⊢; omega) (fun x y => by simp; omega) L
    have h8 : (sortZ L).Nodup := hperm.nodup_iff.2 hLn
    refine (List.Pairwise.and h7 h8).imp ?_
    rintro x y ⟨p, q⟩
    simp at p
    omega
  have hrng : ∀ x ∈ sortZ L, 0 ≤ x ∧ x < 4096 := by
    intro x hx
    obtain ⟨v, hv, rfl⟩ := List.mem_map.1 (hperm.mem_iff.1 hx)
    have := hin v hv
    exact ⟨Int.natCast_nonneg _, by show (v : Int) < 4096; omega⟩
  obtain ⟨s1, s2, s3, s4, s5⟩ := addAll_spec (sortZ L) [] Norm.nil (fun r hr => by simp at hr) (fun x hx => ⟨(hrng x hx).1, (hrng x hx).2, fun r hr => by simp at hr⟩) hsorted
  refine ⟨addAll [] (sortZ L), ?_, s1, s2, fun e => ?_, ?_, ?_⟩
  · unfold cover_Of.f
    refine Ev.bind (Ev.const boxMay_spec) (Ev.pos (decide_eq_true ⟨h1, h2, h3, h4, h5, h6⟩) ?_)
    rw [ha]
    refine Of_l0 hc (by omega) hb hd (by omega) (by omega) ((c / 67108864).toNat + 1 - (a / 67108864).toNat) _ [] (by omega) (by simp; omega) ?_
    have hsort : slices_Sort_int_int.f ([] ++ L) = some (sortZ L) := by
      unfold slices_Sort_int_int.f
      rw [List.nil_append, if_pos (by rw [hLl]; omega)]
    refine Ev.bind (Ev.const hsort) ?_
    have := Of_l2 (sortZ L) [] [] hrng (by simp; omega) (by simp; omega)
    have e1 : ((([] : List Int) ++ L).length : Int) = ((([] : List Int) ++ sortZ L).length : Int) := by simp [hsl, hLl]
    show Ev (fun k => cover_Of.l2 k [] (sortZ L) ((([] : List Int) ++ L).length : Int) 0) _
    rw [e1]
    exact this
  · rw [s3, hperm.mem_iff, List.mem_map]
    constructor
    · rintro (hm | ⟨v, hv, he⟩)
      · exact absurd hm Mem.nil
      · have he' : (v : Int) = e / 1048576 := he
        refine ⟨by omega, ?_⟩
        rw [← he']
        exact hv
    · rintro ⟨he, hm⟩
      exact .inr ⟨_, hm, by show ((e / 1048576).toNat : Int) = _; omega⟩
  · rw [s4, hsl]
    simp [total]
  · rw [hsl] at s5
    simpa using s5
theorem Of_not {a b c d : Int} (h : ¬ boxMay a b c d) : Ev (fun k => cover_Of.f k a b c d) ([], 600) := by
  unfold cover_Of.f
  exact Ev.bind (Ev.const boxMay_spec) (Ev.neg (by simpa [boxMay] using h) (Ev.const rfl))
end Go.Proofs.Ytngcljnhcbbdmaa.C
