/-
  Plain: the reference's cell of a place is the program's; the reference's boxes that may be are the program's.
-/
import Derived.Test.YtngcljnhcbbdmaaPOf
import Derived.Test.YtngcljnhcbbdmaaGRefC
namespace Go.Proofs.Ytngcljnhcbbdmaa.C
open Go.RowKit Go.Proofs.YtngcljnhcbbdmaaW.PrintWords Go.Proofs.YtngcljnhcbbdmaaW.PrintLast Go.Proofs.YtngcljnhcbbdmaaW.PrintMore
set_option linter.unusedVariables false
set_option linter.unusedSimpArgs false

theorem and_mask (i : Nat) (hi : i ≤ 62) (x : Int) (h0 : 0 ≤ x) (h1 : x < 4611686018427387904) : Go.bits .and .i64 x (2 ^ i - 1) = x % 2 ^ i :=
  bits_mask .i64 62 (by decide) (fun n a b => by rw [IntKind.wrap_i64]; omega) i hi x h0 (by simpa using h1)
theorem and_one (x : Int) (h0 : 0 ≤ x) (h1 : x < 4611686018427387904) : Go.bits .and .i64 x 1 = x % 2 := and_mask 1 (by decide) x h0 h1
theorem cell_step (s p : Int) (hsp : s = 0 ∧ p = 1 ∨ s = 1 ∧ p = 2 ∨ s = 2 ∧ p = 4 ∨ s = 3 ∧ p = 8 ∨ s = 4 ∧ p = 16 ∨ s = 5 ∧ p = 32)
    (ih : ∀ (k : Nat) (x y d : Int), 0 ≤ x → x < 64 → 0 ≤ y → y < 64 → hilbert_Cell.l0 k x y d (s - 1) = furlongref1_Cell.l0 k x y d (p / 2)) (k : Nat) (x y d : Int) (hx0 : 0 ≤ x) (hx : x < 64) (hy0 : 0 ≤ y) (hy : y < 64) :
    hilbert_Cell.l0 k x y d s = furlongref1_Cell.l0 k x y d p := by
  cases k with
  | zero => simp only [hilbert_Cell.l0, furlongref1_Cell.l0]
  | succ k =>
    have hp1 : 0 < p := by omega
    have hp2 : p ≤ 32 := by omega
    have e1 : wrap64 (2 ^ s.toNat) = p := by rcases hsp with ⟨rfl, rfl⟩ | ⟨rfl, rfl⟩ | ⟨rfl, rfl⟩ | ⟨rfl, rfl⟩ | ⟨rfl, rfl⟩ | ⟨rfl, rfl⟩ <;> decide +kernel
    have e1' : (2 : Int) ^ s.toNat = p := by rcases hsp with ⟨rfl, rfl⟩ | ⟨rfl, rfl⟩ | ⟨rfl, rfl⟩ | ⟨rfl, rfl⟩ | ⟨rfl, rfl⟩ | ⟨rfl, rfl⟩ <;> decide +kernel
    have hm : ∀ z : Int, 0 ≤ z → z < 64 → 0 ≤ Go.bits .and .i64 z (p - 1) ∧ Go.bits .and .i64 z (p - 1) < p := by
      intro z h0 h1
      have h2 := and_mask s.toNat (by omega) z h0 (by omega)
      rw [e1'] at h2
      rw [h2]
      exact ⟨Int.emod_nonneg _ (by omega), Int.emod_lt_of_pos _ hp1⟩
    have e2 : wrap64 (p - 1) = p - 1 := wrap_id _ (by omega) (by omega)
    have e3 : wrap64 (s - 1) = s - 1 := wrap_id _ (by omega) (by omega)
    have e4 : Int.tdiv p 2 = p / 2 := Int.tdiv_eq_ediv_of_nonneg (by omega)
    have e5 : wrap64 (p / 2) = p / 2 := wrap_id _ (by omega) (by omega)
    have q0 : ∀ z : Int, 0 ≤ z → z < 64 → 0 ≤ z / p ∧ z / p < 64 := fun z h0 h1 => ⟨Int.ediv_nonneg h0 (by omega), Int.lt_of_le_of_lt (Int.ediv_le_self _ h0) h1⟩
    have e6 : ∀ z : Int, 0 ≤ z → z < 64 → wrap64 (Int.tdiv z p) = z / p := fun z h0 h1 => by rw [Int.tdiv_eq_ediv_of_nonneg h0]; have := q0 z h0 h1; exact wrap_id _ (by omega) (by omega)
    have b0 : ∀ z : Int, 0 ≤ z → z < 64 → Go.bits .and .i64 (z / p) 1 = 0 ∨ Go.bits .and .i64 (z / p) 1 = 1 := fun z h0 h1 => by
      have h2 := q0 z h0 h1
      rw [and_one _ h2.1 (by omega)]
      omega
    have hx2 := hm x hx0 hx
    have hy2 := hm y hy0 hy
    simp only [hilbert_Cell.l0, furlongref1_Cell.l0]
    rw [if_pos (by omega), if_pos (by omega), if_pos (by omega), if_pos (by omega), if_neg (by omega)]
    rw [e1, e1', e2, e3, e4, e5, e6 x hx0 hx, e6 y hy0 hy]
    unfold hilbert_turned.f
    rw [e2]
    have w1 : wrap64 (p - 1 - Go.bits .and .i64 y (p - 1)) = p - 1 - Go.bits .and .i64 y (p - 1) := wrap_id _ (by omega) (by omega)
    have w2 : wrap64 (p - 1 - Go.bits .and .i64 x (p - 1)) = p - 1 - Go.bits .and .i64 x (p - 1) := wrap_id _ (by omega) (by omega)
    rcases b0 y hy0 hy with h | h
    · rw [if_neg (by rw [h]; decide), if_pos h]
      by_cases h2 : Go.bits .and .i64 (x / p) 1 = 1
      · rw [if_pos h2, if_pos h2, Option.bind_some, w1, w2]
        exact ih k _ _ _ (by omega) (by omega) (by omega) (by omega)
      · rw [if_neg h2, if_neg h2, Option.bind_some]
        exact ih k _ _ _ (by omega) (by omega) (by omega) (by omega)
    · rw [if_pos h, if_neg (by rw [h]; decide), Option.bind_some]
      exact ih k _ _ _ (by omega) (by omega) (by omega) (by omega)
theorem cell_same (k : Nat) (x y d : Int) (hx0 : 0 ≤ x) (hx : x < 64) (hy0 : 0 ≤ y) (hy : y < 64) : hilbert_Cell.l0 k x y d 5 = furlongref1_Cell.l0 k x y d 32 := by
  have hz : ∀ (k : Nat) (x y d : Int), 0 ≤ x → x < 64 → 0 ≤ y → y < 64 → hilbert_Cell.l0 k x y d (0 - 1) = furlongref1_Cell.l0 k x y d (1 / 2) := by
    intro k x y d _ _ _ _
    cases k with
    | zero => simp only [hilbert_Cell.l0, furlongref1_Cell.l0]
    | succ k =>
      simp only [hilbert_Cell.l0, furlongref1_Cell.l0]
      rw [if_neg (by decide), if_neg (by decide)]
  have h0 := cell_step 0 1 (by omega) hz
  have h1 := cell_step 1 2 (by omega) h0
  have h2 := cell_step 2 4 (by omega) h1
  have h3 := cell_step 3 8 (by omega) h2
  have h4 := cell_step 4 16 (by omega) h3
  exact cell_step 5 32 (by omega) h4 k x y d hx0 hx hy0 hy
theorem ref_cell {x y : Nat} (hx : x < 64) (hy : y < 64) : Ev (fun k => furlongref1_Cell.f k (x : Int) (y : Int) 6) ((cellN x y : Int), 0) := by
  have h := cell_ev hx hy
  unfold furlongref1_Cell.f
  unfold hilbert_Cell.f at h
  have e1 : wrap64 (2 ^ (6 : Int).toNat) = 64 := by decide +kernel
  rw [e1] at h ⊢
  have f1 : ¬ ((y : Int) ≥ 64) := by omega
  refine Ev.neg (by omega) (Ev.neg (by omega) (Ev.neg (by omega) (Ev.pos (by omega) (Ev.pos (by omega) (Ev.neg (by omega) (Ev.neg (by omega) (Ev.succ ?_)))))))
  simp only [furlongref1_Cell.j0]
  refine Ev.neg (by simp only [decide_eq_true_eq]; exact f1) (Ev.pos (by decide +kernel) (Ev.pos (by decide +kernel) ?_))
  have e2 : wrap64 (2 ^ (wrap64 (6 - 1)).toNat) = 32 := by decide +kernel
  rw [e2]
  obtain ⟨K, hK⟩ := h
  refine ⟨K + 1, fun k hk => ?_⟩
  have h2 := hK (k + 1) (by omega)
  dsimp only at h2 ⊢
  rw [if_neg (by omega), if_neg (by omega), if_neg (by omega), if_neg (by omega), if_pos (by omega), if_pos (by omega), if_neg (by omega)] at h2
  simp only [hilbert_Cell.j0] at h2
  rw [if_neg (by simp only [decide_eq_true_eq]; exact f1), show wrap64 (6 - 1) = 5 from by decide +kernel] at h2
  rw [← cell_same k x y 0 (by omega) (by omega) (by omega) (by omega)]
  exact h2
theorem ref_boxMay {a b c d : Int} : furlongref1_BoxMay.f a b c d = some (decide (0 ≤ a ∧ 0 ≤ b ∧ c ≤ 4294967295 ∧ d ≤ 4294967295 ∧ a ≤ c ∧ b ≤ d)) := by
  have hp : ∀ x y : Int, furlongref1_PointMay.f x y = some (decide (0 ≤ x ∧ x ≤ 4294967295 ∧ 0 ≤ y ∧ y ≤ 4294967295)) := by
    intro x y
    unfold furlongref1_PointMay.f
    by_cases h1 : x ≥ 0
    · rw [if_pos h1]
      by_cases h2 : x ≤ 4294967295
      · rw [if_pos h2]
        by_cases h3 : y ≥ 0
        · rw [if_pos h3]
          congr 1
          exact decide_eq_decide.2 ⟨fun h => ⟨h1, h2, h3, h⟩, fun h => h.2.2.2⟩
        · rw [if_neg h3]; congr 1; exact (decide_eq_false (by omega)).symm
      · rw [if_neg h2]; congr 1; exact (decide_eq_false (by omega)).symm
    · rw [if_neg h1]; congr 1; exact (decide_eq_false (by omega)).symm
  unfold furlongref1_BoxMay.f
  simp only [hp, Option.bind_some, decide_eq_true_eq]
  by_cases h1 : 0 ≤ a ∧ a ≤ 4294967295 ∧ 0 ≤ b ∧ b ≤ 4294967295
  · rw [if_pos h1]
    by_cases h2 : 0 ≤ c ∧ c ≤ 4294967295 ∧ 0 ≤ d ∧ d ≤ 4294967295
    · rw [if_pos h2]
      by_cases h5 : a ≤ c
      · rw [if_pos h5]
        congr 1
        exact decide_eq_decide.2 ⟨fun h6 => by omega, fun h6 => by omega⟩
      · rw [if_neg h5]; congr 1; exact (decide_eq_false (by omega)).symm
    · rw [if_neg h2]; congr 1; exact (decide_eq_false (by omega)).symm
  · rw [if_neg h1]; congr 1; exact (decide_eq_false (by omega)).symm
end Go.Proofs.Ytngcljnhcbbdmaa.C
