/-
  Plain: what the law CoverCounts computes is true, whatever the arguments.
-/
import Derived.Test.YtngcljnhcbbdmaaPBox
import Derived.Test.YtngcljnhcbbdmaaC10
namespace Go.Proofs.Ytngcljnhcbbdmaa.C
open Go.RowKit Go.Proofs.YtngcljnhcbbdmaaW.PrintWords Go.Proofs.YtngcljnhcbbdmaaW.PrintLast Go.Proofs.YtngcljnhcbbdmaaW.PrintMore
set_option linter.unusedVariables false
set_option linter.unusedSimpArgs false

theorem counts_loop {x6 : Int} : ∀ (rest pre : List S41) (x8 : Int), (∀ r ∈ rest, good r) → even rest → pre.length + rest.length ≤ 1000000 → 0 ≤ x8 → x8 + total rest ≤ 4294967296 → x8 + total rest = wrap64 (x6 * 1048576) → ((pre ++ rest).length : Int) ≤ x6 →
    Ev (fun k => furlonglaw6_CoverCounts.l0 k (pre ++ rest) x6 1048576 x8 (pre.length : Int)) true := by
  intro rest
  induction rest with
  | nil =>
    intro pre x8 _ _ _ _ _ he hl
    refine Ev.succ ?_
    simp only [furlonglaw6_CoverCounts.l0]
    refine Ev.neg (by simp) (Ev.pos ?_ (Ev.const ?_))
    · simpa [total] using he
    · rw [decide_eq_true hl]
  | cons r rest ih =>
    intro pre x8 hg hv hn h0 hb he hl
    have hl2 : (pre ++ r :: rest).length = pre.length + rest.length + 1 := by simp; omega
    simp only [List.length_cons] at hn
    have hgr := hg r List.mem_cons_self
    have hvr := hv r List.mem_cons_self
    unfold good at hgr
    have hpos : 0 ≤ total rest := by
      have : ∀ l : List S41, (∀ q ∈ l, good q) → 0 ≤ total l := by
        intro l
        induction l with
        | nil => intro _; simp [total]
        | cons q l ihl =>
          intro hq
          have h1 := hq q List.mem_cons_self
          have h2 := ihl (fun z hz => hq z (List.mem_cons_of_mem _ hz))
          unfold good at h1
          rw [total_cons]
          omega
      exact this rest (fun q hq => hg q (List.mem_cons_of_mem _ hq))
    rw [total_cons] at hb he
    have hw : wrap64 ((pre.length : Int) + 1) = ((pre ++ [r]).length : Int) := by rw [wrap_succ _ (by omega)]; simp
    refine Ev.succ ?_
    simp only [furlonglaw6_CoverCounts.l0, rd41_at]
    refine Ev.pos (by omega) (Ev.pos (by omega) (Ev.neg (by omega) ?_))
    refine Ev.pos ?_ (Ev.pos ?_ ?_)
    · rw [Int.tmod_eq_emod_of_nonneg (by omega)]; exact hvr.1
    · rw [Int.tmod_eq_emod_of_nonneg (by omega)]; exact hvr.2
    · have e1 : wrap64 (wrap64 (x8 + r.f1) - r.f0) = x8 + (r.f1 - r.f0) := by rw [wrap_id (x8 + r.f1) (by omega) (by omega), wrap_id _ (by omega) (by omega)]; omega
      rw [e1, hw]
      have := ih (pre ++ [r]) (x8 + (r.f1 - r.f0)) (fun q hq => hg q (List.mem_cons_of_mem _ hq)) (fun q hq => hv q (List.mem_cons_of_mem _ hq)) (by simp; omega) (by omega) (by omega) (by omega) (by rw [List.append_assoc]; exact hl)
      rw [List.append_assoc] at this
      exact this
theorem CoverCounts.ev (a b c d : Int) : Ev (fun k => furlonglaw6_CoverCounts.f k a b c d) true := by
  unfold furlonglaw6_CoverCounts.f
  refine Ev.bind awake_true (Ev.pos rfl ?_)
  by_cases h : boxMay a b c d
  · obtain ⟨R, e, n, ev, _, t, l⟩ := Of_may h
    refine Ev.bind e (Ev.bind (Ev.const (num _)) (Ev.pos rfl ?_))
    obtain ⟨h1, h2, h3, h4, h5, h6⟩ := h
    have hlen : ((boxCells a b c d).length : Int) = (c / 67108864 - a / 67108864 + 1) * (d / 67108864 - b / 67108864 + 1) := by
      unfold boxCells
      rw [grid_len, Int.natCast_mul]
      congr 1 <;> omega
    have e1 : wrap64 (wrap64 (wrap64 (wrap64 (Int.tdiv c 67108864) - wrap64 (Int.tdiv a 67108864)) + 1) * wrap64 (wrap64 (wrap64 (Int.tdiv d 67108864) - wrap64 (Int.tdiv b 67108864)) + 1)) = ((boxCells a b c d).length : Int) := by
      rw [Int.tdiv_eq_ediv_of_nonneg (by omega), Int.tdiv_eq_ediv_of_nonneg (by omega), Int.tdiv_eq_ediv_of_nonneg (by omega), Int.tdiv_eq_ediv_of_nonneg (by omega)]
      rw [wrap_id (c / 67108864) (by omega) (by omega), wrap_id (a / 67108864) (by omega) (by omega), wrap_id (d / 67108864) (by omega) (by omega), wrap_id (b / 67108864) (by omega) (by omega)]
      rw [wrap_id (c / 67108864 - a / 67108864) (by omega) (by omega), wrap_id (d / 67108864 - b / 67108864) (by omega) (by omega)]
      rw [wrap_id (c / 67108864 - a / 67108864 + 1) (by omega) (by omega), wrap_id (d / 67108864 - b / 67108864 + 1) (by omega) (by omega), ← hlen]
      have : (boxCells a b c d).length ≤ 4096 := by
        unfold boxCells
        rw [grid_len]
        exact Nat.le_trans (Nat.mul_le_mul (show _ ≤ 64 by omega) (show _ ≤ 64 by omega)) (by decide)
      exact wrap_id _ (by omega) (by omega)
    rw [e1]
    have hsm : (boxCells a b c d).length ≤ 4096 := by
      unfold boxCells
      rw [grid_len]
      exact Nat.le_trans (Nat.mul_le_mul (show _ ≤ 64 by omega) (show _ ≤ 64 by omega)) (by decide)
    exact counts_loop R [] 0 n.1 ev (by simp; omega) (by omega) (by omega) (by rw [wrap_id _ (by omega) (by omega)]; omega) (by simp; omega)
  · refine Ev.bind (Of_not h) (Ev.bind (Ev.const (num _)) (Ev.neg (by omega) (Ev.const rfl)))
theorem CoverCounts.pure (x : BoxT) (_ : True) : ∃ k, furlonglaw6_CoverCounts.f k x.1 x.2.1 x.2.2.1 x.2.2.2 = some true := (CoverCounts.ev _ _ _ _).at
end Go.Proofs.Ytngcljnhcbbdmaa.C
