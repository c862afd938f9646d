/-
  Plain: the reference's mix of two rows of ranges is the program's; and the law Covers.
-/
import Derived.Test.YtngcljnhcbbdmaaCov
import Derived.Test.YtngcljnhcbbdmaaPBox
import Derived.Test.YtngcljnhcbbdmaaC5
import Derived.Test.YtngcljnhcbbdmaaC6
namespace Go.Proofs.Ytngcljnhcbbdmaa.C
open Go.RowKit Go.Proofs.YtngcljnhcbbdmaaW.PrintWords Go.Proofs.YtngcljnhcbbdmaaW.PrintLast Go.Proofs.YtngcljnhcbbdmaaW.PrintMore
set_option linter.unusedVariables false
set_option linter.unusedSimpArgs false

/-! ### the reference's tests -/
theorem ref_May_loop (rest : List S41) : ∀ pre : List S41, pre.length + rest.length ≤ 9223372036854775807 → Ev (fun k => furlongref1_RangesMay.l0 k (pre ++ rest) (pre.length : Int)) (mayFrom pre.getLast? rest) := by
  induction rest with
  | nil =>
    intro pre hl
    refine Ev.succ ?_
    simp only [furlongref1_RangesMay.l0]
    exact Ev.neg (by simp) (Ev.const rfl)
  | cons r rest ih =>
    intro pre hl
    have hl2 : (pre ++ r :: rest).length = pre.length + rest.length + 1 := by simp; omega
    simp only [List.length_cons] at hl
    refine Ev.succ ?_
    simp only [furlongref1_RangesMay.l0, rd41_at]
    refine Ev.pos (by omega) (Ev.pos (by omega) ?_)
    by_cases h1 : r.f0 < 0
    · refine Ev.pos h1 (Ev.const ?_)
      have : decide (0 ≤ r.f0) = false := decide_eq_false (by omega)
      simp [mayFrom, this]
    · refine Ev.neg h1 ?_
      by_cases h2 : r.f0 ≥ r.f1
      · refine Ev.pos h2 (Ev.const ?_)
        have : decide (r.f0 < r.f1) = false := decide_eq_false (by omega)
        simp [mayFrom, this]
      · refine Ev.neg h2 ?_
        by_cases h3 : r.f1 > 4294967296
        · refine Ev.pos h3 (Ev.const ?_)
          have : decide (r.f1 ≤ 4294967296) = false := decide_eq_false (by omega)
          simp [mayFrom, this]
        · refine Ev.neg h3 ?_
          have e1 : decide (0 ≤ r.f0) = true := decide_eq_true (by omega)
          have e2 : decide (r.f0 < r.f1) = true := decide_eq_true (by omega)
          have e3 : decide (r.f1 ≤ 4294967296) = true := decide_eq_true (by omega)
          have hnext := ih (pre ++ [r]) (by simp; omega)
          rw [List.append_assoc, List.getLast?_concat] at hnext
          have hw : wrap64 ((pre.length : Int) + 1) = ((pre ++ [r]).length : Int) := by rw [wrap_succ _ (by omega)]; simp
          rcases snoc_cases pre with rfl | ⟨m, q, rfl⟩
          · refine Ev.neg (by simp) ?_
            rw [hw]
            simpa [mayFrom, e1, e2, e3] using hnext
          · have hml : (m ++ [q]).length = m.length + 1 := by simp
            have hq := last_at m q (r :: rest) (by omega)
            have hw2 : wrap64 (((m ++ [q]).length : Int) - 1) = (m.length : Int) := by rw [hml, wrap_pred (m.length + 1) (by omega) (by omega)]; rfl
            rw [hq]
            refine Ev.pos (by omega) (Ev.pos (by omega) (Ev.pos (by omega) ?_))
            by_cases h4 : q.f1 ≥ r.f0
            · refine Ev.pos h4 (Ev.const ?_)
              have : decide (q.f1 < r.f0) = false := decide_eq_false (by omega)
              simp [mayFrom, this]
            · refine Ev.neg h4 ?_
              rw [hw]
              have e4 : decide (q.f1 < r.f0) = true := decide_eq_true (by omega)
              simpa [mayFrom, e1, e2, e3, e4] using hnext
open Classical in
theorem ref_May (l : List S41) (h : l.length ≤ 9223372036854775807) : Ev (fun k => furlongref1_RangesMay.f k l) (decide (Norm l)) := by
  have h1 := ref_May_loop l [] (by simpa using h)
  have h2 : mayFrom none l = decide (Norm l) := by rw [Bool.eq_iff_iff, mayFrom_none, decide_eq_true_iff]
  rw [← h2]
  exact h1
theorem ref_Has_loop (d : Int) (rest : List S41) : ∀ pre : List S41, pre.length + rest.length ≤ 9223372036854775807 → Ev (fun k => furlongref1_HasRange.l0 k (pre ++ rest) d (pre.length : Int)) (rest.any (inRange d)) := by
  induction rest with
  | nil =>
    intro pre hl
    refine Ev.succ ?_
    simp only [furlongref1_HasRange.l0]
    exact Ev.neg (by simp) (Ev.const rfl)
  | cons r rest ih =>
    intro pre hl
    have hl2 : (pre ++ r :: rest).length = pre.length + rest.length + 1 := by simp; omega
    simp only [List.length_cons] at hl
    have hnext := ih (pre ++ [r]) (by simp; omega)
    rw [List.append_assoc] at hnext
    have hw : wrap64 ((pre.length : Int) + 1) = ((pre ++ [r]).length : Int) := by rw [wrap_succ _ (by omega)]; simp
    refine Ev.succ ?_
    simp only [furlongref1_HasRange.l0, rd41_at]
    refine Ev.pos (by omega) (Ev.pos (by omega) ?_)
    rw [hw, List.any_cons]
    by_cases h1 : d ≥ r.f0
    · refine Ev.pos h1 ?_
      by_cases h2 : d < r.f1
      · refine Ev.pos h2 (Ev.const ?_)
        have : inRange d r = true := by unfold inRange; simp [h2]; omega
        rw [this, Bool.true_or]
      · refine Ev.neg h2 ?_
        have : inRange d r = false := by unfold inRange; simp [h2]
        rw [this, Bool.false_or]
        exact hnext
    · refine Ev.neg h1 ?_
      have : inRange d r = false := by unfold inRange; simp; omega
      rw [this, Bool.false_or]
      exact hnext
theorem ref_Has (l : List S41) (d : Int) (h : l.length ≤ 9223372036854775807) : Ev (fun k => furlongref1_HasRange.f k l d) (l.any (inRange d)) := ref_Has_loop d l [] (by simpa using h)

/-! ### the next end -/
def aft (a : Int) : List S41 → Int
  | [] => 4294967296
  | r :: rs => if r.f0 > a then r.f0 else if r.f1 > a then r.f1 else aft a rs
theorem ref_after_loop (d : Int) (rest : List S41) : ∀ pre : List S41, pre.length + rest.length ≤ 9223372036854775807 → Ev (fun k => furlongref1_after.l0 k (pre ++ rest) d (pre.length : Int)) (aft d rest) := by
  induction rest with
  | nil =>
    intro pre hl
    refine Ev.succ ?_
    simp only [furlongref1_after.l0]
    exact Ev.neg (by simp) (Ev.const rfl)
  | cons r rest ih =>
    intro pre hl
    have hl2 : (pre ++ r :: rest).length = pre.length + rest.length + 1 := by simp; omega
    simp only [List.length_cons] at hl
    have hnext := ih (pre ++ [r]) (by simp; omega)
    rw [List.append_assoc] at hnext
    have hw : wrap64 ((pre.length : Int) + 1) = ((pre ++ [r]).length : Int) := by rw [wrap_succ _ (by omega)]; simp
    refine Ev.succ ?_
    simp only [furlongref1_after.l0, rd41_at]
    refine Ev.pos (by omega) (Ev.pos (by omega) ?_)
    rw [hw, aft]
    by_cases h1 : r.f0 > d
    · rw [if_pos h1]
      exact Ev.pos h1 (Ev.const rfl)
    · rw [if_neg h1]
      refine Ev.neg h1 ?_
      by_cases h2 : r.f1 > d
      · rw [if_pos h2]
        exact Ev.pos h2 (Ev.const rfl)
      · rw [if_neg h2]
        exact Ev.neg h2 hnext
theorem ref_after (l : List S41) (d : Int) (h : l.length ≤ 9223372036854775807) : Ev (fun k => furlongref1_after.f k l d) (aft d l) := ref_after_loop d l [] (by simpa using h)
theorem aft_spec {l : List S41} (h : Norm l) (a : Int) (ha : a < 4294967296) : a < aft a l ∧ aft a l ≤ 4294967296 ∧ ∀ d, a ≤ d → d < aft a l → (Mem l d ↔ Mem l a) := by
  induction l with
  | nil => exact ⟨ha, Int.le_refl _, fun d _ _ => by simp [Mem]⟩
  | cons r rs ih =>
    obtain ⟨hr, hrs, hn⟩ := Norm.cons_iff.1 h
    obtain ⟨g1, g2, g3⟩ := hr
    rw [aft]
    split
    · rename_i h1
      refine ⟨h1, by omega, fun d h2 h3 => ?_⟩
      have hno : ∀ e, e < r.f0 → ¬ Mem (r :: rs) e := fun e he hm => by
        rcases Mem.cons_iff.1 hm with hm | hm
        · omega
        · have := Mem.above hrs hm; omega
      exact ⟨fun hm => absurd hm (hno d h3), fun hm => absurd hm (hno a h1)⟩
    · rename_i h1
      split
      · rename_i h2
        refine ⟨h2, g3, fun d h3 h4 => ?_⟩
        rw [Mem.cons_iff, Mem.cons_iff]
        exact ⟨fun _ => .inl ⟨by omega, h2⟩, fun _ => .inl ⟨by omega, h4⟩⟩
      · rename_i h2
        obtain ⟨i1, i2, i3⟩ := ih hn
        refine ⟨i1, i2, fun d h3 h4 => ?_⟩
        rw [Mem.cons_iff, Mem.cons_iff, i3 d h3 h4]
        constructor
        · rintro (h5 | h5)
          · omega
          · exact .inr h5
        · rintro (h5 | h5)
          · omega
          · exact .inr h5

/-! ### the mix -/
def opN (how : Int) (a b : Bool) : Bool := if how = 0 then a || b else if how = 1 then a && b else a && !b
theorem Mix_l0 {how : Int} (hh : how = 0 ∨ how = 1 ∨ how = 2) {l1 l2 out : List S41} {at_ : Int} (h1 : l1.length ≤ 9223372036854775807) (h2 : l2.length ≤ 9223372036854775807) (hat : at_ < 4294967296) {r : List S41 × Int}
    (h : Ev (fun k => furlongref1_Mix.j2 k how l1 l2 out at_ (decide (at_ ≥ 0) && opN how (l1.any (inRange at_)) (l2.any (inRange at_)))) r) : Ev (fun k => furlongref1_Mix.l0 k how l1 l2 out at_) r := by
  refine Ev.succ ?_
  simp only [furlongref1_Mix.l0]
  refine Ev.pos hat (Ev.bind (ref_Has l1 at_ h1) (Ev.bind (ref_Has l2 at_ h2) ?_))
  generalize l1.any (inRange at_) = A at h ⊢
  generalize l2.any (inRange at_) = B at h ⊢
  by_cases h0 : at_ ≥ 0
  · refine Ev.pos h0 ?_
    rw [decide_eq_true h0] at h
    rcases hh with rfl | rfl | rfl <;> cases A <;> cases B <;> simpa [opN] using h
  · refine Ev.neg h0 ?_
    rw [decide_eq_false h0] at h
    simpa using h
theorem Mix_j2 {how : Int} {l1 l2 out : List S41} {at_ : Int} (h1 : l1.length ≤ 9223372036854775807) (h2 : l2.length ≤ 9223372036854775807) (ho : out.length < 8796093022208) (c : Bool) {r : List S41 × Int}
    (h : Ev (fun k => furlongref1_Mix.l0 k how l1 l2 (if c = true then addR out at_ (mn (aft at_ l1) (aft at_ l2)) else out) (mn (aft at_ l1) (aft at_ l2))) r) : Ev (fun k => furlongref1_Mix.j2 k how l1 l2 out at_ c) r := by
  refine Ev.succ ?_
  simp only [furlongref1_Mix.j2]
  refine Ev.bind (ref_after l1 at_ h1) (Ev.bind (ref_after l2 at_ h2) ?_)
  generalize mn (aft at_ l1) (aft at_ l2) = nx at h ⊢
  cases c with
  | false =>
    rw [if_neg (show ¬ false = true by decide)] at h
    refine Ev.neg (by simp) (Ev.succ ?_)
    simp only [furlongref1_Mix.j3]
    exact Ev.neg (by simp) (Ev.neg (by simp) h)
  | true =>
    rw [if_pos (show true = true from rfl)] at h
    refine Ev.pos rfl ?_
    rcases snoc_cases out with rfl | ⟨m, q, rfl⟩
    · refine Ev.neg (by simp) (Ev.succ ?_)
      simp only [furlongref1_Mix.j3]
      exact Ev.neg (by simp) (Ev.pos trivial (Ev.pos (by simp) h))
    · have hl : (m ++ [q]).length = m.length + 1 := by simp
      have e1 : wrap64 (((m ++ [q]).length : Int) - 1) = (m.length : Int) := by rw [hl, wrap_pred (m.length + 1) (by omega) (by omega)]; rfl
      rw [e1, rd41_at m q []]
      refine Ev.pos (by omega) (Ev.pos (by omega) (Ev.pos (by omega) (Ev.succ ?_)))
      simp only [furlongref1_Mix.j3, e1, rd41_at m q []]
      rw [addR_snoc] at h
      by_cases he : q.f1 = at_
      · rw [if_pos he] at h
        refine Ev.pos (by simp [he]) (Ev.pos (by omega) (Ev.pos (by omega) ?_))
        have e2 : (m ++ [q]).set ((m.length : Int)).toNat ⟨q.f0, nx⟩ = m ++ [⟨q.f0, nx⟩] := by simp
        rw [e2]
        exact h
      · rw [if_neg he] at h
        exact Ev.neg (by simpa using he) (Ev.pos trivial (Ev.pos (by omega) h))
open Classical in
theorem Mix_loop {how : Int} (hh : how = 0 ∨ how = 1 ∨ how = 2) {l1 l2 : List S41} (n1 : Norm l1) (n2 : Norm l2) : ∀ (n : Nat) (out : List S41) (at_ : Int), (4294967296 - at_).toNat = n → -1 ≤ at_ → at_ ≤ 4294967296 → Norm out → (∀ r ∈ out, r.f1 ≤ at_) →
    (∀ d, Mem out d ↔ d < at_ ∧ opN how (decide (Mem l1 d)) (decide (Mem l2 d)) = true) → ∃ R, Ev (fun k => furlongref1_Mix.l0 k how l1 l2 out at_) (R, 0) ∧ Norm R ∧ ∀ d, Mem R d ↔ opN how (decide (Mem l1 d)) (decide (Mem l2 d)) = true := by
  have hff : opN how false false = false := by rcases hh with rfl | rfl | rfl <;> rfl
  intro n
  induction n using Nat.strongRecOn with
  | ind n ih =>
    intro out at_ hn hlo hhi hno hup hm
    have hlen := hno.len
    by_cases hat : at_ < 4294967296
    · obtain ⟨a1, a2, a3⟩ := aft_spec n1 at_ hat
      obtain ⟨b1, b2, b3⟩ := aft_spec n2 at_ hat
      have hnx : at_ < mn (aft at_ l1) (aft at_ l2) ∧ mn (aft at_ l1) (aft at_ l2) ≤ aft at_ l1 ∧ mn (aft at_ l1) (aft at_ l2) ≤ aft at_ l2 := by unfold mn; split <;> omega
      have hinv : ∀ d, at_ ≤ d → d < mn (aft at_ l1) (aft at_ l2) → (Mem l1 d ↔ Mem l1 at_) ∧ (Mem l2 d ↔ Mem l2 at_) := fun d h1 h2 => ⟨a3 d h1 (by omega), b3 d h1 (by omega)⟩
      have hany : ∀ l : List S41, l.any (inRange at_) = decide (Mem l at_) := fun l => by rw [Bool.eq_iff_iff, mem_any, decide_eq_true_iff]
      have key : ∃ out', out' = (if (decide (at_ ≥ 0) && opN how (l1.any (inRange at_)) (l2.any (inRange at_))) = true then addR out at_ (mn (aft at_ l1) (aft at_ l2)) else out) ∧ Norm out' ∧ (∀ r ∈ out', r.f1 ≤ mn (aft at_ l1) (aft at_ l2)) ∧ ∀ d, Mem out' d ↔ d < mn (aft at_ l1) (aft at_ l2) ∧ opN how (decide (Mem l1 d)) (decide (Mem l2 d)) = true := by
        rw [hany, hany]
        generalize mn (aft at_ l1) (aft at_ l2) = nx at hnx hinv ⊢
        by_cases hc : (decide (at_ ≥ 0) && opN how (decide (Mem l1 at_)) (decide (Mem l2 at_))) = true
        · rw [if_pos hc]
          simp only [Bool.and_eq_true, decide_eq_true_eq] at hc
          obtain ⟨c1, c2, c3⟩ := addR_norm hno hup hc.1 hnx.1 (show nx ≤ 4294967296 by omega)
          refine ⟨_, rfl, c1, c2, fun d => ?_⟩
          rw [c3 d, hm d]
          constructor
          · rintro (⟨h1, h2⟩ | ⟨h1, h2⟩)
            · exact ⟨by omega, h2⟩
            · obtain ⟨i1, i2⟩ := hinv d h1 h2
              refine ⟨h2, ?_⟩
              rw [decide_eq_decide.2 i1, decide_eq_decide.2 i2]
              exact hc.2
          · rintro ⟨h1, h2⟩
            rcases Int.lt_or_le d at_ with h3 | h3
            · exact .inl ⟨h3, h2⟩
            · exact .inr ⟨h3, h1⟩
        · rw [if_neg hc]
          refine ⟨_, rfl, hno, fun r hr => by have := hup r hr; omega, fun d => ?_⟩
          rw [hm d]
          constructor
          · rintro ⟨h1, h2⟩
            exact ⟨by omega, h2⟩
          · rintro ⟨h1, h2⟩
            rcases Int.lt_or_le d at_ with h3 | h3
            · exact ⟨h3, h2⟩
            · exfalso
              obtain ⟨i1, i2⟩ := hinv d h3 h1
              rw [decide_eq_decide.2 i1, decide_eq_decide.2 i2] at h2
              by_cases h0 : at_ ≥ 0
              · exact hc (by rw [decide_eq_true h0, h2]; rfl)
              · have m1 : ¬ Mem l1 at_ := fun h => by have := h.curve n1; omega
                have m2 : ¬ Mem l2 at_ := fun h => by have := h.curve n2; omega
                rw [decide_eq_false m1, decide_eq_false m2, hff] at h2
                cases h2
      obtain ⟨out', eo, k1, k2, k3⟩ := key
      obtain ⟨R, e, nR, mR⟩ := ih _ (by omega) out' (mn (aft at_ l1) (aft at_ l2)) rfl (by omega) (by omega) k1 k2 k3
      refine ⟨R, Mix_l0 hh n1.short n2.short hat (Mix_j2 n1.short n2.short (by omega) _ ?_), nR, mR⟩
      rw [← eo]
      exact e
    · obtain rfl : at_ = 4294967296 := by omega
      refine ⟨out, Ev.succ ?_, hno, fun d => ?_⟩
      · simp only [furlongref1_Mix.l0]
        exact Ev.neg (by omega) (Ev.const rfl)
      · rw [hm d]
        constructor
        · exact fun h => h.2
        · intro h
          refine ⟨?_, h⟩
          rcases Int.lt_or_le d 4294967296 with h3 | h3
          · exact h3
          · have m1 : ¬ Mem l1 d := fun h => by have := h.curve n1; omega
            have m2 : ¬ Mem l2 d := fun h => by have := h.curve n2; omega
            rw [decide_eq_false m1, decide_eq_false m2, hff] at h
            cases h
open Classical in
theorem Mix_norm {how : Int} (hh : how = 0 ∨ how = 1 ∨ how = 2) {l1 l2 R : List S41} (n1 : Norm l1) (n2 : Norm l2) (hR : Norm R) (hm : ∀ d, Mem R d ↔ opN how (decide (Mem l1 d)) (decide (Mem l2 d)) = true) : Ev (fun k => furlongref1_Mix.f k how l1 l2) (R, 0) := by
  have hff : opN how false false = false := by rcases hh with rfl | rfl | rfl <;> rfl
  obtain ⟨Q, e, nQ, mQ⟩ := Mix_loop hh n1 n2 _ [] (-1) rfl (by omega) (by omega) Norm.nil (fun r hr => by simp at hr) (fun d => by
    constructor
    · exact fun h => absurd h Mem.nil
    · rintro ⟨h1, h2⟩
      have m1 : ¬ Mem l1 d := fun h => by have := h.curve n1; omega
      have m2 : ¬ Mem l2 d := fun h => by have := h.curve n2; omega
      rw [decide_eq_false m1, decide_eq_false m2, hff] at h2
      cases h2)
  rw [Norm.ext nQ hR (fun d => by rw [mQ, hm])] at e
  unfold furlongref1_Mix.f
  refine Ev.bind (ref_May l1 n1.short) (Ev.pos (decide_eq_true n1) (Ev.bind (ref_May l2 n2.short) (Ev.succ ?_)))
  simp only [furlongref1_Mix.j0]
  exact Ev.neg (by simp [n2]) e
theorem Mix_not {how : Int} {l1 l2 : List S41} (g1 : l1.length ≤ 9223372036854775807) (g2 : l2.length ≤ 9223372036854775807) (h : ¬ (Norm l1 ∧ Norm l2)) : Ev (fun k => furlongref1_Mix.f k how l1 l2) ([], 600) := by
  classical
  unfold furlongref1_Mix.f
  by_cases h1 : Norm l1
  · have h2 : ¬ Norm l2 := fun h2 => h ⟨h1, h2⟩
    refine Ev.bind (ref_May l1 g1) (Ev.pos (decide_eq_true h1) (Ev.bind (ref_May l2 g2) (Ev.succ ?_)))
    simp only [furlongref1_Mix.j0]
    exact Ev.pos (by simp [h2]) (Ev.const rfl)
  · refine Ev.bind (ref_May l1 g1) (Ev.neg (by simp [h1]) (Ev.succ ?_))
    simp only [furlongref1_Mix.j0]
    exact Ev.pos (by simp) (Ev.const rfl)

/-! ### the reference's cover -/
theorem lend_same (l : List S41) (h : l.length + 2 < 8796093022208) : furlonglaw0_LendRanges.f l = some l := by
  unfold furlonglaw0_LendRanges.f furlonglaw0_CopyRanges.f
  rw [Option.bind_some, if_pos (by simp; omega), Option.bind_some, Option.bind_some, if_pos (by simp; omega), Option.bind_some, if_pos (by omega), if_pos (by simp; omega)]
  simp
theorem kept_same (l : List S41) (h : l.length + 2 < 8796093022208) : Ev (fun k => keptF k l l) true := by
  unfold keptF
  exact Ev.pos (by omega) (Ev.bind (same_true l (by omega)) (Ev.pos rfl (Ev.const rfl)))
theorem refOf_may {a b c d : Int} (h : boxMay a b c d) : ∃ R, Ev (fun k => cover_Of.f k a b c d) (R, 0) ∧ furlongref1_Of.f a b c d = some (R, 0) ∧ Norm R := by
  obtain ⟨R, e, n, _, m, _, _⟩ := Of_may h
  refine ⟨R, e, ?_, n⟩
  unfold furlongref1_Of.f
  rw [if_pos (show _ ∧ _ from h)]
  have hin : ∀ v ∈ boxCells a b c d, v < 4096 := by
    intro v hv
    obtain ⟨h1, h2, h3, h4, h5, h6⟩ := h
    obtain ⟨i, j, g1, g2, g3, g4, rfl⟩ := mem_grid.1 hv
    exact (cell_facts (by omega) (by omega)).1
  have hs := addAll_spec (((List.range 4096).filter fun c_ => decide (c_ ∈ boxCells a b c d)).map Int.ofNat) [] Norm.nil (fun r hr => by simp at hr) (fun x hx => by
      obtain ⟨v, hv, rfl⟩ := List.mem_map.1 hx
      have := List.mem_range.1 (List.mem_filter.1 hv).1
      exact ⟨Int.natCast_nonneg _, by show (v : Int) < 4096; omega, fun r hr => by simp at hr⟩) (by
      refine List.pairwise_map.2 ((List.pairwise_lt_range (n := 4096)).filter _ |>.imp ?_)
      intro x y hxy
      show (x : Int) < y
      omega)
  have : outOf (fun c_ => decide (c_ ∈ boxCells a b c d)) 4096 = R := by
    refine Norm.ext hs.1 n (fun z => ?_)
    have h3 := hs.2.2.1 z
    show Mem (addAll [] _) z ↔ _
    rw [h3, m z, List.mem_map]
    constructor
    · rintro (h4 | ⟨v, hv, he⟩)
      · exact absurd h4 Mem.nil
      · have he' : (v : Int) = z / 1048576 := he
        have := (List.mem_filter.1 hv).2
        refine ⟨by omega, ?_⟩
        rw [← he']
        simpa using this
    · rintro ⟨h4, h5⟩
      refine .inr ⟨_, List.mem_filter.2 ⟨List.mem_range.2 (hin _ h5), by simpa using h5⟩, ?_⟩
      show ((z / 1048576).toNat : Int) = _
      omega
  rw [this]
theorem refOf_not {a b c d : Int} (h : ¬ boxMay a b c d) : furlongref1_Of.f a b c d = some ([], 600) := by
  unfold furlongref1_Of.f
  rw [if_neg (show ¬ (_ ∧ _) from h)]

/-! ### the law -/
open Classical in
theorem Covers.ev (a b c d : Int) (x y : List S41) (e : Int) (hx : x.length + 2 < 8796093022208) (hy : y.length + 2 < 8796093022208) : Ev (fun k => furlonglaw6_Covers.f k a b c d x y e) true := by
  unfold furlonglaw6_Covers.f
  have gx : x.length ≤ 9223372036854775807 := by omega
  have gy : y.length ≤ 9223372036854775807 := by omega
  have hj : Ev (fun k => furlonglaw6_Covers.j0 k x y e x y false) true := by
    refine Ev.succ ?_
    simp only [furlonglaw6_Covers.j0]
    refine Ev.neg (by simp) ?_
    have tail : Ev (fun k => (cover_May.f k x).bind fun t353 => ((furlongref1_RangesMay.f k x).bind fun t354 => (if (t353 == t354) = true then ((cover_Has.f x e).bind fun t355 => ((furlongref1_HasRange.f k x e).bind fun t356 => (if (t355 == t356) = true then ((keptF k x x).bind fun t357 => (if t357 = true then ((keptF k y y).bind fun t358 => (if t358 = true then ((furlonglaw6_awake.f k).bind fun t359 => (some t359)) else (none))) else (none))) else (none)))) else (none)))) true := by
      refine Ev.bind (cover_May_spec x gx) (Ev.bind (ref_May x gx) (Ev.pos (by simp) ?_))
      refine Ev.bind (x := x.any (inRange e)) (Ev.const rfl) (Ev.bind (ref_Has x e gx) (Ev.pos (by simp) ?_))
      refine Ev.bind (kept_same x hx) (Ev.pos rfl (Ev.bind (kept_same y hy) (Ev.pos rfl ?_)))
      exact Ev.bind awake_true (Ev.const rfl)
    by_cases h : Norm x ∧ Norm y
    · obtain ⟨nx, ny⟩ := h
      obtain ⟨U, eU, nU, mU⟩ := Union_norm nx ny
      obtain ⟨I, eI, nI, mI⟩ := Common_norm nx ny
      obtain ⟨L, eL, nL, mL⟩ := Less_norm nx ny
      refine Ev.bind eU (Ev.bind (Mix_norm (.inl rfl) nx ny nU mU) ?_)
      refine Ev.bind eI (Ev.bind (Mix_norm (.inr (.inl rfl)) nx ny nI mI) ?_)
      refine Ev.bind eL (Ev.bind (Mix_norm (.inr (.inr rfl)) nx ny nL mL) ?_)
      refine Ev.bind (same_true _ nU.short) (Ev.pos rfl (Ev.bind (Ev.const (num _)) (Ev.pos rfl ?_)))
      refine Ev.bind (same_true _ nI.short) (Ev.pos rfl (Ev.bind (Ev.const (num _)) (Ev.pos rfl ?_)))
      refine Ev.bind (same_true _ nL.short) (Ev.pos rfl (Ev.bind (Ev.const (num _)) (Ev.pos rfl ?_)))
      exact tail
    · refine Ev.bind (Union_not gx gy h) (Ev.bind (Mix_not gx gy h) ?_)
      refine Ev.bind (Common_not gx gy h) (Ev.bind (Mix_not gx gy h) ?_)
      refine Ev.bind (Less_not gx gy h) (Ev.bind (Mix_not gx gy h) ?_)
      refine Ev.bind (same_true _ (by simp)) (Ev.pos rfl (Ev.bind (Ev.const (num _)) (Ev.pos rfl ?_)))
      refine Ev.bind (same_true _ (by simp)) (Ev.pos rfl (Ev.bind (Ev.const (num _)) (Ev.pos rfl ?_)))
      refine Ev.bind (same_true _ (by simp)) (Ev.pos rfl (Ev.bind (Ev.const (num _)) (Ev.pos rfl ?_)))
      exact tail
  refine Ev.bind (Ev.const (lend_same x hx)) (Ev.bind (Ev.const (lend_same y hy)) ?_)
  by_cases h : boxMay a b c d
  · obtain ⟨R, e1, e2, n⟩ := refOf_may h
    refine Ev.bind e1 (Ev.bind (Ev.const e2) (Ev.bind (same_true _ n.short) (Ev.pos rfl (Ev.bind (Ev.const (num _)) ?_))))
    exact hj
  · refine Ev.bind (Of_not h) (Ev.bind (Ev.const (refOf_not h)) (Ev.bind (same_true _ (by simp)) (Ev.pos rfl (Ev.bind (Ev.const (num _)) ?_))))
    exact hj
theorem Covers.pure (z : BoxT) (_ : True) (l0 : List S41) (_ : l0.length ≤ 9223372036854775807) (h0 : l0.length * 16 ≤ 140737488351232) (l1 : List S41) (_ : l1.length ≤ 9223372036854775807) (h1 : l1.length * 16 ≤ 140737488351232) (d : Int) (_ : (Lit.int .i64 d).wf = true) : ∃ k, furlonglaw6_Covers.f k z.1 z.2.1 z.2.2.1 z.2.2.2 l0 l1 d = some true := (Covers.ev _ _ _ _ l0 l1 d (by omega) (by omega)).at
end Go.Proofs.Ytngcljnhcbbdmaa.C
