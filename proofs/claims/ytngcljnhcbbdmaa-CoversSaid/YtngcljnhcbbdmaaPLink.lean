/-
  From what the printed functions compute to the plain rows of ranges: enough rounds give the plain answer.
-/
import Derived.Test.YtngcljnhcbbdmaaPMix
import Derived.Test.YtngcljnhcbbdmaaC3
import Derived.Test.YtngcljnhcbbdmaaC4
import Derived.Test.YtngcljnhcbbdmaaC7
namespace Go.Proofs.Ytngcljnhcbbdmaa.C
open Go.RowKit Go.Proofs.YtngcljnhcbbdmaaW.PrintWords Go.Proofs.YtngcljnhcbbdmaaW.PrintLast Go.Proofs.YtngcljnhcbbdmaaW.PrintMore
set_option linter.unusedVariables false
set_option linter.unusedSimpArgs false

/-! ### enough rounds -/
/-- From some number of rounds on, the answer is r. -/
def Ev {α : Type} (g : Nat → Option α) (r : α) : Prop := ∃ K, ∀ k, K ≤ k → g k = some r
theorem Ev.const {α : Type} {x : Option α} {r : α} (h : x = some r) : Ev (fun _ => x) r := ⟨0, fun _ _ => h⟩
theorem Ev.succ {α : Type} {g : Nat → Option α} {r : α} (h : Ev (fun k => g (k + 1)) r) : Ev g r := by
  obtain ⟨K, hK⟩ := h
  refine ⟨K + 1, fun k hk => ?_⟩
  cases k with
  | zero => omega
  | succ k => exact hK k (by omega)
theorem Ev.bind {α β : Type} {g : Nat → Option α} {h : Nat → α → Option β} {x : α} {r : β} (hg : Ev g x) (hh : Ev (fun k => h k x) r) : Ev (fun k => (g k).bind (h k)) r := by
  obtain ⟨K, hK⟩ := hg
  obtain ⟨L, hL⟩ := hh
  refine ⟨K + L, fun k hk => ?_⟩
  show (g k).bind (h k) = some r
  rw [hK k (by omega)]
  exact hL k (by omega)
theorem Ev.pos {α : Type} {c : Prop} [Decidable c] {a b : Nat → Option α} {r : α} (h : c) (ha : Ev a r) : Ev (fun k => if c then a k else b k) r := by
  simpa only [if_pos h] using ha
theorem Ev.neg {α : Type} {c : Prop} [Decidable c] {a b : Nat → Option α} {r : α} (h : ¬ c) (hb : Ev b r) : Ev (fun k => if c then a k else b k) r := by
  simpa only [if_neg h] using hb
theorem Ev.at {α : Type} {g : Nat → Option α} {r : α} (h : Ev g r) : ∃ k, g k = some r := by obtain ⟨K, hK⟩ := h; exact ⟨K, hK K (Nat.le_refl _)⟩
theorem wrap_succ (n : Nat) (h : n < 9223372036854775807) : wrap64 ((n : Int) + 1) = ((n + 1 : Nat) : Int) := by unfold wrap64; omega
theorem wrap_pred (n : Nat) (h0 : 0 < n) (h : n ≤ 9223372036854775807) : wrap64 ((n : Int) - 1) = ((n - 1 : Nat) : Int) := by unfold wrap64; omega
theorem wrap_id (n : Int) (h0 : -9223372036854775808 ≤ n) (h : n ≤ 9223372036854775807) : wrap64 n = n := by unfold wrap64; omega

theorem rd41_at (pre : List S41) (r : S41) (rest : List S41) : rd_T41 (pre ++ r :: rest) (pre.length : Int) = r := by
  unfold rd_T41
  simp [List.getD_eq_getElem?_getD]
theorem rd68_at (pre : List S68) (r : S68) (rest : List S68) : rd_T68 (pre ++ r :: rest) (pre.length : Int) = r := by
  unfold rd_T68
  simp [List.getD_eq_getElem?_getD]

/-! ### a stretch behind -/
theorem cover_add_spec (l : List S41) (f t : Int) (h : l.length < 8796093022208) : cover_add.f l f t = some (addR l f t) := by
  unfold cover_add.f
  rcases snoc_cases l with rfl | ⟨m, r, rfl⟩
  · rfl
  · have hl : (m ++ [r]).length = m.length + 1 := by simp
    have e1 : wrap64 (((m ++ [r]).length : Int) - 1) = (m.length : Int) := by rw [hl, wrap_pred (m.length + 1) (by omega) (by omega)]; rfl
    rw [e1, rd41_at m r [], addR_snoc, if_pos (by omega), if_pos (by omega), if_pos (by omega)]
    by_cases h1 : r.f1 = f
    · rw [if_pos h1, if_pos h1]
      simp
    · rw [if_neg h1, if_neg h1, if_pos h]

/-! ### rows that may be -/
def mayFrom : Option S41 → List S41 → Bool
  | _, [] => true
  | p, r :: rs => decide (0 ≤ r.f0) && decide (r.f0 < r.f1) && decide (r.f1 ≤ 4294967296) && (match p with | none => true | some q => decide (q.f1 < r.f0)) && mayFrom (some r) rs
theorem mayFrom_some (q : S41) (l : List S41) : mayFrom (some q) l = true ↔ Norm (l) ∧ ∀ r ∈ l, q.f1 < r.f0 := by
  induction l generalizing q with
  | nil => simp [mayFrom, Norm.nil]
  | cons a l ih =>
    rw [Norm.cons_iff]
    simp only [mayFrom, Bool.and_eq_true, decide_eq_true_iff, ih a, List.forall_mem_cons]
    unfold good
    constructor
    · rintro ⟨⟨⟨⟨h1, h2⟩, h3⟩, h4⟩, h5, h6⟩
      exact ⟨⟨⟨h1, h2, h3⟩, h6, h5⟩, h4, fun r hr => by have := h6 r hr; omega⟩
    · rintro ⟨⟨⟨h1, h2, h3⟩, h6, h5⟩, h4, _⟩
      exact ⟨⟨⟨⟨h1, h2⟩, h3⟩, h4⟩, h5, h6⟩
theorem mayFrom_none (l : List S41) : mayFrom none l = true ↔ Norm l := by
  cases l with
  | nil => simp [mayFrom, Norm.nil]
  | cons a l =>
    rw [Norm.cons_iff]
    simp only [mayFrom, Bool.and_eq_true, decide_eq_true_iff, mayFrom_some, and_true]
    unfold good
    constructor
    · rintro ⟨⟨⟨h1, h2⟩, h3⟩, h5, h6⟩
      exact ⟨⟨h1, h2, h3⟩, h6, h5⟩
    · rintro ⟨⟨h1, h2, h3⟩, h6, h5⟩
      exact ⟨⟨⟨h1, h2⟩, h3⟩, h5, h6⟩
theorem last_at (m : List S41) (q : S41) (rest : List S41) (h : m.length + 1 ≤ 9223372036854775807) : rd_T41 ((m ++ [q]) ++ rest) (wrap64 (((m ++ [q]).length : Int) - 1)) = q := by
  have hl : (m ++ [q]).length = m.length + 1 := by simp
  rw [hl, wrap_pred (m.length + 1) (by omega) h, List.append_assoc]
  exact rd41_at m q rest
theorem cover_May_loop (rest : List S41) : ∀ pre : List S41, pre.length + rest.length ≤ 9223372036854775807 → Ev (fun k => cover_May.l0 k (pre ++ rest) (pre ++ rest) ((pre ++ rest).length : Int) (pre.length : Int)) (mayFrom pre.getLast? rest) := by
  induction rest with
  | nil =>
    intro pre hl
    refine Ev.succ ?_
    simp only [cover_May.l0]
    exact Ev.neg (by simp) (Ev.const rfl)
  | cons r rest ih =>
    intro pre hl
    have hl2 : (pre ++ r :: rest).length = pre.length + rest.length + 1 := by simp; omega
    simp only [List.length_cons] at hl
    refine Ev.succ ?_
    simp only [cover_May.l0, rd41_at]
    refine Ev.pos (by omega) (Ev.pos (by omega) (Ev.pos (by omega) ?_))
    by_cases h1 : r.f0 < 0
    · refine Ev.pos h1 (Ev.const ?_)
      have : decide (0 ≤ r.f0) = false := decide_eq_false (by omega)
      simp [mayFrom, this]
    · refine Ev.neg h1 ?_
      by_cases h2 : r.f0 ≥ r.f1
      · refine Ev.pos h2 (Ev.const ?_)
        have : decide (r.f0 < r.f1) = false := decide_eq_false (by omega)
        simp [mayFrom, this]
      · refine Ev.neg h2 ?_
        by_cases h3 : r.f1 > 4294967296
        · refine Ev.pos h3 (Ev.const ?_)
          have : decide (r.f1 ≤ 4294967296) = false := decide_eq_false (by omega)
          simp [mayFrom, this]
        · refine Ev.neg h3 ?_
          have e1 : decide (0 ≤ r.f0) = true := decide_eq_true (by omega)
          have e2 : decide (r.f0 < r.f1) = true := decide_eq_true (by omega)
          have e3 : decide (r.f1 ≤ 4294967296) = true := decide_eq_true (by omega)
          have hnext := ih (pre ++ [r]) (by simp; omega)
          rw [List.append_assoc, List.getLast?_concat] at hnext
          have hw : wrap64 ((pre.length : Int) + 1) = ((pre ++ [r]).length : Int) := by rw [wrap_succ _ (by omega)]; simp
          rcases snoc_cases pre with rfl | ⟨m, q, rfl⟩
          · refine Ev.neg (by simp) ?_
            rw [hw]
            simpa [mayFrom, e1, e2, e3] using hnext
          · have hml : (m ++ [q]).length = m.length + 1 := by simp
            have hq := last_at m q (r :: rest) (by omega)
            have hw2 : wrap64 (((m ++ [q]).length : Int) - 1) = (m.length : Int) := by rw [hml, wrap_pred (m.length + 1) (by omega) (by omega)]; rfl
            rw [hq]
            refine Ev.pos (by omega) (Ev.pos (by omega) (Ev.pos (by omega) ?_))
            by_cases h4 : r.f0 ≤ q.f1
            · refine Ev.pos h4 (Ev.const ?_)
              have : decide (q.f1 < r.f0) = false := decide_eq_false (by omega)
              simp [mayFrom, this]
            · refine Ev.neg h4 ?_
              rw [hw]
              have e4 : decide (q.f1 < r.f0) = true := decide_eq_true (by omega)
              simpa [mayFrom, e1, e2, e3, e4] using hnext
open Classical in
theorem cover_May_spec (l : List S41) (h : l.length ≤ 9223372036854775807) : Ev (fun k => cover_May.f k l) (decide (Norm l)) := by
  have h1 := cover_May_loop l [] (by simpa using h)
  have h2 : mayFrom none l = decide (Norm l) := by rw [Bool.eq_iff_iff, mayFrom_none, decide_eq_true_iff]
  rw [← h2]
  exact h1

/-! ### two rows alike -/
open Classical in
theorem same_loop (r0 : List S41) : ∀ (pre r1 : List S41), r0.length = r1.length → pre.length + r0.length ≤ 9223372036854775807 → Ev (fun k => furlonglaw0_SameRanges.l0 k (pre ++ r0) (pre ++ r1) (pre.length : Int)) (decide (r0 = r1)) := by
  induction r0 with
  | nil =>
    intro pre r1 he hl
    cases r1 with
    | cons _ _ => simp at he
    | nil =>
      refine Ev.succ ?_
      simp only [furlonglaw0_SameRanges.l0]
      exact Ev.neg (by simp) (Ev.const rfl)
  | cons a r0 ih =>
    intro pre r1 he hl
    cases r1 with
    | nil => simp at he
    | cons b r1 =>
      simp only [List.length_cons] at he hl
      have hl1 : (pre ++ a :: r0).length = pre.length + r0.length + 1 := by simp; omega
      have hl2 : (pre ++ b :: r1).length = pre.length + r1.length + 1 := by simp; omega
      refine Ev.succ ?_
      simp only [furlonglaw0_SameRanges.l0, rd41_at]
      refine Ev.pos (by omega) (Ev.pos (by omega) (Ev.pos (by omega) ?_))
      by_cases hab : a = b
      · subst hab
        refine Ev.neg (by simp) ?_
        have hnext := ih (pre ++ [a]) r1 (by omega) (by simp; omega)
        rw [List.append_assoc, List.append_assoc] at hnext
        have hw : wrap64 ((pre.length : Int) + 1) = ((pre ++ [a]).length : Int) := by rw [wrap_succ _ (by omega)]; simp
        rw [hw]
        simpa using hnext
      · refine Ev.pos ?_ (Ev.const ?_)
        · cases a with
          | mk a0 a1 =>
            cases b with
            | mk b0 b1 =>
              simp at hab
              simp only [Bool.or_eq_true, Bool.not_eq_true', beq_eq_false_iff_ne, ne_eq]
              by_cases h0 : a0 = b0
              · exact .inr (hab h0)
              · exact .inl h0
        · simp [hab]
open Classical in
theorem same_spec (l0 l1 : List S41) (h : l0.length ≤ 9223372036854775807) : Ev (fun k => furlonglaw0_SameRanges.f k l0 l1) (decide (l0 = l1)) := by
  unfold furlonglaw0_SameRanges.f
  by_cases he : l0.length = l1.length
  · refine Ev.pos (by omega) ?_
    have := same_loop l0 [] l1 he (by simpa using h)
    exact this
  · refine Ev.neg (by omega) (Ev.const ?_)
    have : l0 ≠ l1 := fun h => he (by rw [h])
    simp [this]

/-! ### Union -/
def opU (a b : Bool) : Bool := a || b
theorem opU_spec (a b : Bool) : cover_Union_1.f a b = some (opU a b) := by cases a <;> cases b <;> rfl
theorem mixU_loop (rest : List S68) : ∀ (pre : List S68) (out : List S41) (inA inB : Bool) (from_ : Int), pre.length + rest.length ≤ 9223372036854775807 → out.length + rest.length < 8796093022208 →
    Ev (fun k => cover_mixU.l0 k out inA inB from_ (pre ++ rest) ((pre ++ rest).length : Int) (pre.length : Int)) (mixRun opU rest out inA inB from_, 0) := by
  induction rest with
  | nil =>
    intro pre out inA inB from_ hl _
    refine Ev.succ ?_
    simp only [cover_mixU.l0]
    exact Ev.neg (by simp) (Ev.const rfl)
  | cons e rest ih =>
    intro pre out inA inB from_ hl ho
    have hl2 : (pre ++ e :: rest).length = pre.length + rest.length + 1 := by simp; omega
    simp only [List.length_cons] at hl ho
    have hw : wrap64 ((pre.length : Int) + 1) = ((pre ++ [e]).length : Int) := by rw [wrap_succ _ (by omega)]; simp
    have hnext : ∀ out' inA' inB' f', out'.length ≤ out.length + 1 → Ev (fun k => cover_mixU.l0 k out' inA' inB' f' (pre ++ e :: rest) ((pre ++ e :: rest).length : Int) (wrap64 ((pre.length : Int) + 1))) (mixRun opU rest out' inA' inB' f', 0) := by
      intro out' inA' inB' f' hlen
      have := ih (pre ++ [e]) out' inA' inB' f' (by simp; omega) (by omega)
      rw [List.append_assoc] at this
      rw [hw]
      exact this
    have htail : ∀ out', out'.length ≤ out.length + 1 → Ev (fun k => if e.f1 = true then cover_mixU.l0 k out' (!inA) inB e.f0 (pre ++ e :: rest) ((pre ++ e :: rest).length : Int) (wrap64 ((pre.length : Int) + 1)) else cover_mixU.l0 k out' inA (!inB) e.f0 (pre ++ e :: rest) ((pre ++ e :: rest).length : Int) (wrap64 ((pre.length : Int) + 1)))
        (if e.f1 = true then mixRun opU rest out' (!inA) inB e.f0 else mixRun opU rest out' inA (!inB) e.f0, 0) := by
      intro out' hlen
      by_cases hf : e.f1 = true
      · refine Ev.pos hf ?_
        rw [if_pos hf]
        exact hnext _ _ _ _ hlen
      · refine Ev.neg hf ?_
        rw [if_neg hf]
        exact hnext _ _ _ _ hlen
    have hj : ∀ b : Bool, Ev (fun k => cover_mixU.j2 k out inA inB from_ (pre ++ e :: rest) ((pre ++ e :: rest).length : Int) (pre.length : Int) b e.f0 e.f1)
        (if e.f1 = true then mixRun opU rest (if b = true then addR out from_ e.f0 else out) (!inA) inB e.f0 else mixRun opU rest (if b = true then addR out from_ e.f0 else out) inA (!inB) e.f0, 0) := by
      intro b
      refine Ev.succ ?_
      simp only [cover_mixU.j2]
      cases b with
      | true =>
        refine Ev.pos rfl (Ev.bind (Ev.const (cover_add_spec _ _ _ (by omega))) ?_)
        rw [if_pos (show true = true from rfl)]
        exact htail _ (addR_len _ _ _)
      | false =>
        refine Ev.neg (by simp) ?_
        rw [if_neg (show ¬ false = true by decide)]
        exact htail _ (by omega)
    refine Ev.succ ?_
    simp only [cover_mixU.l0, rd68_at]
    refine Ev.pos (by omega) (Ev.pos (by omega) (Ev.pos (by omega) ?_))
    unfold mixRun mixStep
    by_cases hlt : e.f0 > from_
    · refine Ev.pos hlt (Ev.bind (Ev.const (opU_spec inA inB)) ?_)
      rw [if_pos (show from_ < e.f0 from hlt)]
      exact hj _
    · refine Ev.neg hlt ?_
      rw [if_neg (show ¬ from_ < e.f0 from hlt)]
      have := hj false
      rwa [if_neg (show ¬ false = true by decide)] at this
open Classical in
theorem Union_norm {l0 l1 : List S41} (h0 : Norm l0) (h1 : Norm l1) : ∃ R, Ev (fun k => cover_Union.f k l0 l1) (R, 0) ∧ Norm R ∧ ∀ d, Mem R d ↔ opU (decide (Mem l0 d)) (decide (Mem l1 d)) = true := by
  obtain ⟨E, hE, hp, hs⟩ := cover_ends_spec h0 h1
  have hl0 := h0.len
  have hl1 := h1.len
  have hEl : E.length = 2 * l0.length + 2 * l1.length := by rw [hp.length_eq, allEnds_len]
  have hon : ∀ x ∈ E, 0 ≤ x.f0 ∧ x.f0 ≤ 4294967296 := by
    have hc : ∀ (b : Bool) (l : List S41), Norm l → ∀ x ∈ endsOf b l, 0 ≤ x.f0 ∧ x.f0 ≤ 4294967296 := by
      intro b l hl x hx
      unfold endsOf at hx
      rw [List.mem_flatMap] at hx
      obtain ⟨r, hr, hx⟩ := hx
      have := hl.1 r hr
      unfold good at this
      simp at hx
      rcases hx with rfl | rfl
      · exact ⟨by show 0 ≤ r.f0; omega, by show r.f0 ≤ _; omega⟩
      · exact ⟨by show 0 ≤ r.f1; omega, by show r.f1 ≤ _; omega⟩
    intro x hx
    rcases List.mem_append.1 (hp.mem_iff.1 hx) with h | h
    · exact hc _ _ h0 x h
    · exact hc _ _ h1 x h
  have hspec := mixRun_spec opU rfl h0 h1 E [] [] false false 0 (by simpa using hp) (by simp) hs hon ⟨Norm.nil, by simp, Int.le_refl _, rfl, rfl, by simp, fun d => by
    constructor
    · exact fun h => absurd h Mem.nil
    · rintro ⟨h2, h3⟩
      have hA : ¬ Mem l0 d := fun h => by have := h.curve h0; omega
      have hB : ¬ Mem l1 d := fun h => by have := h.curve h1; omega
      rw [decide_eq_false hA, decide_eq_false hB] at h3
      cases h3⟩
  refine ⟨_, ?_, hspec⟩
  unfold cover_Union.f cover_mixU.f
  refine Ev.bind (x := (mixRun opU E [] false false 0, 0)) (Ev.bind (cover_May_spec l0 (by omega)) (Ev.pos (decide_eq_true h0) (Ev.bind (cover_May_spec l1 (by omega)) (Ev.succ ?_)))) (Ev.const rfl)
  simp only [cover_mixU.j0]
  refine Ev.neg (by simp [h1]) (Ev.bind (Ev.const hE) ?_)
  exact mixU_loop E [] [] false false 0 (by simp; omega) (by simp; omega)
theorem Union_not {l0 l1 : List S41} (g0 : l0.length ≤ 9223372036854775807) (g1 : l1.length ≤ 9223372036854775807) (h : ¬ (Norm l0 ∧ Norm l1)) : Ev (fun k => cover_Union.f k l0 l1) ([], 600) := by
  classical
  unfold cover_Union.f cover_mixU.f
  by_cases h0 : Norm l0
  · have h1 : ¬ Norm l1 := fun h1 => h ⟨h0, h1⟩
    refine Ev.bind (x := ([], 600)) (Ev.bind (cover_May_spec l0 g0) (Ev.pos (decide_eq_true h0) (Ev.bind (cover_May_spec l1 g1) (Ev.succ ?_)))) (Ev.const rfl)
    simp only [cover_mixU.j0]
    exact Ev.pos (by simp [h1]) (Ev.const rfl)
  · refine Ev.bind (x := ([], 600)) (Ev.bind (cover_May_spec l0 g0) (Ev.neg (by simp [h0]) (Ev.succ ?_))) (Ev.const rfl)
    simp only [cover_mixU.j0]
    exact Ev.pos (by simp) (Ev.const rfl)

/-! ### Common -/
def opC (a b : Bool) : Bool := a && b
theorem opC_spec (a b : Bool) : cover_Common_1.f a b = some (opC a b) := by cases a <;> cases b <;> rfl
theorem mixC_loop (rest : List S68) : ∀ (pre : List S68) (out : List S41) (inA inB : Bool) (from_ : Int), pre.length + rest.length ≤ 9223372036854775807 → out.length + rest.length < 8796093022208 →
    Ev (fun k => cover_mixC.l0 k out inA inB from_ (pre ++ rest) ((pre ++ rest).length : Int) (pre.length : Int)) (mixRun opC rest out inA inB from_, 0) := by
  induction rest with
  | nil =>
    intro pre out inA inB from_ hl _
    refine Ev.succ ?_
    simp only [cover_mixC.l0]
    exact Ev.neg (by simp) (Ev.const rfl)
  | cons e rest ih =>
    intro pre out inA inB from_ hl ho
    have hl2 : (pre ++ e :: rest).length = pre.length + rest.length + 1 := by simp; omega
    simp only [List.length_cons] at hl ho
    have hw : wrap64 ((pre.length : Int) + 1) = ((pre ++ [e]).length : Int) := by rw [wrap_succ _ (by omega)]; simp
    have hnext : ∀ out' inA' inB' f', out'.length ≤ out.length + 1 → Ev (fun k => cover_mixC.l0 k out' inA' inB' f' (pre ++ e :: rest) ((pre ++ e :: rest).length : Int) (wrap64 ((pre.length : Int) + 1))) (mixRun opC rest out' inA' inB' f', 0) := by
      intro out' inA' inB' f' hlen
      have := ih (pre ++ [e]) out' inA' inB' f' (by simp; omega) (by omega)
      rw [List.append_assoc] at this
      rw [hw]
      exact this
    have htail : ∀ out', out'.length ≤ out.length + 1 → Ev (fun k => if e.f1 = true then cover_mixC.l0 k out' (!inA) inB e.f0 (pre ++ e :: rest) ((pre ++ e :: rest).length : Int) (wrap64 ((pre.length : Int) + 1)) else cover_mixC.l0 k out' inA (!inB) e.f0 (pre ++ e :: rest) ((pre ++ e :: rest).length : Int) (wrap64 ((pre.length : Int) + 1)))
        (if e.f1 = true then mixRun opC rest out' (!inA) inB e.f0 else mixRun opC rest out' inA (!inB) e.f0, 0) := by
      intro out' hlen
      by_cases hf : e.f1 = true
      · refine Ev.pos hf ?_
        rw [if_pos hf]
        exact hnext _ _ _ _ hlen
      · refine Ev.neg hf ?_
        rw [if_neg hf]
        exact hnext _ _ _ _ hlen
    have hj : ∀ b : Bool, Ev (fun k => cover_mixC.j2 k out inA inB from_ (pre ++ e :: rest) ((pre ++ e :: rest).length : Int) (pre.length : Int) b e.f0 e.f1)
        (if e.f1 = true then mixRun opC rest (if b = true then addR out from_ e.f0 else out) (!inA) inB e.f0 else mixRun opC rest (if b = true then addR out from_ e.f0 else out) inA (!inB) e.f0, 0) := by
      intro b
      refine Ev.succ ?_
      simp only [cover_mixC.j2]
      cases b with
      | true =>
        refine Ev.pos rfl (Ev.bind (Ev.const (cover_add_spec _ _ _ (by omega))) ?_)
        rw [if_pos (show true = true from rfl)]
        exact htail _ (addR_len _ _ _)
      | false =>
        refine Ev.neg (by simp) ?_
        rw [if_neg (show ¬ false = true by decide)]
        exact htail _ (by omega)
    refine Ev.succ ?_
    simp only [cover_mixC.l0, rd68_at]
    refine Ev.pos (by omega) (Ev.pos (by omega) (Ev.pos (by omega) ?_))
    unfold mixRun mixStep
    by_cases hlt : e.f0 > from_
    · refine Ev.pos hlt (Ev.bind (Ev.const (opC_spec inA inB)) ?_)
      rw [if_pos (show from_ < e.f0 from hlt)]
      exact hj _
    · refine Ev.neg hlt ?_
      rw [if_neg (show ¬ from_ < e.f0 from hlt)]
      have := hj false
      rwa [if_neg (show ¬ false = true by decide)] at this
open Classical in
theorem Common_norm {l0 l1 : List S41} (h0 : Norm l0) (h1 : Norm l1) : ∃ R, Ev (fun k => cover_Common.f k l0 l1) (R, 0) ∧ Norm R ∧ ∀ d, Mem R d ↔ opC (decide (Mem l0 d)) (decide (Mem l1 d)) = true := by
  obtain ⟨E, hE, hp, hs⟩ := cover_ends_spec h0 h1
  have hl0 := h0.len
  have hl1 := h1.len
  have hEl : E.length = 2 * l0.length + 2 * l1.length := by rw [hp.length_eq, allEnds_len]
  have hon : ∀ x ∈ E, 0 ≤ x.f0 ∧ x.f0 ≤ 4294967296 := by
    have hc : ∀ (b : Bool) (l : List S41), Norm l → ∀ x ∈ endsOf b l, 0 ≤ x.f0 ∧ x.f0 ≤ 4294967296 := by
      intro b l hl x hx
      unfold endsOf at hx
      rw [List.mem_flatMap] at hx
      obtain ⟨r, hr, hx⟩ := hx
      have := hl.1 r hr
      unfold good at this
      simp at hx
      rcases hx with rfl | rfl
      · exact ⟨by show 0 ≤ r.f0; omega, by show r.f0 ≤ _; omega⟩
      · exact ⟨by show 0 ≤ r.f1; omega, by show r.f1 ≤ _; omega⟩
    intro x hx
    rcases List.mem_append.1 (hp.mem_iff.1 hx) with h | h
    · exact hc _ _ h0 x h
    · exact hc _ _ h1 x h
  have hspec := mixRun_spec opC rfl h0 h1 E [] [] false false 0 (by simpa using hp) (by simp) hs hon ⟨Norm.nil, by simp, Int.le_refl _, rfl, rfl, by simp, fun d => by
    constructor
    · exact fun h => absurd h Mem.nil
    · rintro ⟨h2, h3⟩
      have hA : ¬ Mem l0 d := fun h => by have := h.curve h0; omega
      have hB : ¬ Mem l1 d := fun h => by have := h.curve h1; omega
      rw [decide_eq_false hA, decide_eq_false hB] at h3
      cases h3⟩
  refine ⟨_, ?_, hspec⟩
  unfold cover_Common.f cover_mixC.f
  refine Ev.bind (x := (mixRun opC E [] false false 0, 0)) (Ev.bind (cover_May_spec l0 (by omega)) (Ev.pos (decide_eq_true h0) (Ev.bind (cover_May_spec l1 (by omega)) (Ev.succ ?_)))) (Ev.const rfl)
  simp only [cover_mixC.j0]
  refine Ev.neg (by simp [h1]) (Ev.bind (Ev.const hE) ?_)
  exact mixC_loop E [] [] false false 0 (by simp; omega) (by simp; omega)
theorem Common_not {l0 l1 : List S41} (g0 : l0.length ≤ 9223372036854775807) (g1 : l1.length ≤ 9223372036854775807) (h : ¬ (Norm l0 ∧ Norm l1)) : Ev (fun k => cover_Common.f k l0 l1) ([], 600) := by
  classical
  unfold cover_Common.f cover_mixC.f
  by_cases h0 : Norm l0
  · have h1 : ¬ Norm l1 := fun h1 => h ⟨h0, h1⟩
    refine Ev.bind (x := ([], 600)) (Ev.bind (cover_May_spec l0 g0) (Ev.pos (decide_eq_true h0) (Ev.bind (cover_May_spec l1 g1) (Ev.succ ?_)))) (Ev.const rfl)
    simp only [cover_mixC.j0]
    exact Ev.pos (by simp [h1]) (Ev.const rfl)
  · refine Ev.bind (x := ([], 600)) (Ev.bind (cover_May_spec l0 g0) (Ev.neg (by simp [h0]) (Ev.succ ?_))) (Ev.const rfl)
    simp only [cover_mixC.j0]
    exact Ev.pos (by simp) (Ev.const rfl)

/-! ### Less -/
def opL (a b : Bool) : Bool := a && !b
theorem opL_spec (a b : Bool) : cover_Less_1.f a b = some (opL a b) := by cases a <;> cases b <;> rfl
theorem mixL_loop (rest : List S68) : ∀ (pre : List S68) (out : List S41) (inA inB : Bool) (from_ : Int), pre.length + rest.length ≤ 9223372036854775807 → out.length + rest.length < 8796093022208 →
    Ev (fun k => cover_mixL.l0 k out inA inB from_ (pre ++ rest) ((pre ++ rest).length : Int) (pre.length : Int)) (mixRun opL rest out inA inB from_, 0) := by
  induction rest with
  | nil =>
    intro pre out inA inB from_ hl _
    refine Ev.succ ?_
    simp only [cover_mixL.l0]
    exact Ev.neg (by simp) (Ev.const rfl)
  | cons e rest ih =>
    intro pre out inA inB from_ hl ho
    have hl2 : (pre ++ e :: rest).length = pre.length + rest.length + 1 := by simp; omega
    simp only [List.length_cons] at hl ho
    have hw : wrap64 ((pre.length : Int) + 1) = ((pre ++ [e]).length : Int) := by rw [wrap_succ _ (by omega)]; simp
    have hnext : ∀ out' inA' inB' f', out'.length ≤ out.length + 1 → Ev (fun k => cover_mixL.l0 k out' inA' inB' f' (pre ++ e :: rest) ((pre ++ e :: rest).length : Int) (wrap64 ((pre.length : Int) + 1))) (mixRun opL rest out' inA' inB' f', 0) := by
      intro out' inA' inB' f' hlen
      have := ih (pre ++ [e]) out' inA' inB' f' (by simp; omega) (by omega)
      rw [List.append_assoc] at this
      rw [hw]
      exact this
    have htail : ∀ out', out'.length ≤ out.length + 1 → Ev (fun k => if e.f1 = true then cover_mixL.l0 k out' (!inA) inB e.f0 (pre ++ e :: rest) ((pre ++ e :: rest).length : Int) (wrap64 ((pre.length : Int) + 1)) else cover_mixL.l0 k out' inA (!inB) e.f0 (pre ++ e :: rest) ((pre ++ e :: rest).length : Int) (wrap64 ((pre.length : Int) + 1)))
        (if e.f1 = true then mixRun opL rest out' (!inA) inB e.f0 else mixRun opL rest out' inA (!inB) e.f0, 0) := by
      intro out' hlen
      by_cases hf : e.f1 = true
      · refine Ev.pos hf ?_
        rw [if_pos hf]
        exact hnext _ _ _ _ hlen
      · refine Ev.neg hf ?_
        rw [if_neg hf]
        exact hnext _ _ _ _ hlen
    have hj : ∀ b : Bool, Ev (fun k => cover_mixL.j2 k out inA inB from_ (pre ++ e :: rest) ((pre ++ e :: rest).length : Int) (pre.length : Int) b e.f0 e.f1)
        (if e.f1 = true then mixRun opL rest (if b = true then addR out from_ e.f0 else out) (!inA) inB e.f0 else mixRun opL rest (if b = true then addR out from_ e.f0 else out) inA (!inB) e.f0, 0) := by
      intro b
      refine Ev.succ ?_
      simp only [cover_mixL.j2]
      cases b with
      | true =>
        refine Ev.pos rfl (Ev.bind (Ev.const (cover_add_spec _ _ _ (by omega))) ?_)
        rw [if_pos (show true = true from rfl)]
        exact htail _ (addR_len _ _ _)
      | false =>
        refine Ev.neg (by simp) ?_
        rw [if_neg (show ¬ false = true by decide)]
        exact htail _ (by omega)
    refine Ev.succ ?_
    simp only [cover_mixL.l0, rd68_at]
    refine Ev.pos (by omega) (Ev.pos (by omega) (Ev.pos (by omega) ?_))
    unfold mixRun mixStep
    by_cases hlt : e.f0 > from_
    · refine Ev.pos hlt (Ev.bind (Ev.const (opL_spec inA inB)) ?_)
      rw [if_pos (show from_ < e.f0 from hlt)]
      exact hj _
    · refine Ev.neg hlt ?_
      rw [if_neg (show ¬ from_ < e.f0 from hlt)]
      have := hj false
      rwa [if_neg (show ¬ false = true by decide)] at this
open Classical in
theorem Less_norm {l0 l1 : List S41} (h0 : Norm l0) (h1 : Norm l1) : ∃ R, Ev (fun k => cover_Less.f k l0 l1) (R, 0) ∧ Norm R ∧ ∀ d, Mem R d ↔ opL (decide (Mem l0 d)) (decide (Mem l1 d)) = true := by
  obtain ⟨E, hE, hp, hs⟩ := cover_ends_spec h0 h1
  have hl0 := h0.len
  have hl1 := h1.len
  have hEl : E.length = 2 * l0.length + 2 * l1.length := by rw [hp.length_eq, allEnds_len]
  have hon : ∀ x ∈ E, 0 ≤ x.f0 ∧ x.f0 ≤ 4294967296 := by
    have hc : ∀ (b : Bool) (l : List S41), Norm l → ∀ x ∈ endsOf b l, 0 ≤ x.f0 ∧ x.f0 ≤ 4294967296 := by
      intro b l hl x hx
      unfold endsOf at hx
      rw [List.mem_flatMap] at hx
      obtain ⟨r, hr, hx⟩ := hx
      have := hl.1 r hr
      unfold good at this
      simp at hx
      rcases hx with rfl | rfl
      · exact ⟨by show 0 ≤ r.f0; omega, by show r.f0 ≤ _; omega⟩
      · exact ⟨by show 0 ≤ r.f1; omega, by show r.f1 ≤ _; omega⟩
    intro x hx
    rcases List.mem_append.1 (hp.mem_iff.1 hx) with h | h
    · exact hc _ _ h0 x h
    · exact hc _ _ h1 x h
  have hspec := mixRun_spec opL rfl h0 h1 E [] [] false false 0 (by simpa using hp) (by simp) hs hon ⟨Norm.nil, by simp, Int.le_refl _, rfl, rfl, by simp, fun d => by
    constructor
    · exact fun h => absurd h Mem.nil
    · rintro ⟨h2, h3⟩
      have hA : ¬ Mem l0 d := fun h => by have := h.curve h0; omega
      have hB : ¬ Mem l1 d := fun h => by have := h.curve h1; omega
      rw [decide_eq_false hA, decide_eq_false hB] at h3
      cases h3⟩
  refine ⟨_, ?_, hspec⟩
  unfold cover_Less.f cover_mixL.f
  refine Ev.bind (x := (mixRun opL E [] false false 0, 0)) (Ev.bind (cover_May_spec l0 (by omega)) (Ev.pos (decide_eq_true h0) (Ev.bind (cover_May_spec l1 (by omega)) (Ev.succ ?_)))) (Ev.const rfl)
  simp only [cover_mixL.j0]
  refine Ev.neg (by simp [h1]) (Ev.bind (Ev.const hE) ?_)
  exact mixL_loop E [] [] false false 0 (by simp; omega) (by simp; omega)
theorem Less_not {l0 l1 : List S41} (g0 : l0.length ≤ 9223372036854775807) (g1 : l1.length ≤ 9223372036854775807) (h : ¬ (Norm l0 ∧ Norm l1)) : Ev (fun k => cover_Less.f k l0 l1) ([], 600) := by
  classical
  unfold cover_Less.f cover_mixL.f
  by_cases h0 : Norm l0
  · have h1 : ¬ Norm l1 := fun h1 => h ⟨h0, h1⟩
    refine Ev.bind (x := ([], 600)) (Ev.bind (cover_May_spec l0 g0) (Ev.pos (decide_eq_true h0) (Ev.bind (cover_May_spec l1 g1) (Ev.succ ?_)))) (Ev.const rfl)
    simp only [cover_mixL.j0]
    exact Ev.pos (by simp [h1]) (Ev.const rfl)
  · refine Ev.bind (x := ([], 600)) (Ev.bind (cover_May_spec l0 g0) (Ev.neg (by simp [h0]) (Ev.succ ?_))) (Ev.const rfl)
    simp only [cover_mixL.j0]
    exact Ev.pos (by simp) (Ev.const rfl)
end Go.Proofs.Ytngcljnhcbbdmaa.C
