/-
  Plain: rows of ranges that may be, as sets of places.
-/
import Derived.Test.YtngcljnhcbbdmaaC0
import Derived.Test.YtngcljnhcbbdmaaGEnds
import Derived.Test.YtngcljnhcbbdmaaGHas
namespace Go.Proofs.Ytngcljnhcbbdmaa.C
open Go.RowKit Go.Proofs.YtngcljnhcbbdmaaW.PrintWords Go.Proofs.YtngcljnhcbbdmaaW.PrintLast Go.Proofs.YtngcljnhcbbdmaaW.PrintMore
set_option linter.unusedVariables false
set_option linter.unusedSimpArgs false

def good (r : S41) : Prop := 0 ≤ r.f0 ∧ r.f0 < r.f1 ∧ r.f1 ≤ 4294967296
/-- ranges that may be -/
def Norm (l : List S41) : Prop := (∀ r ∈ l, good r) ∧ l.Pairwise (fun a b => a.f1 < b.f0)
def Mem (l : List S41) (d : Int) : Prop := ∃ r ∈ l, r.f0 ≤ d ∧ d < r.f1

theorem mem_any (l : List S41) (d : Int) : l.any (inRange d) = true ↔ Mem l d := by
  simp [Mem, inRange, List.any_eq_true]
theorem Norm.nil : Norm [] := ⟨fun r hr => by simp at hr, List.Pairwise.nil⟩
theorem Norm.cons_iff {a : S41} {l : List S41} : Norm (a :: l) ↔ good a ∧ (∀ r ∈ l, a.f1 < r.f0) ∧ Norm l := by
  unfold Norm
  rw [List.pairwise_cons]
  constructor
  · rintro ⟨h1, h2, h3⟩
    exact ⟨h1 a List.mem_cons_self, h2, fun r hr => h1 r (List.mem_cons_of_mem _ hr), h3⟩
  · rintro ⟨h1, h2, h3, h4⟩
    refine ⟨fun r hr => ?_, h2, h4⟩
    rcases List.mem_cons.1 hr with rfl | hr
    · exact h1
    · exact h3 r hr
theorem Norm.append_iff {l m : List S41} : Norm (l ++ m) ↔ Norm l ∧ Norm m ∧ ∀ a ∈ l, ∀ b ∈ m, a.f1 < b.f0 := by
  unfold Norm
  rw [List.pairwise_append]
  constructor
  · rintro ⟨h1, h2, h3, h4⟩
    exact ⟨⟨fun r hr => h1 r (List.mem_append_left _ hr), h2⟩, ⟨fun r hr => h1 r (List.mem_append_right _ hr), h3⟩, h4⟩
  · rintro ⟨⟨h1, h2⟩, ⟨h3, h4⟩, h5⟩
    exact ⟨fun r hr => (List.mem_append.1 hr).elim (h1 r) (h3 r), h2, h4, h5⟩
theorem Mem.nil {d : Int} : ¬ Mem [] d := by rintro ⟨r, hr, _⟩; simp at hr
theorem Mem.cons_iff {a : S41} {l : List S41} {d : Int} : Mem (a :: l) d ↔ (a.f0 ≤ d ∧ d < a.f1) ∨ Mem l d := by
  unfold Mem
  simp [List.mem_cons, or_and_right, exists_or]
theorem Mem.append_iff {l m : List S41} {d : Int} : Mem (l ++ m) d ↔ Mem l d ∨ Mem m d := by
  unfold Mem
  simp [List.mem_append, or_and_right, exists_or]
theorem Mem.above {l : List S41} {c d : Int} (h : ∀ r ∈ l, c < r.f0) (hm : Mem l d) : c < d := by
  obtain ⟨r, hr, h1, _⟩ := hm
  have := h r hr
  omega
theorem Mem.upto {l : List S41} {c d : Int} (h : ∀ r ∈ l, r.f1 ≤ c) (hm : Mem l d) : d < c := by
  obtain ⟨r, hr, _, h1⟩ := hm
  have := h r hr
  omega
theorem Mem.curve {l : List S41} {d : Int} (h : Norm l) (hm : Mem l d) : 0 ≤ d ∧ d < 4294967296 := by
  obtain ⟨r, hr, h1, h2⟩ := hm
  have := h.1 r hr
  unfold good at this
  omega

/-- two such rows with the same places are one -/
theorem Norm.ext {l m : List S41} (hl : Norm l) (hm : Norm m) (h : ∀ d, Mem l d ↔ Mem m d) : l = m := by
  induction l generalizing m with
  | nil =>
    cases m with
    | nil => rfl
    | cons b m =>
      have hb := (Norm.cons_iff.1 hm).1
      exact absurd ((h b.f0).2 (Mem.cons_iff.2 (.inl ⟨Int.le_refl _, hb.2.1⟩))) Mem.nil
  | cons a l ih =>
    obtain ⟨ha, hal, hl'⟩ := Norm.cons_iff.1 hl
    cases m with
    | nil => exact absurd ((h a.f0).1 (Mem.cons_iff.2 (.inl ⟨Int.le_refl _, ha.2.1⟩))) Mem.nil
    | cons b m =>
      obtain ⟨hb, hbm, hm'⟩ := Norm.cons_iff.1 hm
      have la : ∀ d, Mem (a :: l) d → a.f0 ≤ d := fun d hd => by
        rcases Mem.cons_iff.1 hd with h1 | h1
        · exact h1.1
        · have := Mem.above hal h1; have := ha.2.1; omega
      have lb : ∀ d, Mem (b :: m) d → b.f0 ≤ d := fun d hd => by
        rcases Mem.cons_iff.1 hd with h1 | h1
        · exact h1.1
        · have := Mem.above hbm h1; have := hb.2.1; omega
      have e0 : a.f0 = b.f0 := by
        have h1 := la b.f0 ((h b.f0).2 (Mem.cons_iff.2 (.inl ⟨Int.le_refl _, hb.2.1⟩)))
        have h2 := lb a.f0 ((h a.f0).1 (Mem.cons_iff.2 (.inl ⟨Int.le_refl _, ha.2.1⟩)))
        omega
      have a1 : ¬ Mem (a :: l) a.f1 := fun hd => by
        rcases Mem.cons_iff.1 hd with h1 | h1
        · omega
        · have := Mem.above hal h1; omega
      have b1 : ¬ Mem (b :: m) b.f1 := fun hd => by
        rcases Mem.cons_iff.1 hd with h1 | h1
        · omega
        · have := Mem.above hbm h1; omega
      have e1 : a.f1 = b.f1 := by
        have := ha.2.1
        have := hb.2.1
        rcases Int.lt_trichotomy a.f1 b.f1 with h1 | h1 | h1
        · exact absurd ((h a.f1).2 (Mem.cons_iff.2 (.inl ⟨by omega, h1⟩))) a1
        · exact h1
        · exact absurd ((h b.f1).1 (Mem.cons_iff.2 (.inl ⟨by omega, h1⟩))) b1
      have eab : a = b := by
        cases a
        cases b
        simp_all
      subst eab
      rw [ih hl' hm' (fun d => ?_)]
      have h2 := h d
      rw [Mem.cons_iff, Mem.cons_iff] at h2
      constructor
      · intro h3
        rcases h2.1 (.inr h3) with h4 | h4
        · have := Mem.above hal h3; omega
        · exact h4
      · intro h3
        rcases h2.2 (.inr h3) with h4 | h4
        · have := Mem.above hbm h3; omega
        · exact h4

/-- how many there are -/
theorem Norm.len_aux {l : List S41} (h : Norm l) : ∀ c : Int, c ≤ 4294967296 → (∀ r ∈ l, c ≤ r.f0) → (l.length : Int) + c ≤ 4294967296 := by
  induction l with
  | nil => intro c hc _; simpa using hc
  | cons a l ih =>
    intro c hc hle
    obtain ⟨ha, hal, hl⟩ := Norm.cons_iff.1 h
    have h1 := ih hl a.f1 ha.2.2 (fun r hr => Int.le_of_lt (hal r hr))
    have h2 := hle a List.mem_cons_self
    have := ha.2.1
    simp only [List.length_cons]
    omega
theorem Norm.len {l : List S41} (h : Norm l) : l.length ≤ 4294967296 := by
  have := h.len_aux 0 (by omega) (fun r hr => (h.1 r hr).1)
  omega

/-! ### a stretch behind -/
def addR (l : List S41) (f t : Int) : List S41 :=
  match l.getLast? with
  | none => [⟨f, t⟩]
  | some r => if r.f1 = f then l.dropLast ++ [⟨r.f0, t⟩] else l ++ [⟨f, t⟩]
theorem addR_nil (f t : Int) : addR [] f t = [⟨f, t⟩] := rfl
theorem addR_snoc (l : List S41) (r : S41) (f t : Int) : addR (l ++ [r]) f t = if r.f1 = f then l ++ [⟨r.f0, t⟩] else (l ++ [r]) ++ [⟨f, t⟩] := by
  unfold addR
  have h : (l ++ [r]).getLast? = some r := by simp
  rw [h]
  simp
theorem snoc_cases (l : List S41) : l = [] ∨ ∃ m r, l = m ++ [r] := by
  rcases List.eq_nil_or_concat l with h | ⟨m, r, h⟩
  · exact .inl h
  · exact .inr ⟨m, r, by simpa using h⟩
theorem addR_len (l : List S41) (f t : Int) : (addR l f t).length ≤ l.length + 1 := by
  rcases snoc_cases l with rfl | ⟨m, r, rfl⟩
  · simp [addR_nil]
  · rw [addR_snoc]
    split <;> simp
theorem addR_norm {l : List S41} {f t : Int} (h : Norm l) (hf : ∀ r ∈ l, r.f1 ≤ f) (h0 : 0 ≤ f) (hft : f < t) (ht : t ≤ 4294967296) :
    Norm (addR l f t) ∧ (∀ r ∈ addR l f t, r.f1 ≤ t) ∧ ∀ d, Mem (addR l f t) d ↔ Mem l d ∨ (f ≤ d ∧ d < t) := by
  rcases snoc_cases l with rfl | ⟨m, r, rfl⟩
  · rw [addR_nil]
    refine ⟨Norm.cons_iff.2 ⟨⟨h0, hft, ht⟩, fun r hr => by simp at hr, Norm.nil⟩, fun r hr => by simp at hr; subst hr; exact Int.le_refl _, fun d => ?_⟩
    rw [Mem.cons_iff]
    exact or_comm
  · obtain ⟨hm, hr, hmr⟩ := Norm.append_iff.1 h
    have hgr := (Norm.cons_iff.1 hr).1
    have hrf := hf r (by simp)
    rw [addR_snoc]
    split
    · rename_i he
      refine ⟨Norm.append_iff.2 ⟨hm, Norm.cons_iff.2 ⟨⟨hgr.1, by have := hgr.2.1; show r.f0 < t; omega, ht⟩, fun r hr => by simp at hr, Norm.nil⟩, fun a ha b hb => ?_⟩, fun q hq => ?_, fun d => ?_⟩
      · simp at hb
        subst hb
        exact hmr a ha r (by simp)
      · rcases List.mem_append.1 hq with hq | hq
        · have := hf q (List.mem_append_left _ hq); omega
        · simp at hq; subst hq; exact Int.le_refl _
      · rw [Mem.append_iff, Mem.append_iff, Mem.cons_iff, Mem.cons_iff]
        have hn : ¬ Mem [] d := Mem.nil
        have := hgr.2.1
        constructor
        · rintro (h1 | h1 | h1)
          · exact .inl (.inl h1)
          · simp only at h1
            by_cases h2 : d < r.f1
            · exact .inl (.inr (.inl ⟨h1.1, h2⟩))
            · exact .inr ⟨by omega, h1.2⟩
          · exact absurd h1 hn
        · rintro ((h1 | h1 | h1) | h1)
          · exact .inl h1
          · exact .inr (.inl ⟨h1.1, by show d < t; omega⟩)
          · exact absurd h1 hn
          · exact .inr (.inl ⟨by show r.f0 ≤ d; omega, h1.2⟩)
    · rename_i he
      refine ⟨Norm.append_iff.2 ⟨h, Norm.cons_iff.2 ⟨⟨h0, hft, ht⟩, fun r hr => by simp at hr, Norm.nil⟩, fun a ha b hb => ?_⟩, fun q hq => ?_, fun d => ?_⟩
      · simp at hb
        subst hb
        show a.f1 < f
        rcases List.mem_append.1 ha with ha | ha
        · have := hmr a ha r (by simp); have := hgr.2.1; omega
        · simp at ha; subst ha; omega
      · rcases List.mem_append.1 hq with hq | hq
        · have := hf q hq; omega
        · simp at hq; subst hq; exact Int.le_refl _
      · rw [Mem.append_iff, Mem.cons_iff]
        have : ¬ Mem [] d := Mem.nil
        constructor
        · rintro (h1 | h1 | h1)
          · exact .inl h1
          · exact .inr h1
          · exact absurd h1 this
        · rintro (h1 | h1)
          · exact .inl h1
          · exact .inr (.inl h1)
end Go.Proofs.Ytngcljnhcbbdmaa.C
