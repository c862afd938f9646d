/-
  Plain: the chapter's own tries come out as they should.
-/
import Derived.Test.YtngcljnhcbbdmaaPOf
import Derived.Test.YtngcljnhcbbdmaaC8
namespace Go.Proofs.Ytngcljnhcbbdmaa.C
open Go.RowKit Go.Proofs.YtngcljnhcbbdmaaW.PrintWords Go.Proofs.YtngcljnhcbbdmaaW.PrintLast Go.Proofs.YtngcljnhcbbdmaaW.PrintMore
set_option linter.unusedVariables false
set_option linter.unusedSimpArgs false

theorem same_true (l : List S41) (h : l.length ≤ 9223372036854775807) : Ev (fun k => furlonglaw0_SameRanges.f k l l) true := by
  have := same_spec l l h
  simpa using this
theorem Norm.short {l : List S41} (h : Norm l) : l.length ≤ 9223372036854775807 := by have := h.len; omega
theorem may_true {l : List S41} (h : Norm l) : Ev (fun k => cover_May.f k l) true := by
  classical
  have := cover_May_spec l h.short
  rwa [decide_eq_true h] at this
theorem may_false {l : List S41} (hl : l.length ≤ 9223372036854775807) (h : ¬ Norm l) : Ev (fun k => cover_May.f k l) false := by
  classical
  have := cover_May_spec l hl
  rwa [decide_eq_false h] at this
theorem num (n : Int) : furlonglaw0_Num.f n = some n := rfl
open Classical in
theorem has_spec (l : List S41) (d : Int) : cover_Has.f l d = some (decide (Mem l d)) := by
  unfold cover_Has.f
  congr 1
  rw [Bool.eq_iff_iff, mem_any, decide_eq_true_iff]

/-! ### the row that is the whole curve -/
theorem total_bound {l : List S41} (h : Norm l) : ∀ c : Int, c ≤ 4294967296 → (∀ r ∈ l, c ≤ r.f0) → total l + c ≤ 4294967296 := by
  induction l with
  | nil => intro c hc _; simpa [total] using hc
  | cons a l ih =>
    intro c hc hle
    obtain ⟨ha, hal, hl⟩ := Norm.cons_iff.1 h
    have h1 := ih hl a.f1 ha.2.2 (fun r hr => Int.le_of_lt (hal r hr))
    have h2 := hle a List.mem_cons_self
    rw [total_cons]
    omega
theorem total_full {l : List S41} (h : Norm l) (ht : total l = 4294967296) : l = [⟨0, 4294967296⟩] := by
  cases l with
  | nil => simp [total] at ht
  | cons a l =>
    obtain ⟨ha, hal, hl⟩ := Norm.cons_iff.1 h
    cases l with
    | nil =>
      have h1 : (a.f1 - a.f0) + 0 = 4294967296 := ht
      obtain ⟨g1, g2, g3⟩ := ha
      cases a with
      | mk u v =>
        simp only at h1 g1 g2 g3
        have : u = 0 := by omega
        have : v = 4294967296 := by omega
        subst_vars
        rfl
    | cons b l =>
      obtain ⟨hb, hbl, hl'⟩ := Norm.cons_iff.1 hl
      have h1 := hal b List.mem_cons_self
      have h2 := total_bound hl b.f0 (by have := hb.2.1; have := hb.2.2; omega) (fun r hr => by
        rcases List.mem_cons.1 hr with rfl | hr
        · exact Int.le_refl _
        · have := hbl r hr; have := hb.2.1; omega)
      rw [total_cons] at ht
      have := ha.1
      omega

/-! ### short rows -/
theorem norm1 {a b : Int} (h0 : 0 ≤ a) (h1 : a < b) (h2 : b ≤ 4294967296) : Norm [⟨a, b⟩] := Norm.cons_iff.2 ⟨⟨h0, h1, h2⟩, fun r hr => by simp at hr, Norm.nil⟩
theorem mem1 {a b d : Int} : Mem [⟨a, b⟩] d ↔ a ≤ d ∧ d < b := by
  rw [Mem.cons_iff]
  exact ⟨fun h => h.elim id (fun h => absurd h Mem.nil), .inl⟩
open Classical in
theorem Union_is {l0 l1 R : List S41} (h0 : Norm l0) (h1 : Norm l1) (hR : Norm R) (h : ∀ d, Mem R d ↔ Mem l0 d ∨ Mem l1 d) : Ev (fun k => cover_Union.f k l0 l1) (R, 0) := by
  obtain ⟨Q, e, n, m⟩ := Union_norm h0 h1
  rwa [Norm.ext n hR (fun d => by rw [m, h]; simp [opU])] at e
open Classical in
theorem Common_is {l0 l1 R : List S41} (h0 : Norm l0) (h1 : Norm l1) (hR : Norm R) (h : ∀ d, Mem R d ↔ Mem l0 d ∧ Mem l1 d) : Ev (fun k => cover_Common.f k l0 l1) (R, 0) := by
  obtain ⟨Q, e, n, m⟩ := Common_norm h0 h1
  rwa [Norm.ext n hR (fun d => by rw [m, h]; simp [opC])] at e
open Classical in
theorem Less_is {l0 l1 R : List S41} (h0 : Norm l0) (h1 : Norm l1) (hR : Norm R) (h : ∀ d, Mem R d ↔ Mem l0 d ∧ ¬ Mem l1 d) : Ev (fun k => cover_Less.f k l0 l1) (R, 0) := by
  obtain ⟨Q, e, n, m⟩ := Less_norm h0 h1
  rwa [Norm.ext n hR (fun d => by rw [m, h]; simp [opL])] at e
theorem Of_is {a b c d : Int} {R : List S41} (h : boxMay a b c d) (hR : Norm R) (hm : ∀ e, Mem R e ↔ 0 ≤ e ∧ (e / 1048576).toNat ∈ boxCells a b c d) : Ev (fun k => cover_Of.f k a b c d) (R, 0) := by
  obtain ⟨Q, e, n, _, m, _⟩ := Of_may h
  rwa [Norm.ext n hR (fun d => by rw [m, hm])] at e

/-! ### the chapter's own tries -/
theorem cell00 : cellN 0 0 = 0 := by decide +kernel
theorem awake_true : Ev (fun k => furlonglaw6_awake.f k) true := by
  have n09 : Norm [⟨0, 9⟩] := norm1 (by omega) (by omega) (by omega)
  have n05 : Norm [⟨0, 5⟩] := norm1 (by omega) (by omega) (by omega)
  have n59 : Norm [⟨5, 9⟩] := norm1 (by omega) (by omega) (by omega)
  have n49 : Norm [⟨4, 9⟩] := norm1 (by omega) (by omega) (by omega)
  have n45 : Norm [⟨4, 5⟩] := norm1 (by omega) (by omega) (by omega)
  have n12 : Norm [⟨1, 2⟩] := norm1 (by omega) (by omega) (by omega)
  have n25 : Norm [⟨2, 5⟩] := norm1 (by omega) (by omega) (by omega)
  have nl : Norm [⟨0, 1⟩, ⟨2, 5⟩] := Norm.cons_iff.2 ⟨⟨by show (0 : Int) ≤ 0; omega, by show (0 : Int) < 1; omega, by show (1 : Int) ≤ _; omega⟩, fun r hr => by rw [List.mem_singleton] at hr; subst hr; show (1 : Int) < 2; omega, n25⟩
  have ml : ∀ d, Mem [⟨0, 1⟩, ⟨2, 5⟩] d ↔ (0 ≤ d ∧ d < 1) ∨ (2 ≤ d ∧ d < 5) := fun d => by rw [Mem.cons_iff, mem1]
  have n55 : ¬ Norm [⟨5, 5⟩] := fun h => by have := (Norm.cons_iff.1 h).1.2.1; simp at this
  have whole : Ev (fun k => cover_Of.f k 0 0 4294967295 4294967295) ([⟨0, 4294967296⟩], 0) := by
    have hb : boxMay 0 0 4294967295 4294967295 := by unfold boxMay; omega
    obtain ⟨R, e, n, _, _, t, _⟩ := Of_may hb
    rwa [total_full n (by rw [t]; unfold boxCells; rw [grid_len]; rfl)] at e
  have one : Ev (fun k => cover_Of.f k 0 0 0 0) ([⟨0, 1048576⟩], 0) := by
    refine Of_is (by unfold boxMay; omega) (norm1 (by omega) (by omega) (by omega)) (fun e => ?_)
    have hc : boxCells 0 0 0 0 = [0] := by
      have : boxCells 0 0 0 0 = [cellN 0 0] := rfl
      rw [this, cell00]
    rw [mem1, hc, List.mem_singleton]
    omega
  have sh : ∀ {l : List S41}, l.length ≤ 5 → l.length ≤ 9223372036854775807 := fun h => by omega
  unfold furlonglaw6_awake.f
  refine Ev.bind whole (Ev.bind one (Ev.bind (Of_not (by unfold boxMay; omega)) ?_))
  refine Ev.bind (Union_is n05 n59 n09 (fun d => by rw [mem1, mem1, mem1]; omega)) ?_
  refine Ev.bind (Common_is n05 n49 n45 (fun d => by rw [mem1, mem1, mem1]; omega)) ?_
  refine Ev.bind (Less_is n05 n12 nl (fun d => by rw [ml, mem1, mem1]; omega)) ?_
  refine Ev.bind (Union_not (by simp) (by simp) (fun h => n55 h.1)) ?_
  refine Ev.bind (same_true _ (by simp)) (Ev.pos rfl (Ev.bind (Ev.const (num _)) (Ev.pos rfl ?_)))
  refine Ev.bind (same_true _ (by simp)) (Ev.pos rfl (Ev.bind (Ev.const (num _)) (Ev.pos rfl ?_)))
  refine Ev.bind (Ev.const (num _)) (Ev.pos rfl ?_)
  refine Ev.bind (same_true _ (by simp)) (Ev.pos rfl (Ev.bind (Ev.const (num _)) (Ev.pos rfl ?_)))
  refine Ev.bind (same_true _ (by simp)) (Ev.pos rfl (Ev.bind (Ev.const (num _)) (Ev.pos rfl ?_)))
  refine Ev.bind (same_true _ (by simp)) (Ev.pos rfl (Ev.bind (Ev.const (num _)) (Ev.pos rfl ?_)))
  refine Ev.bind (Ev.const (num _)) (Ev.pos rfl ?_)
  refine Ev.bind (x := true) (Ev.const rfl) (Ev.pos rfl ?_)
  refine Ev.bind (x := false) (Ev.const rfl) (Ev.neg (by simp) ?_)
  exact Ev.bind (may_true nl) (Ev.const rfl)
end Go.Proofs.Ytngcljnhcbbdmaa.C
