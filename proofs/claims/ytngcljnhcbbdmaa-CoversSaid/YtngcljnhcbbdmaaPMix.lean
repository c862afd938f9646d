/-
  Plain: going over the ends of two rows of ranges, by their places, gives a row of ranges with just the places that are kept.
-/
import Derived.Test.YtngcljnhcbbdmaaPRange
namespace Go.Proofs.Ytngcljnhcbbdmaa.C
open Go.RowKit Go.Proofs.YtngcljnhcbbdmaaW.PrintWords Go.Proofs.YtngcljnhcbbdmaaW.PrintLast Go.Proofs.YtngcljnhcbbdmaaW.PrintMore
open Go.Sort
set_option linter.unusedVariables false
set_option linter.unusedSimpArgs false

/-! ### the sorted ends -/
theorem cover_ends_spec {l0 l1 : List S41} (h0 : Norm l0) (h1 : Norm l1) : ∃ E : List S68, cover_ends.f l0 l1 = some E ∧ E.Perm (allEnds l0 l1) ∧ E.Pairwise (fun a b => a.f0 ≤ b.f0) := by
  have hon : ∀ (b : Bool) (l : List S41), Norm l → ∀ x ∈ endsOf b l, onCurve x := by
    intro b l hl x hx
    unfold endsOf at hx
    rw [List.mem_flatMap] at hx
    obtain ⟨r, hr, hx⟩ := hx
    have := hl.1 r hr
    unfold good at this
    unfold onCurve
    simp at hx
    rcases hx with rfl | rfl
    · exact ⟨by show 0 ≤ r.f0; omega, by show r.f0 ≤ _; omega⟩
    · exact ⟨by show 0 ≤ r.f1; omega, by show r.f1 ≤ _; omega⟩
  have hall : ∀ x ∈ allEnds l0 l1, onCurve x := fun x hx => (List.mem_append.1 hx).elim (hon _ _ h0 x) (hon _ _ h1 x)
  have hlen : l0.length + l1.length ≤ 4398046511104 := by have := h0.len; have := h1.len; omega
  refine ⟨(sortedE (toE _ hall)).toList.map Subtype.val, by unfold cover_ends.f; rw [dif_pos ⟨hall, hlen⟩], ?_, ?_⟩
  · have h := pdq_sorts (ltOf cmpE) swoE (toE _ hall).toArray 0 (toE _ hall).length (Lib.bitLen (toE _ hall).length) true true (Nat.zero_le _) (by simp) (Or.inl rfl)
    have hp := h.1.2.2
    have e1 : (sortedE (toE _ hall)).extract 0 (toE _ hall).length = sortedE (toE _ hall) := by
      have := sortedE_size (toE _ hall)
      rw [← this, Array.extract_size]
    have e2 : (toE _ hall).toArray.extract 0 (toE _ hall).length = (toE _ hall).toArray := by
      have : (toE _ hall).toArray.size = (toE _ hall).length := by simp
      rw [← this, Array.extract_size]
    have hp2 : (sortedE (toE _ hall)).toList.Perm (toE _ hall) := by
      have : ((sortedE (toE _ hall)).extract 0 (toE _ hall).length).toList.Perm ((toE _ hall).toArray.extract 0 (toE _ hall).length).toList := hp
      rw [e1, e2] at this
      simpa using this
    have := hp2.map Subtype.val
    rwa [toE_val] at this
  · have h := pdq_sorts (ltOf cmpE) swoE (toE _ hall).toArray 0 (toE _ hall).length (Lib.bitLen (toE _ hall).length) true true (Nat.zero_le _) (by simp) (Or.inl rfl)
    have hs : SortedIn (ltOf cmpE) 0 (toE _ hall).length (sortedE (toE _ hall)) := h.2
    have hsz := sortedE_size (toE _ hall)
    rw [List.pairwise_map, List.pairwise_iff_getElem]
    intro i j hi hj hij
    have hj' : j < (sortedE (toE _ hall)).size := by simpa using hj
    have h3 := hs i j (Nat.zero_le _) hij (by omega)
    rw [getElem!_pos _ j hj', getElem!_pos _ i (by omega)] at h3
    unfold ltOf cmpE at h3
    have h4 := of_decide_eq_false h3
    simp only [Array.getElem_toList]
    omega

/-! ### how many ends lie up to a place -/
def upTo (b : Bool) (d : Int) (x : S68) : Bool := (x.f1 == b) && decide (x.f0 ≤ d)
def odd (n : Nat) : Bool := n % 2 == 1
theorem odd_succ (n : Nat) : odd (n + 1) = !odd n := by
  unfold odd
  rcases Nat.mod_two_eq_zero_or_one n with h | h
  · have : (n + 1) % 2 = 1 := by omega
    simp [h, this]
  · have : (n + 1) % 2 = 0 := by omega
    simp [h, this]
theorem endsOf_cons (b : Bool) (a : S41) (l : List S41) : endsOf b (a :: l) = ⟨a.f0, b⟩ :: ⟨a.f1, b⟩ :: endsOf b l := rfl
theorem count_other (b c : Bool) (hbc : b ≠ c) (l : List S41) (d : Int) : (endsOf b l).countP (upTo c d) = 0 := by
  induction l with
  | nil => rfl
  | cons a l ih =>
    have : (b == c) = false := by simpa using hbc
    rw [endsOf_cons, List.countP_cons_of_neg (by simp [upTo, this]), List.countP_cons_of_neg (by simp [upTo, this]), ih]
theorem count_above (b : Bool) (l : List S41) (d : Int) (hl : Norm l) (h : ∀ r ∈ l, d < r.f0) : (endsOf b l).countP (upTo b d) = 0 := by
  induction l with
  | nil => rfl
  | cons a l ih =>
    obtain ⟨ha, hal, hl'⟩ := Norm.cons_iff.1 hl
    have h0 := h a List.mem_cons_self
    have := ha.2.1
    rw [endsOf_cons, List.countP_cons_of_neg (by simp [upTo]; omega), List.countP_cons_of_neg (by simp [upTo]; omega), ih hl' (fun r hr => h r (List.mem_cons_of_mem _ hr))]
theorem count_mem (b : Bool) {l : List S41} (hl : Norm l) (d : Int) : odd ((endsOf b l).countP (upTo b d)) = true ↔ Mem l d := by
  induction l with
  | nil => simp [endsOf, odd, Mem]
  | cons a l ih =>
    obtain ⟨ha, hal, hl'⟩ := Norm.cons_iff.1 hl
    have hlt := ha.2.1
    rw [endsOf_cons, Mem.cons_iff]
    by_cases h0 : a.f0 ≤ d
    · rw [List.countP_cons_of_pos (by simp [upTo, h0])]
      by_cases h1 : a.f1 ≤ d
      · rw [List.countP_cons_of_pos (by simp [upTo, h1]), odd_succ, odd_succ, Bool.not_not, ih hl']
        constructor
        · exact .inr
        · rintro (h2 | h2)
          · omega
          · exact h2
      · rw [List.countP_cons_of_neg (by simp [upTo]; omega), count_above b l d hl' (fun r hr => by have := hal r hr; omega)]
        exact ⟨fun _ => .inl ⟨h0, by omega⟩, fun _ => rfl⟩
    · rw [List.countP_cons_of_neg (by simp [upTo]; omega), List.countP_cons_of_neg (by simp [upTo]; omega), count_above b l d hl' (fun r hr => by have := hal r hr; omega)]
      constructor
      · intro h
        simp [odd] at h
      · rintro (h2 | h2)
        · omega
        · have := Mem.above hal h2
          omega
theorem count_all {l0 l1 : List S41} (h0 : Norm l0) (h1 : Norm l1) {E : List S68} (hE : E.Perm (allEnds l0 l1)) (d : Int) :
    (odd (E.countP (upTo true d)) = true ↔ Mem l0 d) ∧ (odd (E.countP (upTo false d)) = true ↔ Mem l1 d) := by
  rw [hE.countP_eq, hE.countP_eq]
  unfold allEnds
  rw [List.countP_append, List.countP_append, count_other false true (by simp) l1 d, count_other true false (by simp) l0 d, Nat.add_zero, Nat.zero_add]
  exact ⟨count_mem true h0 d, count_mem false h1 d⟩

/-! ### the loop -/
def mixStep (op : Bool → Bool → Bool) (out : List S41) (inA inB : Bool) (from_ at_ : Int) : List S41 := if from_ < at_ then (if op inA inB = true then addR out from_ at_ else out) else out
def mixRun (op : Bool → Bool → Bool) : List S68 → List S41 → Bool → Bool → Int → List S41
  | [], out, _, _, _ => out
  | e :: es, out, inA, inB, from_ => if e.f1 = true then mixRun op es (mixStep op out inA inB from_ e.f0) (!inA) inB e.f0 else mixRun op es (mixStep op out inA inB from_ e.f0) inA (!inB) e.f0

open Classical in
/-- what has been gone over: pre; what is told of it -/
structure Inv (op : Bool → Bool → Bool) (l0 l1 : List S41) (pre : List S68) (out : List S41) (inA inB : Bool) (from_ : Int) : Prop where
  norm : Norm out
  upto : ∀ r ∈ out, r.f1 ≤ from_
  from0 : 0 ≤ from_
  inA : inA = odd (pre.countP (fun x => x.f1 == true))
  inB : inB = odd (pre.countP (fun x => x.f1 == false))
  below : ∀ x ∈ pre, x.f0 ≤ from_
  mem : ∀ d, Mem out d ↔ d < from_ ∧ op (decide (Mem l0 d)) (decide (Mem l1 d)) = true

open Classical in
theorem count_here {l0 l1 : List S41} (h0 : Norm l0) (h1 : Norm l1) {pre rest : List S68} (hE : (pre ++ rest).Perm (allEnds l0 l1)) {d : Int} (hb : ∀ x ∈ pre, x.f0 ≤ d) (ha : ∀ x ∈ rest, d < x.f0) :
    (odd (pre.countP (fun x => x.f1 == true)) = decide (Mem l0 d)) ∧ (odd (pre.countP (fun x => x.f1 == false)) = decide (Mem l1 d)) := by
  have h := count_all h0 h1 hE d
  have hc : ∀ b : Bool, (pre ++ rest).countP (upTo b d) = pre.countP (fun x => x.f1 == b) := by
    intro b
    rw [List.countP_append]
    have e1 : rest.countP (upTo b d) = 0 := by
      rw [List.countP_eq_zero]
      intro x hx
      have := ha x hx
      simp [upTo]
      intro _
      omega
    have e2 : pre.countP (upTo b d) = pre.countP (fun x => x.f1 == b) := by
      apply List.countP_congr
      intro x hx
      have := hb x hx
      simp [upTo, this]
    rw [e1, e2, Nat.add_zero]
  rw [hc, hc] at h
  constructor
  · rw [Bool.eq_iff_iff, h.1, decide_eq_true_iff]
  · rw [Bool.eq_iff_iff, h.2, decide_eq_true_iff]

open Classical in
theorem mixRun_spec (op : Bool → Bool → Bool) (hop : op false false = false) {l0 l1 : List S41} (h0 : Norm l0) (h1 : Norm l1) (rest : List S68) : ∀ (pre : List S68) (out : List S41) (inA inB : Bool) (from_ : Int),
    (pre ++ rest).Perm (allEnds l0 l1) → (∀ x ∈ pre, ∀ y ∈ rest, x.f0 ≤ y.f0) → rest.Pairwise (fun a b => a.f0 ≤ b.f0) → (∀ x ∈ rest, from_ ≤ x.f0 ∧ x.f0 ≤ 4294967296) → Inv op l0 l1 pre out inA inB from_ →
    Norm (mixRun op rest out inA inB from_) ∧ ∀ d, Mem (mixRun op rest out inA inB from_) d ↔ op (decide (Mem l0 d)) (decide (Mem l1 d)) = true := by
  induction rest with
  | nil =>
    intro pre out inA inB from_ hE _ _ _ hI
    refine ⟨hI.norm, fun d => ?_⟩
    rw [show mixRun op [] out inA inB from_ = out from rfl, hI.mem d]
    constructor
    · exact fun h => h.2
    · intro h
      refine ⟨?_, h⟩
      rcases Int.lt_or_le d from_ with hlt | hge
      · exact hlt
      · exfalso
        have hz := count_all h0 h1 hE d
        have hc : ∀ b : Bool, (pre ++ []).countP (upTo b d) = 2 * (if b = true then l0.length else l1.length) := by
          intro b
          have e1 : (pre ++ []).countP (upTo b d) = (pre ++ []).countP (fun x : S68 => x.f1 == b) := by
            apply List.countP_congr
            intro x hx
            have := hI.below x (by simpa using hx)
            have : x.f0 ≤ d := by omega
            simp [upTo, this]
          have e2 : ∀ (c : Bool) (l : List S41), (endsOf c l).countP (fun x : S68 => x.f1 == b) = if c = b then 2 * l.length else 0 := by
            intro c l
            induction l with
            | nil => simp [endsOf]
            | cons a l ih =>
              rw [endsOf_cons]
              by_cases hcb : c = b
              · rw [List.countP_cons_of_pos (by simp [hcb]), List.countP_cons_of_pos (by simp [hcb]), ih, if_pos hcb, if_pos hcb, List.length_cons]
                omega
              · rw [List.countP_cons_of_neg (by simp [hcb]), List.countP_cons_of_neg (by simp [hcb]), ih, if_neg hcb, if_neg hcb]
          rw [e1, hE.countP_eq]
          unfold allEnds
          rw [List.countP_append, e2, e2]
          cases b <;> simp
        have ho : ∀ n : Nat, odd (2 * n) = false := by intro n; unfold odd; have : 2 * n % 2 = 0 := by omega
                                                       rw [this]; rfl
        have hA : ¬ Mem l0 d := fun hm => by have := hz.1.2 hm; rw [hc, ho] at this; cases this
        have hB : ¬ Mem l1 d := fun hm => by have := hz.2.2 hm; rw [hc, ho] at this; cases this
        rw [decide_eq_false hA, decide_eq_false hB, hop] at h
        cases h
  | cons e es ih =>
    intro pre out inA inB from_ hE hpre hsort hge hI
    have he := hge e List.mem_cons_self
    have hes := List.pairwise_cons.1 hsort
    have hE' : ((pre ++ [e]) ++ es).Perm (allEnds l0 l1) := by rw [List.append_assoc]; exact hE
    have hpre' : ∀ x ∈ pre ++ [e], ∀ y ∈ es, x.f0 ≤ y.f0 := by
      intro x hx y hy
      rcases List.mem_append.1 hx with hx | hx
      · exact hpre x hx y (List.mem_cons_of_mem _ hy)
      · simp at hx
        subst hx
        exact hes.1 y hy
    have hge' : ∀ x ∈ es, e.f0 ≤ x.f0 ∧ x.f0 ≤ 4294967296 := fun x hx => ⟨hes.1 x hx, (hge x (List.mem_cons_of_mem _ hx)).2⟩
    have hbel' : ∀ x ∈ pre ++ [e], x.f0 ≤ e.f0 := by
      intro x hx
      rcases List.mem_append.1 hx with hx | hx
      · exact hpre x hx e List.mem_cons_self
      · simp at hx
        subst hx
        exact Int.le_refl _
    -- what the step does
    have hstep : Norm (mixStep op out inA inB from_ e.f0) ∧ (∀ r ∈ mixStep op out inA inB from_ e.f0, r.f1 ≤ e.f0) ∧ ∀ d, Mem (mixStep op out inA inB from_ e.f0) d ↔ d < e.f0 ∧ op (decide (Mem l0 d)) (decide (Mem l1 d)) = true := by
      unfold mixStep
      by_cases hlt : from_ < e.f0
      · rw [if_pos hlt]
        have hin : ∀ d, from_ ≤ d → d < e.f0 → (decide (Mem l0 d) = inA ∧ decide (Mem l1 d) = inB) := by
          intro d hd1 hd2
          have := count_here h0 h1 hE (d := d) (fun x hx => by have := hI.below x hx; omega) (fun x hx => by
            rcases List.mem_cons.1 hx with rfl | hx
            · exact hd2
            · have := hes.1 x hx; omega)
          rw [hI.inA, hI.inB]
          exact ⟨this.1.symm, this.2.symm⟩
        by_cases hk : op inA inB = true
        · rw [if_pos hk]
          obtain ⟨a1, a2, a3⟩ := addR_norm hI.norm hI.upto hI.from0 hlt he.2
          refine ⟨a1, a2, fun d => ?_⟩
          rw [a3 d, hI.mem d]
          constructor
          · rintro (⟨h2, h3⟩ | ⟨h2, h3⟩)
            · exact ⟨by omega, h3⟩
            · obtain ⟨i1, i2⟩ := hin d h2 h3
              rw [i1, i2]
              exact ⟨h3, hk⟩
          · rintro ⟨h2, h3⟩
            rcases Int.lt_or_le d from_ with h4 | h4
            · exact .inl ⟨h4, h3⟩
            · exact .inr ⟨h4, h2⟩
        · rw [if_neg hk]
          refine ⟨hI.norm, fun r hr => by have := hI.upto r hr; omega, fun d => ?_⟩
          rw [hI.mem d]
          constructor
          · rintro ⟨h2, h3⟩
            exact ⟨by omega, h3⟩
          · rintro ⟨h2, h3⟩
            rcases Int.lt_or_le d from_ with h4 | h4
            · exact ⟨h4, h3⟩
            · obtain ⟨i1, i2⟩ := hin d h4 h2
              rw [i1, i2] at h3
              exact absurd h3 hk
      · rw [if_neg hlt]
        have : from_ = e.f0 := by omega
        subst this
        exact ⟨hI.norm, hI.upto, hI.mem⟩
    have hfrom : 0 ≤ e.f0 := by have := hI.from0; omega
    have hA : (pre ++ [e]).countP (fun x => x.f1 == true) = pre.countP (fun x => x.f1 == true) + (if e.f1 = true then 1 else 0) := by
      rw [List.countP_append]
      cases hf : e.f1 <;> simp [hf]
    have hB : (pre ++ [e]).countP (fun x => x.f1 == false) = pre.countP (fun x => x.f1 == false) + (if e.f1 = true then 0 else 1) := by
      rw [List.countP_append]
      cases hf : e.f1 <;> simp [hf]
    unfold mixRun
    by_cases hf : e.f1 = true
    · rw [if_pos hf]
      rw [if_pos hf] at hA hB
      exact ih (pre ++ [e]) _ _ _ _ hE' hpre' hes.2 hge' ⟨hstep.1, hstep.2.1, hfrom, by rw [hA, odd_succ, hI.inA], by rw [hB, Nat.add_zero]; exact hI.inB, hbel', hstep.2.2⟩
    · rw [if_neg hf]
      rw [if_neg hf] at hA hB
      exact ih (pre ++ [e]) _ _ _ _ hE' hpre' hes.2 hge' ⟨hstep.1, hstep.2.1, hfrom, by rw [hA, Nat.add_zero]; exact hI.inA, by rw [hB, odd_succ, hI.inB], hbel', hstep.2.2⟩
theorem mixStep_len (op : Bool → Bool → Bool) (out : List S41) (inA inB : Bool) (f t : Int) : (mixStep op out inA inB f t).length ≤ out.length + 1 := by
  unfold mixStep
  have := addR_len out f t
  split
  · split <;> omega
  · omega
end Go.Proofs.Ytngcljnhcbbdmaa.C
