/-
  What the hand-walked functions of the cover share: how a slice of ranges lies; rows of the call's own of several cells an element.
-/
import Derived.Test.YtngcljnhcbbdmaaC0
import Derived.Shelf.GgSortFunc.RowK
import Derived.Sort.OwnSortedInts
namespace Go.Proofs.Ytngcljnhcbbdmaa.C
open Go.RowKit Go.Proofs.YtngcljnhcbbdmaaW.PrintWords Go.Proofs.YtngcljnhcbbdmaaW.PrintLast Go.Proofs.YtngcljnhcbbdmaaW.PrintMore
set_option linter.unusedVariables false
set_option linter.unusedSimpArgs false

instance : Inhabited S41 := ⟨z41⟩
instance : Inhabited S68 := ⟨z68⟩
def enc41 (x : S41) : List Value := [.int .i64 x.f0, .int .i64 x.f1]
def enc68 (x : S68) : List Value := [.int .i64 x.f0, .bool x.f1]

theorem has_cells {w : World} {A : Option Addr} {l : List S41} (h : Kd.C k41 w A l.length l) (hp : 0 < l.length) : ∃ b o, A = some ⟨b, o, none⟩ ∧ b < w.heap.size ∧ ∀ j, j < l.length → ∀ i v, (enc41 l[j]!)[i]? = some v → w.cell? ⟨b, o + j * 2 + i, none⟩ = some v := by
  obtain ⟨ad, he, hc⟩ := h.2.2 hp
  have hspot : ad.spot = none := by
    obtain ⟨c, hl, hk, hcc⟩ := hc 0 _ (List.getElem?_eq_getElem hp)
    obtain rfl := k41_open hk
    have := hcc 0 _ rfl
    cases hs : ad.spot with
    | none => rfl
    | some q =>
      exfalso
      have e0 : ad.add (0 * k41.sz + 0) = ad := by unfold Addr.add; rw [if_pos (by simp)]
      rw [e0] at this
      unfold World.cell? at this
      simp only [hs, Option.isSome_some, if_true] at this
      split at this <;> simp at this
  obtain ⟨b, o, q⟩ := ad
  simp only at hspot
  subst hspot
  have hcell : ∀ j, j < l.length → ∀ i v, (enc41 l[j]!)[i]? = some v → w.cell? ⟨b, o + j * 2 + i, none⟩ = some v := by
    intro j hj i v hi
    obtain ⟨c, hl, hk, hcc⟩ := hc j _ (List.getElem?_eq_getElem hj)
    obtain rfl := k41_open hk
    rw [getElem!_pos l j hj] at hi
    have := hcc i v (by simpa [enc41] using hi)
    rwa [show (k41.sz : Nat) = 2 from rfl, show (⟨b, o, none⟩ : Addr).add (j * 2 + i) = ⟨b, o + j * 2 + i, none⟩ from by unfold Addr.add; simp [Nat.add_assoc]] at this
  refine ⟨b, o, he, ?_, hcell⟩
  have := hcell 0 hp 0 (.int .i64 l[0]!.f0) (by simp [enc41])
  exact World.block_lt_of_cell? w _ this


theorem below_of_grownBy {w0 w w' : World} {k : Nat} (hB : Below w0.heap.size w0 w) (hg : w.grownBy w' (some k)) (hk : w0.heap.size ≤ k) : Below w0.heap.size w0 w' :=
  hB.grown hg hB.size (fun j hj => by cases hj; exact hk)
theorem kept_of_grownBy {w w' : World} {k : Nat} {S : Nat → Prop} (hg : w.grownBy w' (some k)) (hk : S k) : Kept w w' S :=
  ⟨hg.size, fun i hi hn => hg.block i hi (fun e => by cases e; exact hn hk)⟩

/-! ### A row of the call's own, k cells an element, behind the sort -/
section
open Go.Sort
variable {α : Type} [Inhabited α] {enc : α → List Value} {k : Nat}
theorem flatMap_get (hk : ∀ x, (enc x).length = k) (h0 : 0 < k) (l : List α) (t : Nat) (ht : t < l.length * k) : (l.flatMap enc)[t]? = some (enc l[t / k]!)[t % k]! := by
  induction l generalizing t with
  | nil => simp at ht
  | cons x l ih =>
    simp only [List.flatMap_cons, List.length_cons] at ht ⊢
    rcases Nat.lt_or_ge t k with h | h
    · rw [List.getElem?_append_left (by rw [hk]; exact h), Nat.div_eq_of_lt h, Nat.mod_eq_of_lt h]
      simp only [List.getElem!_cons_zero]
      rw [List.getElem?_eq_getElem (by rw [hk]; exact h), getElem!_pos _ _ (by rw [hk]; exact h)]
    · rw [List.getElem?_append_right (by rw [hk]; exact h), hk, ih (t - k) (by rw [Nat.add_mul] at ht; omega)]
      have e1 : t / k = (t - k) / k + 1 := by rw [Nat.div_eq t k, if_pos ⟨h0, h⟩]
      have e2 : t % k = (t - k) % k := by rw [Nat.mod_eq_sub_mod h]
      rw [e1, e2]
      simp
omit [Inhabited α] in
theorem flatMap_len (hk : ∀ x, (enc x).length = k) (l : List α) : (l.flatMap enc).length = l.length * k := by
  induction l with
  | nil => simp
  | cons x l ih => simp only [List.flatMap_cons, List.length_append, ih, hk, List.length_cons, Nat.add_mul]; omega
theorem flatK_list (hk : ∀ x, (enc x).length = k) (h0 : 0 < k) (l : List α) : (flatK enc k l.toArray).toList = l.flatMap enc := by
  apply List.ext_getElem?
  intro t
  rcases Nat.lt_or_ge t (l.length * k) with h | h
  · rw [flatMap_get hk h0 l t h]
    simp [flatK, h]
  · rw [List.getElem?_eq_none (by simpa using h), List.getElem?_eq_none (by rw [flatMap_len hk]; exact h)]
theorem heap_put {β : Type} [Inhabited β] {f : β → Value} {w : World} {g n : Nat} {os : Array Obj} {cur : Array Value} {e : TypeId} {fr : Nat × Nat} (d : Array β) (hb : w.heap[g]? = some (.cells cur e fr)) :
    (grow (putRow f (Sort.ahead w n) g 0 d) os).heap[g]? = some (.cells (putCells f 0 d cur) e fr) := by
  have hg : g < w.heap.size := (Array.getElem?_eq_some_iff.1 hb).1
  rw [heap_grow_old _ _ (by simpa using hg)]
  simp [putRow, mapBlock, Sort.ahead, Array.getElem?_modify, hb, onCells]
theorem grownBy_put {β : Type} [Inhabited β] {f : β → Value} {w : World} {g n : Nat} {os : Array Obj} (d : Array β) : w.grownBy (grow (putRow f (Sort.ahead w n) g 0 d) os) (some g) := by
  refine ⟨rfl, rfl, rfl, by simp, fun k hk hne => ?_⟩
  rw [heap_grow_old _ _ (by simpa using hk)]
  have : g ≠ k := fun e => hne (by rw [e])
  simp [putRow, mapBlock, Sort.ahead, Array.getElem?_modify, this]
theorem take_put (cur : Array Value) (ts : Array Value) (h : ts.size ≤ cur.size) : (putCells id 0 ts cur).toList.take ts.size = ts.toList := by
  apply List.ext_getElem?
  intro j
  by_cases hj : j < ts.size
  · rw [List.getElem?_take_of_lt hj, Array.getElem?_toList]
    simp [putCells, hj, show j < cur.size by omega]
  · rw [List.getElem?_take_eq_none (by omega), List.getElem?_eq_none (by simp; omega)]
theorem holdsK_of_block (hk : ∀ x, (enc x).length = k) (h0 : 0 < k) {w : World} {g : Nat} {cur : Array Value} {e : TypeId} {l : List α} (hb : w.heap[g]? = some (.cells cur e (0, 0))) (ht : cur.toList.take (l.length * k) = l.flatMap enc) : HoldsK enc k w g 0 l.toArray := by
  intro j hj
  have hj' : j < l.length * k := by simpa using hj
  refine ⟨?_, by simp [World.frozen?, hb]⟩
  have h1 : (cur.toList.take (l.length * k))[j]? = (l.flatMap enc)[j]? := by rw [ht]
  rw [List.getElem?_take_of_lt hj', flatMap_get hk h0 l j hj'] at h1
  simp only [World.cell?, hb, Nat.zero_add, Option.isSome_none, Bool.false_eq_true, if_false]
  rw [← Array.getElem?_toList, h1, get_flatK _ _ _ _ (by simpa using hj')]
  simp
theorem ownsRow_sortedK (hk : ∀ x, (enc x).length = k) (h0 : 0 < k) {w : World} {base g cap n : Nat} {e : TypeId} {os : Array Obj} {cur : Array Value} {d' : Array α} {N : Nat} (hl : d'.size = N) (hbase : base ≤ g) (hb : w.heap[g]? = some (.cells cur e (0, 0)))
    (h1 : N ≤ cap) (h2 : cap ≤ maxLen) (h3 : cur.size = cap * k) :
    (grow (putRow id (Sort.ahead w n) g 0 (flatK enc k d')) os).ownsRow base e k (.slice (some ⟨g, 0, none⟩) N cap) N (d'.toList.flatMap enc) := by
  have hlen : (flatK enc k d').size = N * k := by simp [hl]
  refine ⟨by rw [flatMap_len hk]; simp [hl], .inr ⟨g, cap, _, rfl, hbase, heap_put _ hb, h1, h2, by simp [putCells, h3], ?_⟩⟩
  rw [← hlen, take_put _ _ (by rw [hlen, h3]; exact Nat.mul_le_mul_right _ h1)]
  have := flatK_list hk h0 d'.toList
  simpa using this
end
end Go.Proofs.Ytngcljnhcbbdmaa.C
