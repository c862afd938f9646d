/-
  How a row's argument, of whatever type without maps, pointers and interfaces, is read as the print's kinds: once for all rows of the seat.
-/
import Derived.Test.YtgdalpjglmlmkaaWWords
import Derived.Test.YtgdalpjglmlmkaaWMore
import Derived.ProofKit
import Derived.Deep.Slices
namespace Go.Proofs.Ytgdalpjglmlmkaa.Open
open Go.RowKit Go.Proofs.YtgdalpjglmlmkaaW.PrintWords Go.Proofs.YtgdalpjglmlmkaaW.PrintLast Go.Proofs.YtgdalpjglmlmkaaW.PrintMore
open Go.Deep
set_option linter.unusedVariables false
set_option linter.unusedSimpArgs false

/-- What is read as data of type t is, as the print has it, an x of kind d, and ok. -/
structure Opn (P : Program) {α : Type} (d : Kd α) (t : TypeId) (ok : α → Prop) : Prop where
  open_ : ∀ {H : Type} {enc : TypeId × Value → H} {w : World} {fuel : Nat} {cs : List Value} {y : DataW H × List MemPlace}, DataW.trod enc P w 0 (fun _ => true) true fuel t cs = some y → ∃ x, d.K w x cs ∧ ok x

theorem Opn.int {P : Program} {t : TypeId} {k : IntKind} (ht : P.underlying t = some (.int k)) : Opn P (Kd.int k) t (fun x => (Lit.int k x).wf = true) :=
  ⟨fun h => by obtain ⟨n, rfl, _, hw⟩ := DataW.trod_int ht h; exact ⟨n, rfl, hw⟩⟩
theorem Opn.bool {P : Program} {t : TypeId} (ht : P.underlying t = some .bool) : Opn P Kd.bool t (fun _ => True) :=
  ⟨fun h => by obtain ⟨b, rfl, _⟩ := DataW.trod_bool ht h; exact ⟨b, rfl, trivial⟩⟩
theorem Opn.string {P : Program} {t : TypeId} (ht : P.underlying t = some .string) : Opn P Kd.string t (fun s => s.size ≤ 9223372036854775807) :=
  ⟨fun h => by obtain ⟨s, rfl, _, hs⟩ := DataW.trod_string ht h; exact ⟨s, rfl, hs⟩⟩

theorem cells_some {w : World} {base : Nat} {a : Addr} {n : Nat} {cs : List Value} (h : w.cells? base a n = some cs) : cs.length = n ∧ ∀ i u, cs[i]? = some u → w.cell? (a.add i) = some u := by
  unfold World.cells? at h
  split at h
  case isFalse => simp at h
  case isTrue =>
  have hl := mapM_some_length h
  refine ⟨by simpa using hl, fun i u hu => ?_⟩
  have hi : i < n := by have := (List.getElem?_eq_some_iff.1 hu).1; simp at hl; omega
  have := mapM_some_get h i i (by simp [hi])
  rw [this, hu]

theorem Opn.slice {P : Program} {α : Type} {d : Kd α} {t e : TypeId} {ok : α → Prop} (ht : P.underlying t = some (.slice e)) (hc : P.cellsOf e = d.sz) (h : Opn P d e ok) : Opn P (Kd.slice e d) t (fun l => l.length ≤ 9223372036854775807 ∧ ∀ x ∈ l, ok x) :=
  ⟨fun {H enc w fuel cs y} hr => by
    rcases open_slice ht hr with ⟨rfl, _⟩ | ⟨a, len, cap, m, n, D, Pl, rfl, _, hl, hm, hmm, _, hx⟩
    · exact ⟨[], ⟨none, 0, rfl, Nat.le_refl _, Kd.C_nil _ _⟩, by simp, fun x hx => by simp at hx⟩
    · have hlm : len ≤ m := by rw [hmm]; simp; exact hl
      have hml : len ≤ 9223372036854775807 := Nat.le_trans hl hm
      have key : ∀ k, k ≤ len → ∃ xs : List α, xs.length = k ∧ (∀ x ∈ xs, ok x) ∧ ∀ j p, xs[j]? = some p → ∃ c, c.length = d.sz ∧ d.K w p c ∧ ∀ i u, c[i]? = some u → w.cell? (a.add (j * d.sz + i)) = some u := by
        intro k
        induction k with
        | zero => exact fun _ => ⟨[], rfl, fun x hx => by simp at hx, fun j p hj => by simp at hj⟩
        | succ k ih =>
          intro hk
          obtain ⟨xs, h1, h2, h3⟩ := ih (by omega)
          obtain ⟨cs', hcs, htr⟩ := hx k (by omega)
          obtain ⟨x, hK, hok⟩ := h.open_ htr
          obtain ⟨hlen, hcell⟩ := cells_some hcs
          refine ⟨xs ++ [x], by simp [h1], fun z hz => ?_, fun j p hj => ?_⟩
          · rcases List.mem_append.1 hz with hz | hz
            · exact h2 z hz
            · rw [List.mem_singleton.1 hz]; exact hok
          · rcases Nat.lt_or_ge j k with hjk | hjk
            · rw [List.getElem?_append_left (by omega)] at hj
              exact h3 j p hj
            · have hjk' : j = k := by
                have := (List.getElem?_eq_some_iff.1 hj).1
                simp [h1] at this
                omega
              subst hjk'
              have hp : x = p := by simpa [← h1] using hj
              subst hp
              refine ⟨cs', by rw [hlen, hc], hK, fun i u hu => ?_⟩
              have := hcell i u hu
              rwa [hc, Go.Deep.add_add] at this
      obtain ⟨xs, h1, h2, h3⟩ := key len (Nat.le_refl _)
      subst h1
      exact ⟨xs, ⟨some a, cap, rfl, hl, rfl, hml, fun _ => ⟨a, rfl, h3⟩⟩, hml, h2⟩⟩

/-- A struct's fields from one on, cell by cell. -/
structure OpnFs (P : Program) {α : Type} (d : Kd α) (fs : List Field) (o : Nat) (ok : α → Prop) : Prop where
  open_ : ∀ {H : Type} {enc : TypeId × Value → H} {w : World} {fuel : Nat} {cs : List Value}, cs.length = o + d.sz →
    (∀ f ∈ fs, ∃ y, DataW.trod enc P w 0 (fun _ => true) true fuel f.type ((cs.drop f.offset).take (P.cellsOf f.type)) = some y) → ∃ x, d.K w x (cs.drop o) ∧ ok x
theorem OpnFs.last {P : Program} {α : Type} {d : Kd α} {f : Field} {o : Nat} {ok : α → Prop} (ho : f.offset = o) (hc : P.cellsOf f.type = d.sz) (h : Opn P d f.type ok) : OpnFs P d [f] o ok :=
  ⟨fun {H enc w fuel cs} hl hf => by
    obtain ⟨y, hy⟩ := hf f List.mem_cons_self
    rw [ho, hc, List.take_of_length_le (by rw [List.length_drop]; omega)] at hy
    exact h.open_ hy⟩
theorem OpnFs.cons {P : Program} {α β : Type} {d : Kd α} {d2 : Kd β} {f : Field} {fs : List Field} {o : Nat} {ok : α → Prop} {ok2 : β → Prop} (ho : f.offset = o) (hc : P.cellsOf f.type = d.sz) (h : Opn P d f.type ok) (h2 : OpnFs P d2 fs (o + d.sz) ok2) :
    OpnFs P (Kd.pair d d2) (f :: fs) o (fun x => ok x.1 ∧ ok2 x.2) :=
  ⟨fun {H enc w fuel cs} hl hf => by
    have hl' : cs.length = o + (d.sz + d2.sz) := hl
    obtain ⟨y, hy⟩ := hf f List.mem_cons_self
    rw [ho, hc] at hy
    obtain ⟨x, hx, hok⟩ := h.open_ hy
    obtain ⟨x2, hx2, hok2⟩ := h2.open_ (cs := cs) (by omega) (fun g hg => hf g (List.mem_cons_of_mem _ hg))
    refine ⟨(x, x2), ⟨(cs.drop o).take d.sz, cs.drop (o + d.sz), ?_, hx, hx2⟩, hok, hok2⟩
    rw [← List.drop_drop, List.take_append_drop]⟩
theorem Opn.struct {P : Program} {α β : Type} {d : Kd α} {f : β → α} {g : α → β} {t : TypeId} {fs : Array Field} {ok : α → Prop} (ht : P.underlying t = some (.struct fs)) (hc : P.cellsOf t = d.sz) (hg : ∀ a, f (g a) = a) (h : OpnFs P d fs.toList 0 ok) :
    Opn P (Kd.iso d f) t (fun x => ok (f x)) :=
  ⟨fun {H enc w fuel cs y} hr => by
    obtain ⟨xs, n, rfl, _, hl, hxs, hf⟩ := DataW.trod_struct ht hr
    obtain ⟨x, hx, hok⟩ := h.open_ (enc := enc) (w := w) (fuel := n) (cs := cs) (by rw [hl, hc]; omega) (fun q hq => by
      obtain ⟨i, hi, hq⟩ := List.mem_iff_getElem.1 hq
      have h2 := hf i q (by rw [← Array.getElem?_toList, List.getElem?_eq_getElem hi, hq])
      have h3 : i < xs.length := by rw [hxs]; simpa using hi
      exact ⟨xs[i], by rw [h2, List.getElem?_eq_getElem h3]⟩)
    refine ⟨g x, ?_, ?_⟩
    · show d.K w (f (g x)) cs
      rw [hg]
      simpa using hx
    · show ok (f (g x))
      rw [hg]
      exact hok⟩

/-- an argument that is a slice, and one that is a struct -/
theorem Opn.arg_slice {P : Program} {α : Type} {d : Kd α} {t e : TypeId} {ok : List α → Prop} {H : Type} {enc : TypeId × Value → H} {w : World} {r : Reach} {b0 : Nat} {v : Value} {y : DataW H} {p : List MemPlace} (ht : P.underlying t = some (.slice e)) (h : Opn P (Kd.slice e d) t ok)
    (hv : Value.okWide P w r b0 t v) (hr : DataW.Trod enc P w 0 (fun _ => true) true t v y p) : ∃ A c l, v = .slice A l.length c ∧ l.length ≤ c ∧ d.C w A l.length l ∧ ok l := by
  obtain ⟨a, len, cap, rfl⟩ := Go.WideShapes.okWide_slice ht hv
  obtain ⟨fuel, hf⟩ := hr
  obtain ⟨l, ⟨A, c, hcs, hl, hC⟩, hok⟩ := h.open_ hf
  simp [Value.cells] at hcs
  obtain ⟨rfl, rfl, rfl⟩ := hcs
  exact ⟨_, _, l, rfl, hl, hC, hok⟩
theorem Opn.arg_struct {P : Program} {α : Type} {d : Kd α} {t : TypeId} {fs : Array Field} {ok : α → Prop} {H : Type} {enc : TypeId × Value → H} {w : World} {r : Reach} {b0 : Nat} {v : Value} {y : DataW H} {p : List MemPlace} (ht : P.underlying t = some (.struct fs)) (h : Opn P d t ok)
    (hv : Value.okWide P w r b0 t v) (hr : DataW.Trod enc P w 0 (fun _ => true) true t v y p) : ∃ cs x, v = .agg cs ∧ d.K w x cs.toList ∧ ok x := by
  obtain ⟨cs, rfl, _⟩ := Go.WideShapes.okWide_struct ht hv
  obtain ⟨fuel, hf⟩ := hr
  obtain ⟨x, hK, hok⟩ := h.open_ hf
  exact ⟨cs, x, rfl, hK, hok⟩
end Go.Proofs.Ytgdalpjglmlmkaa.Open
