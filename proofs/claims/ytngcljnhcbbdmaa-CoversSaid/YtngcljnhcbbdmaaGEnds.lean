/-
  cover.ends, walked: the ends of two rows of ranges, sorted by their places as the library's sort lays them; what lay in memory before is as it was.
-/
import Derived.Test.YtngcljnhcbbdmaaGBase
import Derived.Test.YtngcljnhcbbdmaaShelf
namespace Go.Proofs.Ytngcljnhcbbdmaa.C
open Go.RowKit Go.Proofs.YtngcljnhcbbdmaaW.PrintWords Go.Proofs.YtngcljnhcbbdmaaW.PrintLast Go.Proofs.YtngcljnhcbbdmaaW.PrintMore
open Go.Sort
set_option linter.unusedVariables false
set_option linter.unusedSimpArgs false

/-! ### plain -/
def endsOf (first : Bool) (l : List S41) : List S68 := l.flatMap fun r => [⟨r.f0, first⟩, ⟨r.f1, first⟩]
def onCurve (x : S68) : Prop := 0 ≤ x.f0 ∧ x.f0 ≤ 4294967296
instance (x : S68) : Decidable (onCurve x) := by unfold onCurve; infer_instance
abbrev E68 : Type := { x : S68 // onCurve x }
instance : Inhabited E68 := ⟨⟨⟨0, false⟩, by decide⟩⟩
def enc68' (x : E68) : List Value := enc68 x.1
def cmpE (x y : E68) : Int := x.1.f0 - y.1.f0
def toE (l : List S68) (h : ∀ x ∈ l, onCurve x) : List E68 := l.pmap (fun x hx => ⟨x, hx⟩) h
def sortedE (l : List E68) : Array E68 := pdq (ltOf cmpE) l.toArray 0 l.length (Lib.bitLen l.length) true true
def allEnds (l0 l1 : List S41) : List S68 := endsOf true l0 ++ endsOf false l1
def cover_ends.f (l0 : List (S41)) (l1 : List (S41)) : Option ((List (S68))) :=
  if h : (∀ x ∈ allEnds l0 l1, onCurve x) ∧ l0.length + l1.length ≤ 4398046511104 then some ((sortedE (toE _ h.1)).toList.map Subtype.val) else none

theorem endsOf_len (b : Bool) (l : List S41) : (endsOf b l).length = 2 * l.length := by
  unfold endsOf
  induction l with
  | nil => rfl
  | cons x l ih => simp only [List.flatMap_cons, List.length_append, ih, List.length_cons, List.length_nil]; omega
theorem allEnds_len (l0 l1 : List S41) : (allEnds l0 l1).length = 2 * l0.length + 2 * l1.length := by simp [allEnds, endsOf_len]
theorem toE_len (l : List S68) (h : ∀ x ∈ l, onCurve x) : (toE l h).length = l.length := by unfold toE; rw [List.length_pmap]
theorem toE_val (l : List S68) (h : ∀ x ∈ l, onCurve x) : (toE l h).map Subtype.val = l := by
  unfold toE
  rw [List.map_pmap]
  induction l with
  | nil => rfl
  | cons x l ih => rw [List.pmap_cons, ih (fun y hy => h y (List.mem_cons_of_mem _ hy))]
theorem toE_flat (l : List S68) (h : ∀ x ∈ l, onCurve x) : (toE l h).flatMap enc68' = l.flatMap enc68 := by
  have h2 : (toE l h).flatMap enc68' = ((toE l h).map Subtype.val).flatMap enc68 := by rw [List.flatMap_map]; rfl
  rw [h2, toE_val]
theorem swoE : SWO (ltOf cmpE) where
  irrefl x := by unfold ltOf cmpE; exact decide_eq_false (by omega)
  trans x y z h1 h2 := by unfold ltOf cmpE at *; have a := of_decide_eq_true h1; have b := of_decide_eq_true h2; exact decide_eq_true (by omega)
  ntrans x y z h1 h2 := by unfold ltOf cmpE at *; have a := of_decide_eq_false h1; have b := of_decide_eq_false h2; exact decide_eq_false (by omega)
theorem sortedE_size (l : List E68) : (sortedE l).size = l.length := by
  have h := pdq_sorts (ltOf cmpE) swoE l.toArray 0 l.length (Lib.bitLen l.length) true true (Nat.zero_le _) (by simp) (Or.inl rfl)
  have := h.1.1
  simpa [sortedE] using this
theorem endsOf_snoc (b : Bool) (l : List S41) (k : Nat) (h : k < l.length) : endsOf b (l.take (k + 1)) = endsOf b (l.take k) ++ [⟨l[k]!.f0, b⟩, ⟨l[k]!.f1, b⟩] := by
  unfold endsOf
  rw [List.take_succ_eq_append_getElem h, getElem!_pos l k h, List.flatMap_append]
  rfl

/-! ### the closure -/
theorem ends_closure (x y : E68) (W : World) : Calls Try.prog 55 #[.agg (enc68' x).toArray, .agg (enc68' y).toArray] W fun e w' => e = .returned (.int .i64 (cmpE x y)) ∧ ∃ q os', w' = grow (W.drewN q) os' := by
  obtain ⟨⟨x0, x1⟩, hx⟩ := x
  obtain ⟨⟨y0, y1⟩, hy⟩ := y
  have hx0 : 0 ≤ x0 := hx.1
  have hx1 : x0 ≤ 4294967296 := hx.2
  have hy0 : 0 ≤ y0 := hy.1
  have hy1 : y0 ≤ 4294967296 := hy.2
  show Calls Try.prog 55 #[.agg #[.int .i64 x0, .bool x1], .agg #[.int .i64 y0, .bool y1]] W _
  go_enter Try.func55, Try.ntmps55
  go_wp2
  go_ret
  exact ⟨rfl, 0, _, by rw [alloc_eq_grow, alloc_eq_grow, grow_grow]; rfl⟩


theorem ends_cmp (blk off size : Nat) (w : World) : CmpLays Try.prog 55 #[] enc68' 2 cmpE blk off size w := fun _ _ _ _ x y => ends_closure x y _
theorem ends_enter : ∀ args w, (callFunc 55 args).run Try.prog w = .ok (.enter 55 args) w := enters_of Try.func55 (by kernel_rfl) rfl
theorem info68' : (Try.prog.info? 68).map (fun i => (i.zero, i.size, i.bytes)) = some (some (.agg #[.int .i64 0, .bool false]), 2, 16) := by kernel_rfl

/-- the sort, at a row of the call's own -/
theorem ends_sort (l : List S68) (h : ∀ x ∈ l, onCurve x) (hs : l.length < 4611686018427387904) (v : Value) (w : World) (B : Nat) (hown : w.ownsRow B 68 2 v l.length (l.flatMap enc68)) :
    Calls Try.prog 54 #[v, .func (.func 55) #[] #[]] w fun e w' => e = .returned (.tuple #[]) ∧ w'.ownsRow B 68 2 v l.length (((sortedE (toE l h)).toList.map Subtype.val).flatMap enc68) ∧ (∀ w0, Below B w0 w → B ≤ w.heap.size → Below B w0 w') := by
  rcases hown.2 with ⟨rfl, h0⟩ | ⟨g, cap, cur, rfl, hbase, hb, h1, h2, h3, h4⟩
  · have hl : l = [] := List.eq_nil_of_length_eq_zero h0
    subst hl
    refine (AnyF.slices_SortFunc_none { Try.laysF6 with } none 0 _ w).mono ?_
    rintro e w' ⟨rfl, rfl⟩
    refine ⟨rfl, ?_, fun w0 hb _ => hb⟩
    have hz : (sortedE (toE [] h)).toList = [] := by
      have := sortedE_size (toE [] h)
      exact List.eq_nil_of_length_eq_zero (by simpa [toE] using this)
    rw [hz]
    exact World.ownsRow_nil _ _ _ _
  · have hlt : g < w.heap.size := (Array.getElem?_eq_some_iff.1 hb).1
    have hll : (toE l h).length = l.length := toE_len l h
    have hH : HoldsK enc68' 2 w g 0 (toE l h).toArray := holdsK_of_block (enc := enc68') (k := 2) (fun _ => rfl) (by decide) hb (by rw [hll, toE_flat]; exact h4)
    have hcon := AnyQ.slices_SortFunc_eq Try.laysF6 2 Try.isAgg68 Try.sizeOf68 enc68' (fun _ => rfl) (fun x v hv => by simp [enc68', enc68] at hv; rcases hv with rfl | rfl <;> rfl) cmpE swoE 55 #[] g 0 cap (toE l h).toArray w ends_enter (ends_cmp g 0 _ w) hH hlt (by simpa [hll] using hs)
    rw [show (toE l h).toArray.size = l.length by simp [hll]] at hcon
    refine hcon.mono ?_
    rintro e w' ⟨rfl, n, os, rfl⟩
    have hd : pdq (ltOf cmpE) (toE l h).toArray 0 l.length (Lib.bitLen l.length) true true = sortedE (toE l h) := by unfold sortedE; rw [hll]
    rw [hd]
    have hsz : (sortedE (toE l h)).size = l.length := by rw [sortedE_size, hll]
    have ho := ownsRow_sortedK (enc := enc68') (k := 2) (fun _ => rfl) (by decide) (n := n) (os := os) hsz hbase hb h1 h2 h3
    refine ⟨rfl, ?_, fun w0 hB hle => hB.grown (grownBy_put (f := id) (w := w) (g := g) (n := n) (os := os) (flatK enc68' 2 (sortedE (toE l h)))) hle (fun j hj => by cases hj; exact hbase)⟩
    have hf : ((sortedE (toE l h)).toList.map Subtype.val).flatMap enc68 = (sortedE (toE l h)).toList.flatMap enc68' := by rw [List.flatMap_map]; rfl
    rw [hf]
    exact ho

theorem R68_of_own {w : World} {B : Nat} {v : Value} {l : List S68} {n : Nat} (hn : n = l.length) (h : w.ownsRow B 68 2 v n (l.flatMap enc68)) : Kd.R k68 68 w B (fun _ => True) v l := by
  subst hn
  refine ⟨fun _ _ => trivial, l.flatMap enc68, h, ?_, fun j p hj => ?_⟩
  · rw [flatMap_len (k := 2) (fun _ => rfl)]
    rfl
  · have : ((l.flatMap enc68).drop (j * 2)).take 2 = enc68 p := by
      clear h
      induction l generalizing j with
      | nil => simp at hj
      | cons x l ih =>
        cases j with
        | zero => simp at hj; subst hj; simp [enc68]
        | succ j =>
          have h2 := ih j (by simpa using hj)
          rw [List.flatMap_cons, Nat.add_mul, Nat.one_mul, Nat.add_comm, ← List.drop_drop, List.drop_left' (by simp [enc68])]
          exact h2
    show k68.M w B _ p (((l.flatMap enc68).drop (j * 2)).take 2)
    rw [this]
    exact k68_mkM _ _ _ _
end Go.Proofs.Ytngcljnhcbbdmaa.C
