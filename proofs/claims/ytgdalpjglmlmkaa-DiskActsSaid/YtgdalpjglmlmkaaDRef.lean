/-
  The document's disk as it lies; its NewDisk, walked.
-/
import Derived.Test.YtgdalpjglmlmkaaDCrashes
import Derived.Maps.AppendAt
namespace Go.Proofs.Ytgdalpjglmlmkaa.D
open Go.RowKit Go.Maps Go.Proofs.YtgdalpjglmlmkaaW.PrintWords Go.Proofs.YtgdalpjglmlmkaaW.PrintLast Go.Proofs.YtgdalpjglmlmkaaW.PrintMore
set_option linter.unusedVariables false
set_option linter.unusedSimpArgs false

/-- a row of strings in memory, and what lies behind it -/
def RowS (w : World) (g : Nat) (xs : List ByteArray) : Prop := ∃ rest : List Value, w.heap[g]? = some (.cells (xs.map Value.string ++ rest).toArray 9 (0, 0))
theorem RowS.cell {w : World} {g : Nat} {xs : List ByteArray} (h : RowS w g xs) (i : Nat) (hi : i < xs.length) : w.cell? ⟨g, i, none⟩ = some (.string (xs.getD i ByteArray.empty)) := by
  obtain ⟨rest, h⟩ := h
  rw [blk_cell h i]
  have h2 : i < (xs.map Value.string).length := by simpa using hi
  simp [List.getElem?_append_left h2, hi]
theorem RowS.frozen {w : World} {g : Nat} {xs : List ByteArray} (h : RowS w g xs) (i : Nat) : w.frozen? ⟨g, i, none⟩ = false := by obtain ⟨rest, h⟩ := h; exact blk_frozen h i
theorem RowS.put {w : World} {g : Nat} {xs : List ByteArray} (h : RowS w g xs) (i : Nat) (hi : i < xs.length) (x : ByteArray) : RowS (w.setCell ⟨g, i, none⟩ (.string x)) g (xs.set i x) := by
  obtain ⟨rest, h⟩ := h
  refine ⟨rest, blk_put h i _ ?_⟩
  rw [List.map_set]
  have h2 : i < (xs.map Value.string).length := by simpa using hi
  simp [List.set_append_left _ _ h2]
theorem RowS.turned {w w1 : World} {g : Nat} {xs : List ByteArray} {S : Nat → Prop} (h : RowS w g xs) (hk : Kp w w1 S) (hg : ¬ S g) : RowS w1 g xs := by
  obtain ⟨rest, h⟩ := h; exact ⟨rest, hk.blkOf h hg⟩
theorem RowS.ne {w : World} {g g2 : Nat} {xs : List ByteArray} {cs : Array Value} {t : TypeId} {fr : Nat × Nat} (h : RowS w g xs) (h2 : w.heap[g2]? = some (.cells cs t fr)) (ht : t ≠ 9) : g ≠ g2 := by
  rintro rfl
  obtain ⟨rest, h⟩ := h
  rw [h] at h2
  injection h2 with h2
  injection h2 with _ h2
  exact ht h2.symm
structure Rk where
  now : List ByteArray
  then_ : List ByteArray
  dirty : List Bool
/-- the document's disk -/
structure RefIs (W : World) (r b0 b1 b2 : Nat) (R : Rk) : Prop where
  box : ∃ c0 c1 c2 : Nat, W.heap[r]? = some (.cells #[.slice (some ⟨b0, 0, none⟩) R.now.length c0, .slice (some ⟨b1, 0, none⟩) R.now.length c1, .slice (some ⟨b2, 0, none⟩) R.now.length c2] 75 (0, 0))
  now : RowS W b0 R.now
  th : RowS W b1 R.then_
  dirty : ArrB W b2 4 R.dirty
  ne : b0 ≠ b1
  lt : R.then_.length = R.now.length
  ld : R.dirty.length = R.now.length
  pos : 0 < R.now.length
  most : R.now.length ≤ 1024
def RParts (r b0 b1 b2 : Nat) (k : Nat) : Prop := k = r ∨ k = b0 ∨ k = b1 ∨ k = b2
section
variable {W W1 : World} {r b0 b1 b2 : Nat} {R : Rk}
theorem RefIs.apart (h : RefIs W r b0 b1 b2 R) : b0 ≠ r ∧ b1 ≠ r ∧ b2 ≠ r ∧ b0 ≠ b2 ∧ b1 ≠ b2 := by
  obtain ⟨c0, c1, c2, hb⟩ := h.box
  have hd := h.dirty
  exact ⟨h.now.ne hb (by decide), h.th.ne hb (by decide), blk_ne hd hb (by decide), h.now.ne hd (by decide), h.th.ne hd (by decide)⟩
theorem RefIs.kept (h : RefIs W r b0 b1 b2 R) {S : Nat → Prop} (hk : Kp W W1 S) (hS : ∀ k, RParts r b0 b1 b2 k → ¬ S k) : RefIs W1 r b0 b1 b2 R := by
  obtain ⟨c0, c1, c2, hb⟩ := h.box
  exact { h with box := ⟨c0, c1, c2, hk.blkOf hb (hS _ (.inl rfl))⟩, now := h.now.turned hk (hS _ (.inr (.inl rfl))), th := h.th.turned hk (hS _ (.inr (.inr (.inl rfl)))), dirty := hk.blkOf h.dirty (hS _ (.inr (.inr (.inr rfl)))) }
theorem RefIs.below (h : RefIs W r b0 b1 b2 R) (hb : Below W.heap.size W W1) : RefIs W1 r b0 b1 b2 R := h.kept (Kp.of_below hb (fun _ => False)) (fun _ _ hk => hk)
theorem RefIs.drawn (h : RefIs W r b0 b1 b2 R) (hb : Drawn0 W W1) : RefIs W1 r b0 b1 b2 R := h.below hb.below
theorem RefIs.lt_ (h : RefIs W r b0 b1 b2 R) {k : Nat} (hk : RParts r b0 b1 b2 k) : k < W.heap.size := by
  obtain ⟨c0, c1, c2, hb⟩ := h.box
  rcases hk with rfl | rfl | rfl | rfl
  · exact blk_lt hb
  · obtain ⟨_, h1⟩ := h.now; exact blk_lt h1
  · obtain ⟨_, h1⟩ := h.th; exact blk_lt h1
  · exact blk_lt h.dirty
end
theorem info4 : (Try.prog.info? 4).map (fun i => (i.zero, i.size, i.bytes)) = some (some (.bool false), 1, 1) := by kernel_rfl
theorem made4 (n : Nat) : madeCells #[Value.bool false] n = ((List.replicate n false).map Value.bool).toArray := by
  rw [List.map_replicate, ← toList_madeCells_one]
/-- a new disk of the document's -/
def Rk.fresh (n : Nat) : Rk := ⟨List.replicate n (sec 0), List.replicate n (sec 0), List.replicate n false⟩
theorem rows_of_own {w : World} {base g n cap : Nat} {xs : List ByteArray} (h : w.ownsRow base 9 1 (.slice (some ⟨g, 0, none⟩) n cap) n (xs.map Value.string)) : RowS w g xs := by
  rcases h.2 with ⟨h1, _⟩ | ⟨g', cap', cur, h1, _, hg, _, _, _, ht⟩
  · cases h1
  · injection h1 with h1 _ _
    injection h1 with h1
    injection h1 with h1
    subst h1
    refine ⟨cur.toList.drop (n * 1), ?_⟩
    rw [← ht, List.take_append_drop]
    exact hg
theorem own_ne_blk {w : World} {base n : Nat} {v : Value} {xs : List Value} (h : w.ownsRow base 9 1 v n xs) {g : Nat} {cs : Array Value} {t : TypeId} {fr : Nat × Nat} (h2 : w.heap[g]? = some (.cells cs t fr)) (ht : t ≠ 9) : v.ownBlock ≠ some g := by
  rcases h.2 with ⟨rfl, _⟩ | ⟨g', cap', cur, rfl, _, hg, _⟩
  · intro e; cases e
  · intro e
    injection e with e
    simp only at e
    subst e
    rw [hg] at h2
    injection h2 with h2
    injection h2 with _ h2
    exact ht h2.symm

def zrow (n : Nat) : List Value := (List.replicate n (sec 0)).map Value.string
theorem zrow_succ (n : Nat) : zrow n ++ [.string (sec 0)] = zrow (n + 1) := by unfold zrow; rw [List.replicate_succ', List.map_append]; rfl
/-- NewDisk on its way -/
structure NewAt (W w : World) (r n n1 n2 : Nat) (A1 A2 : Option Addr) (c1 c2 : Nat) : Prop where
  box : w.heap[r]? = some (.cells #[.slice A1 n1 c1, .slice A2 n2 c2, .slice (some ⟨W.heap.size, 0, none⟩) n n] 75 (0, 0))
  o1 : w.ownsRow W.heap.size 9 1 (.slice A1 n1 c1) n1 (zrow n1)
  o2 : w.ownsRow W.heap.size 9 1 (.slice A2 n2 c2) n2 (zrow n2)
  dirty : w.heap[W.heap.size]? = some (.cells ((List.replicate n false).map Value.bool).toArray 4 (0, 0))
  bel : Below W.heap.size W w
  ne : ∀ k, (Value.slice A1 n1 c1).ownBlock = some k → (Value.slice A2 n2 c2).ownBlock ≠ some k
  hr : W.heap.size ≤ r
theorem OwnRow0 (w : World) (base : Nat) : w.ownsRow base 9 1 (.slice none 0 0) 0 (zrow 0) := ⟨rfl, .inl ⟨rfl, rfl⟩⟩
theorem own_lt {w : World} {base n : Nat} {v : Value} {xs : List Value} (h : w.ownsRow base 9 1 v n xs) {k : Nat} (hk : v.ownBlock = some k) : k < w.heap.size := by
  rcases h.2 with ⟨rfl, _⟩ | ⟨g', cap', cur, rfl, _, hg, _⟩
  · cases hk
  · injection hk with hk
    subst hk
    exact blk_lt hg
section
variable {W w w1 : World} {r n n1 n2 : Nat} {A1 A2 : Option Addr} {c1 c2 : Nat}
theorem NewAt.below (h : NewAt W w r n n1 n2 A1 A2 c1 c2) (hb : Below w.heap.size w w1) : NewAt W w1 r n n1 n2 A1 A2 c1 c2 :=
  { h with box := blk_below h.box hb, o1 := h.o1.kept (grown_of_below hb none) (by cases hv : (Value.slice A1 n1 c1).ownBlock <;> simp), o2 := h.o2.kept (grown_of_below hb none) (by cases hv : (Value.slice A2 n2 c2).ownBlock <;> simp), dirty := blk_below h.dirty hb, bel := below_step h.bel hb }
theorem NewAt.far1 (h : NewAt W w r n n1 n2 A1 A2 c1 c2) (hg : w.grownBy w1 (Value.slice A1 n1 c1).ownBlock) : w1.heap[r]? = some (.cells #[.slice A1 n1 c1, .slice A2 n2 c2, .slice (some ⟨W.heap.size, 0, none⟩) n n] 75 (0, 0)) :=
  blk_grown h.box hg (fun e => own_ne_blk h.o1 h.box (by decide) e.symm)
theorem NewAt.far2 (h : NewAt W w r n n1 n2 A1 A2 c1 c2) (hg : w.grownBy w1 (Value.slice A2 n2 c2).ownBlock) : w1.heap[r]? = some (.cells #[.slice A1 n1 c1, .slice A2 n2 c2, .slice (some ⟨W.heap.size, 0, none⟩) n n] 75 (0, 0)) :=
  blk_grown h.box hg (fun e => own_ne_blk h.o2 h.box (by decide) e.symm)
theorem own_base {w : World} {base n : Nat} {v : Value} {xs : List Value} (h : w.ownsRow base 9 1 v n xs) {k : Nat} (hk : v.ownBlock = some k) : base ≤ k := by
  rcases h.2 with ⟨rfl, _⟩ | ⟨g', cap', cur, rfl, hb, _⟩
  · cases hk
  · injection hk with hk
    subst hk
    exact hb
theorem grown_below {B : Nat} {w w1 : World} {row : Option Nat} (hg : w.grownBy w1 row) (hB : B ≤ w.heap.size) (hr : ∀ k, row = some k → B ≤ k) : Below B w w1 :=
  ⟨hg.os, hg.tape, hg.output, hg.size, fun k hk => hg.block k (by omega) (fun e => by have := hr k e.symm; omega)⟩
theorem own_setr {w : World} {base m : Nat} {v : Value} {xs : List Value} (h : w.ownsRow base 9 1 v m xs) {g i : Nat} {cs : Array Value} {t : TypeId} {fr : Nat × Nat} (h2 : w.heap[g]? = some (.cells cs t fr)) (ht : t ≠ 9) (u : Value) : (w.setCell ⟨g, i, none⟩ u).ownsRow base 9 1 v m xs :=
  h.kept (setCell_grown w g i u) (.inr (own_ne_blk h h2 ht))
theorem NewAt.app1 (h : NewAt W w r n n1 n2 A1 A2 c1 c2) {A' : Option Addr} {c' : Nat} (hown : w1.ownsRow W.heap.size 9 1 (.slice A' (n1 + 1) c') (n1 + 1) (zrow n1 ++ [.string (sec 0)])) (hg : w.grownBy w1 (Value.slice A1 n1 c1).ownBlock)
    (hb : (Value.slice A' (n1 + 1) c').ownBlock = (Value.slice A1 n1 c1).ownBlock ∨ (Value.slice A' (n1 + 1) c').ownBlock = some w.heap.size) : NewAt W (w1.setCell ⟨r, 0, none⟩ (.slice A' (n1 + 1) c')) r n (n1 + 1) n2 A' A2 c' c2 := by
  have hbox := h.far1 hg
  have hne : ∀ k, (Value.slice A' (n1 + 1) c').ownBlock = some k → (Value.slice A2 n2 c2).ownBlock ≠ some k := by
    intro k hk e
    rcases hb with hb | hb
    · exact h.ne k (hb ▸ hk) e
    · have := own_lt h.o2 e
      rw [hb] at hk
      injection hk with hk
      omega
  have ho2 : w1.ownsRow W.heap.size 9 1 (.slice A2 n2 c2) n2 (zrow n2) := h.o2.kept hg (by
    cases hv : (Value.slice A2 n2 c2).ownBlock with
    | none => exact .inl rfl
    | some k => exact .inr (fun e => h.ne k e.symm hv))
  have hd := blk_grown h.dirty hg (fun e => own_ne_blk h.o1 h.dirty (by decide) e.symm)
  have hrd : W.heap.size ≠ r := by
    rintro rfl
    have := hbox.symm.trans hd
    simp at this
  refine ⟨blk_put hbox 0 _ rfl, ?_, own_setr ho2 hbox (by decide) _, (blk_other hrd).trans hd, ?_, hne, h.hr⟩
  · rw [zrow_succ] at hown
    exact own_setr hown hbox (by decide) _
  · have b1 : Below W.heap.size w w1 := grown_below hg h.bel.size (fun k hk => own_base h.o1 hk)
    exact below_set (h.bel.trans b1) h.hr
theorem NewAt.app2 (h : NewAt W w r n n1 n2 A1 A2 c1 c2) {A' : Option Addr} {c' : Nat} (hown : w1.ownsRow W.heap.size 9 1 (.slice A' (n2 + 1) c') (n2 + 1) (zrow n2 ++ [.string (sec 0)])) (hg : w.grownBy w1 (Value.slice A2 n2 c2).ownBlock)
    (hb : (Value.slice A' (n2 + 1) c').ownBlock = (Value.slice A2 n2 c2).ownBlock ∨ (Value.slice A' (n2 + 1) c').ownBlock = some w.heap.size) : NewAt W (w1.setCell ⟨r, 1, none⟩ (.slice A' (n2 + 1) c')) r n n1 (n2 + 1) A1 A' c1 c' := by
  have hbox := h.far2 hg
  have hne : ∀ k, (Value.slice A1 n1 c1).ownBlock = some k → (Value.slice A' (n2 + 1) c').ownBlock ≠ some k := by
    intro k hk e
    rcases hb with hb | hb
    · exact h.ne k hk (hb ▸ e)
    · have := own_lt h.o1 hk
      rw [hb] at e
      injection e with e
      omega
  have ho1 : w1.ownsRow W.heap.size 9 1 (.slice A1 n1 c1) n1 (zrow n1) := h.o1.kept hg (by
    cases hv : (Value.slice A1 n1 c1).ownBlock with
    | none => exact .inl rfl
    | some k => exact .inr (fun e => h.ne k hv e.symm))
  have hd := blk_grown h.dirty hg (fun e => own_ne_blk h.o2 h.dirty (by decide) e.symm)
  have hrd : W.heap.size ≠ r := by
    rintro rfl
    have := hbox.symm.trans hd
    simp at this
  refine ⟨blk_put hbox 1 _ rfl, own_setr ho1 hbox (by decide) _, ?_, (blk_other hrd).trans hd, ?_, hne, h.hr⟩
  · rw [zrow_succ] at hown
    exact own_setr hown hbox (by decide) _
  · have b1 : Below W.heap.size w w1 := grown_below hg h.bel.size (fun k hk => own_base h.o2 hk)
    exact below_set (h.bel.trans b1) h.hr
end

set_option maxHeartbeats 4000000 in
set_option maxRecDepth 100000 in
theorem rnew_none (W : World) (n : Int) (h : ¬ (1 ≤ n ∧ n ≤ 1024)) :
    Calls Try.prog 14 #[.int .i64 n] W fun e W' => e = .returned (.tuple #[.pointer none, .int .i64 800]) ∧ Drawn0 W W' := by
  by_cases h1 : n < 1
  · go_enter Try.func14, Try.ntmps14
    go_wp2
    go_ret2
    exact ⟨rfl, Drawn0.refl _⟩
  · have h2 : 1024 < n := by omega
    go_enter Try.func14, Try.ntmps14
    go_wp2
    go_ret2
    exact ⟨rfl, Drawn0.refl _⟩
set_option maxHeartbeats 4000000 in
set_option maxRecDepth 100000 in
theorem rnew_calls (W : World) (n : Nat) (h1 : 1 ≤ n) (h2 : n ≤ 1024) :
    Calls Try.prog 14 #[.int .i64 n] W fun e W' => ∃ r b0 b1 b2, e = .returned (.tuple #[.pointer (some ⟨r, 0, none⟩), .int .i64 0]) ∧ RefIs W' r b0 b1 b2 (Rk.fresh n) ∧ Below W.heap.size W W' ∧ ∀ k, RParts r b0 b1 b2 k → W.heap.size ≤ k := by
  obtain ⟨i9, hi9, hz9, hs9, hb9⟩ := info_parts info9
  obtain ⟨i4, hi4, hz4, hs4, hb4⟩ := info_parts info4
  go_enter Try.func14, Try.ntmps14
  go_upto_region 5 with (first
    | (at_make; (with_reducible refine gate_dst (N := 14) rfl ?_); refine wpList_make_row _ rfl _ _ 73 rfl 4 i4 (.bool false) Try.underlying73 hi4 hz4 hs4 rfl .i64 .i64 n rfl rfl (by rw [hb4]; omega) (by omega) ?_; rw [made4]; have HG1 : (W.alloc (.cells ((List.replicate n false).map Value.bool).toArray 4)).heap[W.heap.size]? = some (.cells ((List.replicate n false).map Value.bool).toArray 4 (0, 0)) := heap_alloc_new W _; have HB1 : Below W.heap.size W (W.alloc (.cells ((List.replicate n false).map Value.bool).toArray 4)) := below_alloc (Below.refl _ _) _; generalize (W.alloc (.cells ((List.replicate n false).map Value.bool).toArray 4)) = w1 at HG1 HB1 ⊢; have HG := Aside0.mk HG1; have HB := Aside0.mk HB1; have HB0 := Aside0.mk HB1; clear HG1 HB1)
    | ((with_reducible refine gate_dst (N := 16) rfl ?_); refine box_event ?hg (N := 16) ?hd (cs := #[.slice none 0 0, .slice none 0 0, .slice (some ⟨W.heap.size, 0, none⟩) n n]) (t := 75) ?hr ?_; (case hd => rfl); (case hg => rfl); (case hr => first | (go_simp; done) | (go_simp; rfl)); intro r hr w4 hbox hb; have HX := Aside0.mk hbox; have HR := Aside0.mk hr; have HG := Aside0.mk (blk_below HG.out hb); replace HB := Aside0.mk (below_step HB.out hb); clear hr hbox hb)
    | ((with_reducible refine gate_dst (N := 17) rfl ?_); refine Kd.R_make (Kd.int .u8) _ 5 rfl (N := 17) rfl 31 _ _ rfl 64 rfl rfl Try.underlying31 (.int .u8 0) 1 X.info5 rfl (by decide) (by omega) 0 (ok := fun _ => True) (okp := fun _ => True) rfl (fun _ hk => hk) trivial (by omega) (by omega) (Below.refl _ _) (Nat.le_refl _) ?_; intro v1 w5 ho hb hg_ hnew_; clear hg_ hnew_; simp only [Int.reduceToNat] at ho; have hcv := own_string (P := Try.prog) Try.underlying31 Try.underlying5 Try.underlying9 (Kd.own_of_R ho); rw [sec0] at hcv; have HX := Aside0.mk (blk_below HX.out hb); have HG := Aside0.mk (blk_below HG.out hb); replace HB := Aside0.mk (below_step HB.out hb); clear hb ho))
  have HN := Aside0.mk (show NewAt W w5 r n 0 0 none none 0 0 from ⟨HX.out, OwnRow0 w5 _, OwnRow0 w5 _, HG.out, HB.out, fun k hk => (by cases hk), by have := HR.out; have := HB0.out.size; omega⟩)
  clear HX HG HB HB0 HR hcv
  go_wp2_with fail
  go_loopw [6] (fun v wr => ∃ (i : Nat) (A1 A2 : Option Addr) (c1 c2 : Nat), v = .int .i64 i ∧ Aside0 (i ≤ n) ∧ Aside0 (NewAt W wr r n i i A1 A2 c1 c2)) (fun v _ => n - (intOf v).toNat)
  case atStart => exact ⟨0, none, none, 0, 0, rfl, ⟨by omega⟩, HN⟩
  case round =>
    clear HN
    obtain ⟨i, A1, A2, c1, c2, rfl, HI, HN⟩ := hrel
    by_cases hi : i < n
    · have q0 : wr.cell? ⟨r, 0, none⟩ = some (.slice A1 i c1) := (blk_cell HN.out.box 0).trans rfl
      have HN2 := Aside0.mk (HN.out.below (below_alloc (Below.refl _ _) (.cells #[.string (sec 0)] 9)))
      have HZ : Aside0 ((wr.alloc (.cells #[.string (sec 0)] 9)).cell? ((⟨wr.heap.size, 0, none⟩ : Addr).add 0) = some (.string (sec 0))) := ⟨(blk_cell (heap_alloc_new wr _) 0).trans rfl⟩
      go_upto_region 9 with (first
        | ((with_reducible refine gate_dst (N := 31) rfl ?_); go_loud (refine wpList_append_own_at _ rfl _ _ 57 rfl W.heap.size 9 i9 (.string ByteArray.empty) 1 16 Try.underlying57 hi9 hz9 hs9 hb9 rfl (by decide) (.slice A1 i c1) i _ rfl HN2.out.o1 ⟨wr.heap.size, 0, none⟩ 1 1 [.string (sec 0)] rfl rfl (fun j u hj => by cases j with | zero => (injection hj with hj; subst hj; exact HZ.out) | succ j => exact absurd hj (by simp)) (fun u hu => by rw [List.mem_singleton.1 hu]; rfl) (by unfold maxLen; omega) (by omega) HN2.out.bel.size ?_; intro v' w' hown hgrow hnil hblk; obtain ⟨A', c', hv⟩ := row_slice hown; subst hv; have d0 := blk_cell (HN2.out.far1 hgrow) 0; have d1 := blk_frozen (HN2.out.far1 hgrow) 0; have HN3 := Aside0.mk (HN2.out.app1 hown hgrow hblk); clear hown hgrow hnil hblk)))
      clear d0 d1 HN2 HZ q0 HN
      generalize w'.setCell ⟨r, 0, none⟩ (.slice A' (i + 1) c') = w8 at HN3 ⊢
      have q0 : w8.cell? ⟨r, 1, none⟩ = some (.slice A2 i c2) := (blk_cell HN3.out.box 1).trans rfl
      have HN2 := Aside0.mk (HN3.out.below (below_alloc (Below.refl _ _) (.cells #[.string (sec 0)] 9)))
      have HZ : Aside0 ((w8.alloc (.cells #[.string (sec 0)] 9)).cell? ((⟨w8.heap.size, 0, none⟩ : Addr).add 0) = some (.string (sec 0))) := ⟨(blk_cell (heap_alloc_new w8 _) 0).trans rfl⟩
      clear HN3
      go_wp2_with (first
        | ((with_reducible refine gate_dst (N := 41) rfl ?_); refine wpList_append_own_at _ rfl _ _ 57 rfl W.heap.size 9 i9 (.string ByteArray.empty) 1 16 Try.underlying57 hi9 hz9 hs9 hb9 rfl (by decide) (.slice A2 i c2) i _ rfl HN2.out.o2 ⟨w8.heap.size, 0, none⟩ 1 1 [.string (sec 0)] rfl rfl (fun j u hj => by cases j with | zero => (injection hj with hj; subst hj; exact HZ.out) | succ j => exact absurd hj (by simp)) (fun u hu => by rw [List.mem_singleton.1 hu]; rfl) (by unfold maxLen; omega) (by omega) HN2.out.bel.size ?_; intro v' w' hown hgrow hnil hblk; obtain ⟨A', c', hv⟩ := row_slice hown; subst hv; have d0 := blk_cell (HN2.out.far2 hgrow) 1; have d1 := blk_frozen (HN2.out.far2 hgrow) 1; have HN3 := Aside0.mk (HN2.out.app2 hown hgrow hblk); clear hown hgrow hnil hblk))
      exact ⟨⟨i + 1, _, _, _, _, congrArg (Value.int .i64) (by omega), ⟨by omega⟩, HN3⟩, by simp [intOf]; omega⟩
    · obtain rfl : i = n := by have := HI.out; omega
      go_wp2
      go_ret2
      obtain ⟨b0, k0, e0, _, _⟩ := HN.out.o1.form (by omega)
      obtain ⟨b1, k1, e1, _, _⟩ := HN.out.o2.form (by omega)
      injection e0 with e0 _ _
      injection e1 with e1 _ _
      subst e0 e1
      have hb0 := own_base HN.out.o1 rfl
      have hb1 := own_base HN.out.o2 rfl
      refine ⟨r, b0, b1, W.heap.size, rfl, ⟨⟨c1, c2, i, by simpa [Rk.fresh] using HN.out.box⟩, rows_of_own HN.out.o1, rows_of_own HN.out.o2, by simpa [Rk.fresh, ArrB] using HN.out.dirty, fun e => HN.out.ne b0 rfl (by rw [e]; rfl), by simp [Rk.fresh], by simp [Rk.fresh], by simp [Rk.fresh]; omega, by simpa [Rk.fresh] using h2⟩, HN.out.bel, fun k hk => ?_⟩
      have hr := HN.out.hr
      simp only at hb0 hb1
      rcases hk with rfl | rfl | rfl | rfl
      · exact hr
      · exact hb0
      · exact hb1
      · exact Nat.le_refl _
end Go.Proofs.Ytgdalpjglmlmkaa.D
