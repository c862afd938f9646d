/-
  furlongref1.Of, the walk: it marks the box's cells in a row of 4096, then lays the marked ones as ranges.
-/
import Derived.Test.YtngcljnhcbbdmaaPRefC
import Derived.Test.YtngcljnhcbbdmaaGEndsW
namespace Go.Proofs.Ytngcljnhcbbdmaa.C
open Go.RowKit Go.Proofs.YtngcljnhcbbdmaaW.PrintWords Go.Proofs.YtngcljnhcbbdmaaW.PrintLast Go.Proofs.YtngcljnhcbbdmaaW.PrintMore
set_option linter.unusedVariables false
set_option linter.unusedSimpArgs false

/-! ### plain -/
def outOf (S : Nat → Bool) (n : Nat) : List S41 := addAll [] (((List.range n).filter S).map Int.ofNat)
theorem addAll_snoc (cs : List Int) (c : Int) : ∀ acc, addAll acc (cs ++ [c]) = addR (addAll acc cs) (c * 1048576) ((c + 1) * 1048576) := by
  induction cs with
  | nil => intro acc; rfl
  | cons x cs ih => intro acc; exact ih _
theorem outOf_not {S : Nat → Bool} {i : Nat} (h : S i = false) : outOf S (i + 1) = outOf S i := by
  unfold outOf
  rw [List.range_succ, List.filter_append]
  simp [h]
theorem outOf_put {S : Nat → Bool} {i : Nat} (h : S i = true) : outOf S (i + 1) = addR (outOf S i) ((i : Int) * 1048576) (((i : Int) + 1) * 1048576) := by
  unfold outOf
  rw [List.range_succ, List.filter_append]
  have e : List.filter S [i] = [i] := by simp [h]
  rw [e, List.map_append, List.map_cons, List.map_nil, addAll_snoc]
  rfl
theorem addR_last (l : List S41) (f t : Int) : ∃ m r, addR l f t = m ++ [r] ∧ r.f1 = t := by
  rcases snoc_cases l with rfl | ⟨m, r, rfl⟩
  · exact ⟨[], _, addR_nil f t, rfl⟩
  · rw [addR_snoc]
    split
    · exact ⟨m, _, rfl, rfl⟩
    · exact ⟨_, _, rfl, rfl⟩
theorem mem_addR {l : List S41} {f t : Int} {q : S41} (h : q ∈ addR l f t) : q ∈ l ∨ q.f1 = t := by
  rcases snoc_cases l with rfl | ⟨m, r, rfl⟩
  · rw [addR_nil, List.mem_singleton] at h
    exact .inr (by rw [h])
  · rw [addR_snoc] at h
    split at h
    · rcases List.mem_append.1 h with h | h
      · exact .inl (List.mem_append_left _ h)
      · exact .inr (by rw [List.mem_singleton.1 h])
    · rcases List.mem_append.1 h with h | h
      · exact .inl h
      · exact .inr (by rw [List.mem_singleton.1 h])
theorem addR_apart {l : List S41} {f t : Int} (h : ∀ r ∈ l, r.f1 ≠ f) : addR l f t = l ++ [⟨f, t⟩] := by
  rcases snoc_cases l with rfl | ⟨m, r, rfl⟩
  · rfl
  · rw [addR_snoc, if_neg (h r (by simp))]
theorem addR_at (m : List S41) (r : S41) (t : Int) : addR (m ++ [r]) r.f1 t = m ++ [⟨r.f0, t⟩] := by rw [addR_snoc, if_pos rfl]
theorem outOf_upto (S : Nat → Bool) (n : Nat) : ∀ r ∈ outOf S n, r.f1 ≤ (n : Int) * 1048576 := by
  induction n with
  | zero => intro r hr; simp [outOf, addAll] at hr
  | succ n ih =>
    intro r hr
    cases h : S n with
    | false => rw [outOf_not h] at hr; have := ih r hr; omega
    | true =>
      rw [outOf_put h] at hr
      rcases mem_addR hr with hr | hr
      · have := ih r hr; omega
      · rw [hr]; omega
theorem outOf_len (S : Nat → Bool) (n : Nat) : (outOf S n).length ≤ n := by
  induction n with
  | zero => simp [outOf, addAll]
  | succ n ih =>
    cases h : S n with
    | false => rw [outOf_not h]; omega
    | true => rw [outOf_put h]; have := addR_len (outOf S n) ((n : Int) * 1048576) (((n : Int) + 1) * 1048576); omega
/-- the cell before is marked: the last range grows -/
theorem outOf_grow {S : Nat → Bool} {i : Nat} (h0 : 0 < i) (h1 : S (i - 1) = true) (h : S i = true) : ∃ m r, outOf S i = m ++ [r] ∧ outOf S (i + 1) = m ++ [⟨r.f0, ((i : Int) + 1) * 1048576⟩] := by
  obtain ⟨j, rfl⟩ : ∃ j, i = j + 1 := ⟨i - 1, by omega⟩
  have e := outOf_put (S := S) (i := j) (by simpa using h1)
  obtain ⟨m, r, e2, e3⟩ := addR_last (outOf S j) ((j : Int) * 1048576) (((j : Int) + 1) * 1048576)
  refine ⟨m, r, e.trans e2, ?_⟩
  rw [outOf_put h, e.trans e2]
  have e4 : (((j + 1 : Nat) : Int)) * 1048576 = r.f1 := by rw [e3]; simp
  rw [e4, addR_at]
theorem outOf_lay {S : Nat → Bool} {i : Nat} (h0 : i = 0 ∨ S (i - 1) = false) (h : S i = true) : outOf S (i + 1) = outOf S i ++ [⟨(i : Int) * 1048576, ((i : Int) + 1) * 1048576⟩] := by
  rw [outOf_put h, addR_apart]
  rcases h0 with rfl | h0
  · intro r hr; simp [outOf, addAll] at hr
  · rcases Nat.eq_zero_or_pos i with rfl | hp
    · intro r hr; simp [outOf, addAll] at hr
    · obtain ⟨j, rfl⟩ : ∃ j, i = j + 1 := ⟨i - 1, by omega⟩
      rw [outOf_not (by simpa using h0)]
      intro r hr
      have := outOf_upto S j r hr
      simp
      omega

/-! ### the walk -/
def MetIs (wr : World) (gm : Nat) (S : Nat → Bool) : Prop := ∃ cs : Array Value, wr.heap[gm]? = some (.cells cs 50 (0, 0)) ∧ cs.size = 4096 ∧ ∀ c, c < 4096 → cs[c]? = some (.bool (S c))
set_option maxRecDepth 100000 in
theorem met_zero : Try.zeroCells50 = Array.replicate 4096 (.bool false) := by kernel_rfl
theorem MetIs.start (w : World) : MetIs (w.alloc (.cells Try.zeroCells50 50)) w.heap.size (fun _ => false) :=
  ⟨Try.zeroCells50, blk_new _ _, by rw [met_zero]; simp, fun c hc => by rw [met_zero]; simp [hc]⟩
theorem MetIs.cell {wr : World} {gm : Nat} {S : Nat → Bool} (h : MetIs wr gm S) (c : Nat) (hc : c < 4096) : wr.cell? ⟨gm, c, none⟩ = some (.bool (S c)) := by
  obtain ⟨cs, h1, h2, h3⟩ := h
  simp [World.cell?, h1, h3 c hc]
theorem MetIs.frozen {wr : World} {gm : Nat} {S : Nat → Bool} (h : MetIs wr gm S) (c : Nat) : wr.frozen? ⟨gm, c, none⟩ = false := by
  obtain ⟨cs, h1, h2, h3⟩ := h
  simp [World.frozen?, h1]
theorem MetIs.mark {wr : World} {gm : Nat} {S : Nat → Bool} (h : MetIs wr gm S) (c : Nat) : MetIs (wr.setCell ⟨gm, c, none⟩ (.bool true)) gm (fun j => j == c || S j) := by
  obtain ⟨cs, h1, h2, h3⟩ := h
  refine ⟨cs.setIfInBounds c (.bool true), ?_, by simp [h2], fun j hj => ?_⟩
  · simp [World.setCell, Array.getElem?_modify, h1]
  · by_cases hjc : j = c
    · subst hjc
      simp [h2, hj]
    · rw [Array.getElem?_setIfInBounds_ne (by omega), h3 j hj]
      simp [hjc]
theorem MetIs.below {wr w1 : World} {gm : Nat} {S : Nat → Bool} (h : MetIs wr gm S) (hb : Below wr.heap.size wr w1) : MetIs w1 gm S := by
  obtain ⟨cs, h1, h2, h3⟩ := h
  exact ⟨cs, blk_below h1 hb, h2, h3⟩
theorem MetIs.grown {wr w1 : World} {gm : Nat} {S : Nat → Bool} {row : Option Nat} (h : MetIs wr gm S) (hg : wr.grownBy w1 row) (hne : some gm ≠ row) : MetIs w1 gm S := by
  obtain ⟨cs, h1, h2, h3⟩ := h
  exact ⟨cs, blk_grown h1 hg hne, h2, h3⟩
theorem MetIs.alloc {wr : World} {gm : Nat} {S : Nat → Bool} (h : MetIs wr gm S) (o : Obj) : MetIs (wr.alloc o) gm S := by
  obtain ⟨cs, h1, h2, h3⟩ := h
  exact ⟨cs, blk_alloc h1 o, h2, h3⟩
theorem MetIs.lt {wr : World} {gm : Nat} {S : Nat → Bool} (h : MetIs wr gm S) : gm < wr.heap.size := by
  obtain ⟨cs, h1, h2, h3⟩ := h
  exact blk_lt h1
theorem col_grow {x Y0 y : Nat} (h : Y0 ≤ y) (c : Nat) : c ∈ col x Y0 (y + 1 - Y0) ↔ c ∈ col x Y0 (y - Y0) ∨ c = cellN x y := by
  rw [mem_col, mem_col]
  constructor
  · rintro ⟨j, h1, h2, h3⟩
    by_cases hj : j = y
    · subst hj; exact .inr h3
    · exact .inl ⟨j, h1, by omega, h3⟩
  · rintro (⟨j, h1, h2, h3⟩ | h3)
    · exact ⟨j, h1, by omega, h3⟩
    · exact ⟨y, h, by omega, h3⟩
theorem grid_grow {Y0 ny X0 x : Nat} (h : X0 ≤ x) (c : Nat) : c ∈ grid Y0 ny X0 (x + 1 - X0) ↔ c ∈ grid Y0 ny X0 (x - X0) ∨ c ∈ col x Y0 ny := by
  rw [mem_grid, mem_grid, mem_col]
  constructor
  · rintro ⟨i, j, h1, h2, h3⟩
    by_cases hi : i = x
    · subst hi; exact .inr ⟨j, h3⟩
    · exact .inl ⟨i, j, h1, by omega, h3⟩
  · rintro (⟨i, j, h1, h2, h3⟩ | ⟨j, h3⟩)
    · exact ⟨i, j, h1, by omega, h3⟩
    · exact ⟨x, j, h, by omega, h3⟩
theorem R41_of_own {w : World} {B : Nat} {v : Value} {l : List S41} {n : Nat} (hn : n = l.length) (h : w.ownsRow B 41 2 v n (l.flatMap enc41)) : Kd.R k41 41 w B (fun _ => True) v l := by
  subst hn
  refine ⟨fun _ _ => trivial, l.flatMap enc41, h, ?_, fun j p hj => ?_⟩
  · rw [flatMap_len (k := 2) (fun _ => rfl)]
    rfl
  · have : ((l.flatMap enc41).drop (j * 2)).take 2 = enc41 p := by
      clear h
      induction l generalizing j with
      | nil => simp at hj
      | cons x l ih =>
        cases j with
        | zero => simp at hj; subst hj; simp [enc41]
        | succ j =>
          have h2 := ih j (by simpa using hj)
          rw [List.flatMap_cons, Nat.add_mul, Nat.one_mul, Nat.add_comm, ← List.drop_drop, List.drop_left' (by simp [enc41])]
          exact h2
    show k41.M w B _ p (((l.flatMap enc41).drop (j * 2)).take 2)
    rw [this]
    exact k41_mkM _ _ _ _
theorem flat41_snoc (m : List S41) (r : S41) : (m ++ [r]).flatMap enc41 = m.flatMap enc41 ++ [.int .i64 r.f0, .int .i64 r.f1] := by rw [List.flatMap_append]; rfl
theorem flat41_set (m : List S41) (r : S41) (t : Int) : ((m ++ [r]).flatMap enc41).set (m.length * 2 + 1) (.int .i64 t) = (m ++ [(⟨r.f0, t⟩ : S41)]).flatMap enc41 := by
  rw [flat41_snoc, flat41_snoc, List.set_append_right _ _ (by rw [flatMap_len (k := 2) (fun _ => rfl)]; omega), flatMap_len (k := 2) (fun _ => rfl)]
  have e : m.length * 2 + 1 - m.length * 2 = 1 := by omega
  rw [e, List.set_cons_succ, List.set_cons_zero]
theorem two_cells (w : World) (e : TypeId) {x y x' y' : Value} (hx : x' = x) (hy : y' = y) : ∀ (j : Nat) (u : Value), [x, y][j]? = some u → (w.alloc (.cells #[x', y'] e)).cell? ((⟨w.heap.size, 0, none⟩ : Addr).add j) = some u := by
  subst hx
  subst hy
  intro j u hj
  have hb := blk_cell (blk_new w (.cells #[x', y'] e)) j
  have ha : (⟨w.heap.size, 0, none⟩ : Addr).add j = ⟨w.heap.size, j, none⟩ := by simp [Addr.add]; intro h; exact h.symm
  rw [ha, hb]
  simpa using hj
theorem own_low {w : World} {base base' : Nat} {e : TypeId} {size : Nat} {v : Value} {n : Nat} {xs : List Value} (h : w.ownsRow base e size v n xs) (hb : base' ≤ base) : w.ownsRow base' e size v n xs :=
  ⟨h.1, h.2.imp id fun ⟨g, cap, cur, h1, h2, h3⟩ => ⟨g, cap, cur, h1, Nat.le_trans hb h2, h3⟩⟩

set_option maxHeartbeats 4000000 in
set_option maxRecDepth 100000 in
theorem ref_walk (a b c d : Int) (w : World) (h : boxMay a b c d) :
    Calls Try.prog 9 #[.agg #[.int .i64 a, .int .i64 b, .int .i64 c, .int .i64 d]] w fun e w' => ∃ v0_ : Value, e = .returned (.tuple #[v0_, .int .i64 0]) ∧ Kd.R k41 41 w' w.heap.size (fun _ => True) v0_ (outOf (fun c_ => decide (c_ ∈ boxCells a b c d)) 4096) ∧ Below w.heap.size w w' := by
  have hmay := ref_boxMay (a := a) (b := b) (c := c) (d := d)
  unfold boxMay at h
  rw [decide_eq_true h] at hmay
  obtain ⟨i0, hi, hz0, hz1, hz2⟩ := info_parts info41
  go_enter Try.func9, Try.ntmps9
  go_upto_region 3 with (first
    | ((with_reducible refine gate_dst (N := 1) rfl ?_); refine box_event ?hg (N := 1) ?hd (cs := #[.int .i64 a, .int .i64 b, .int .i64 c, .int .i64 d]) (t := 23) ?hr ?_; (case hd => rfl); (case hg => rfl); (case hr => first | (go_simp; done) | (go_simp; rfl)); intro gb hg w4 hbox hb; have hcz5_0 : w4.cell? ⟨gb, 0, none⟩ = some (.int .i64 a) := (blk_cell hbox 0).trans rfl; have hcz5_1 : w4.cell? ⟨gb, 1, none⟩ = some (.int .i64 b) := (blk_cell hbox 1).trans rfl; have hcz5_2 : w4.cell? ⟨gb, 2, none⟩ = some (.int .i64 c) := (blk_cell hbox 2).trans rfl; have hcz5_3 : w4.cell? ⟨gb, 3, none⟩ = some (.int .i64 d) := (blk_cell hbox 3).trans rfl; have HG := Aside0.mk hg; have HX := Aside0.mk hbox; have HB4 := Aside0.mk hb; clear hg hbox hb)
    | ((with_reducible refine gate_callee (f := 27) rfl ?_); refine goesL_ (some 14) rfl rfl Try.func27 (by kernel_rfl) rfl #[.agg #[.int .i64 a, .int .i64 b, .int .i64 c, .int .i64 d]] rfl (by (try simp only [List.map_toArray, List.map_cons, List.map_nil]); first | done | rfl | (simp only [List.length_drop, List.length_take]; rfl)) ?_; (with_reducible refine (furlongref1_BoxMay.calls a b c d true _ hmay).mono ?_); rintro e w6 ⟨rfl, hb6⟩; refine ⟨_, rfl, ?_⟩; have HX6 := Aside0.mk (blk_below (g := gb) (o := .cells #[.int .i64 a, .int .i64 b, .int .i64 c, .int .i64 d] 23 (0, 0)) (by (with_reducible repeat (first | refine blk_drewN ?_ _ | refine blk_drew ?_ | refine blk_alloc ?_ _)); exact HX.out) hb6); have HB6 := Aside0.mk (below_step (by repeat (first | (with_reducible first | exact HB4.out | apply below_alloc | apply pw_below_drewN | apply below_drew1) | exact HB4.out)) hb6); clear HX HB4 hb6 hcz5_0 hcz5_1 hcz5_2 hcz5_3))
  go_cut [4] (fun v wc => ∃ gm : Nat, v = .pointer (some ⟨gm, 0, none⟩) ∧ Aside0 (gb < gm) ∧ Aside0 (gm < wc.heap.size) ∧ Aside0 (MetIs wc gm (fun _ => false)) ∧ Aside0 (wc.heap[gb]? = some (.cells #[.int .i64 a, .int .i64 b, .int .i64 c, .int .i64 d] 23 (0, 0))) ∧ Aside0 (Below w.heap.size w wc))
  case first =>
    go_wp2
    go_meet
    case rel => exact ⟨_, rfl, ⟨(blk_lt HX6.out)⟩, ⟨blk_lt (blk_new _ _)⟩, ⟨MetIs.start _⟩, ⟨blk_alloc HX6.out _⟩, ⟨below_alloc HB6.out _⟩⟩
  case rest =>
    obtain ⟨gm, rfl, HGM, HGS, HM, HX, HB⟩ := hcut
    clear HX6 HB6 hmay
    have hfacts : ∀ z : Int, 0 ≤ z → z ≤ 4294967295 → IntKind.i64.wrap (Int.tdiv z 67108864) = ((z / 67108864).toNat : Int) ∧ (z / 67108864).toNat < 64 := by
      intro z h0 h1
      rw [Int.tdiv_eq_ediv_of_nonneg h0, IntKind.wrap_i64]
      omega
    have ha := hfacts a (by omega) (by omega)
    have hb := hfacts b (by omega) (by omega)
    have hc := hfacts c (by omega) (by omega)
    have hd := hfacts d (by omega) (by omega)
    have hord : (a / 67108864).toNat ≤ (c / 67108864).toNat ∧ (b / 67108864).toNat ≤ (d / 67108864).toNat := by omega
    clear hfacts
    generalize hX0 : (a / 67108864).toNat = X0 at *
    generalize hY0 : (b / 67108864).toNat = Y0 at *
    generalize hX1 : (c / 67108864).toNat = X1 at *
    generalize hY1 : (d / 67108864).toNat = Y1 at *
    obtain ⟨ea, la⟩ := ha
    obtain ⟨eb, lb⟩ := hb
    obtain ⟨ec, lc⟩ := hc
    obtain ⟨ed, ld⟩ := hd
    have hcz_0 : wc.cell? ⟨gb, 0, none⟩ = some (.int .i64 a) := (blk_cell HX.out 0).trans rfl
    go_wp2
    clear hcz_0
    go_loopw [6] (fun v wr => ∃ (x : Nat) (S : Nat → Bool), v = .int .i64 x ∧ Aside0 (X0 ≤ x ∧ x ≤ X1 + 1) ∧ Aside0 (∀ c, S c = true ↔ c ∈ grid Y0 (Y1 + 1 - Y0) X0 (x - X0)) ∧ Aside0 (MetIs wr gm S) ∧ Aside0 (wr.heap[gb]? = some (.cells #[.int .i64 a, .int .i64 b, .int .i64 c, .int .i64 d] 23 (0, 0))) ∧ Aside0 (Below w.heap.size w wr)) (fun v _ => X1 + 1 - (intOf v).toNat)
    case atStart => exact ⟨X0, _, rfl, ⟨by omega⟩, ⟨fun c => by simp [grid]⟩, HM, HX, HB⟩
    case round =>
      clear HM HX HB HGS
      obtain ⟨x, S, rfl, Hx, HS, HM, HX, HB⟩ := hrel
      have hcz_0 : wr.cell? ⟨gb, 0, none⟩ = some (.int .i64 a) := (blk_cell HX.out 0).trans rfl
      have hcz_1 : wr.cell? ⟨gb, 1, none⟩ = some (.int .i64 b) := (blk_cell HX.out 1).trans rfl
      have hcz_2 : wr.cell? ⟨gb, 2, none⟩ = some (.int .i64 c) := (blk_cell HX.out 2).trans rfl
      have hcz_3 : wr.cell? ⟨gb, 3, none⟩ = some (.int .i64 d) := (blk_cell HX.out 3).trans rfl
      by_cases hlt : x ≤ X1
      · obtain ⟨wo, hwo⟩ : ∃ wo : World, wo = wr := ⟨_, rfl⟩
        go_wp2
        clear hcz_0 hcz_1 hcz_2 hcz_3
        go_loopw [7] (fun v wr => ∃ (y : Nat) (S : Nat → Bool), v = .int .i64 y ∧ Aside0 (Y0 ≤ y ∧ y ≤ Y1 + 1) ∧ Aside0 (∀ c, S c = true ↔ c ∈ grid Y0 (Y1 + 1 - Y0) X0 (x - X0) ∨ c ∈ col x Y0 (y - Y0)) ∧ Aside0 (MetIs wr gm S) ∧ Aside0 (wr.heap[gb]? = some (.cells #[.int .i64 a, .int .i64 b, .int .i64 c, .int .i64 d] 23 (0, 0))) ∧ Aside0 (Below w.heap.size w wr)) (fun v _ => Y1 + 1 - (intOf v).toNat)
        case atStart => exact ⟨Y0, S, rfl, ⟨by omega⟩, ⟨fun c => by rw [HS.out c]; simp [col]⟩, HM, HX, HB⟩
        case round =>
          clear HM HX HB hwo wo HS S
          obtain ⟨y, S, rfl, Hy, HS, HM, HX, HB⟩ := hrel
          have hcz_0 : wr.cell? ⟨gb, 0, none⟩ = some (.int .i64 a) := (blk_cell HX.out 0).trans rfl
          have hcz_1 : wr.cell? ⟨gb, 1, none⟩ = some (.int .i64 b) := (blk_cell HX.out 1).trans rfl
          have hcz_2 : wr.cell? ⟨gb, 2, none⟩ = some (.int .i64 c) := (blk_cell HX.out 2).trans rfl
          have hcz_3 : wr.cell? ⟨gb, 3, none⟩ = some (.int .i64 d) := (blk_cell HX.out 3).trans rfl
          by_cases hly : y ≤ Y1
          · obtain ⟨k, hk⟩ := (ref_cell (x := x) (y := y) (by omega) (by omega)).at
            have hq := (cell_facts (x := x) (y := y) (by omega) (by omega)).1
            have HQ := Aside0.mk (show ∃ q, q = cellN x y from ⟨_, rfl⟩)
            obtain ⟨q, hqe⟩ := HQ.out
            rw [← hqe] at hk hq
            have HQE := Aside0.mk hqe
            clear hqe HQ
            have hmc := HM.out.cell q hq
            have hmf := HM.out.frozen q
            go_wp2_with (go_at_call 28; (with_reducible refine (furlongref1_Cell.calls k x y 6 q 0 _ hk).mono ?_); rintro e w' ⟨rfl, ⟨nd, rfl⟩⟩)
            go_roundw
            case rel => exact ⟨y + 1, _, by go_num, ⟨by have := Hy.out; omega⟩, ⟨fun c => by
                have h1 := HS.out c
                have h2 := col_grow (x := x) Hy.out.1 c
                rw [h2, ← HQE.out]
                simp only [Bool.or_eq_true, beq_iff_eq, h1]
                constructor
                · rintro (e | e | e)
                  · exact .inr (.inr e)
                  · exact .inl e
                  · exact .inr (.inl e)
                · rintro (e | e | e)
                  · exact .inr (.inl e)
                  · exact .inr (.inr e)
                  · exact .inl e⟩, ⟨MetIs.mark (wr := wr.drewN nd) HM.out q⟩, ⟨blk_far (blk_drewN HX.out nd) (Nat.ne_of_lt HGM.out) _⟩, ⟨below_set (pw_below_drewN HB.out nd) (by have := HG.out; have := HGM.out; omega)⟩⟩
            case measure => simp [intOf]; omega
          · obtain rfl : y = Y1 + 1 := by have := Hy.out; omega
            go_wp2
            go_roundw
            case rel => exact ⟨x + 1, S, by go_num, ⟨by have := Hx.out; omega⟩, ⟨fun c => by rw [HS.out c, grid_grow Hx.out.1]⟩, HM, HX, HB⟩
            case measure => simp [intOf]; omega
      · obtain rfl : x = X1 + 1 := by have := Hx.out; omega
        go_wp2
        clear hcz_0 hcz_1 hcz_2 hcz_3
        have HGS := Aside0.mk (show gm < wr.heap.size from by obtain ⟨cs, h1, _⟩ := HM.out; exact blk_lt h1)
        go_loopw [10, 12] (fun v10 v12 wr => ∃ i : Nat, v12 = .int .i64 i ∧ Aside0 (i ≤ 4096) ∧ Aside0 (wr.ownsRow (gm + 1) 41 2 v10 (outOf S i).length ((outOf S i).flatMap enc41)) ∧ Aside0 (MetIs wr gm S) ∧ Aside0 (Below w.heap.size w wr) ∧ Aside0 (gm < wr.heap.size)) (fun _ v12 _ => 4096 - (intOf v12).toNat)
        case atStart => exact ⟨0, rfl, ⟨by omega⟩, ⟨World.ownsRow_nil _ _ _ _⟩, HM, HB, HGS⟩
        case round =>
          clear HM HX HB HGS
          obtain ⟨i, rfl, Hi, HO, HM, HB, HGS⟩ := hrel
          by_cases hi4 : i < 4096
          · have hmi := HM.out.cell i hi4
            cases hSi : S i with
            | false =>
              rw [hSi] at hmi
              go_wp2
              go_roundw
              case rel => exact ⟨i + 1, by go_num, ⟨by omega⟩, ⟨by rw [outOf_not hSi]; exact HO.out⟩, HM, HB, HGS⟩
              case measure => simp [intOf]; omega
            | true =>
              rw [hSi] at hmi
              have hlen := outOf_len S i
              by_cases hlay : i = 0 ∨ S (i - 1) = false
              · have HL := Aside0.mk (outOf_lay hlay hSi)
                rcases hlay with rfl | hlay
                · go_wp2_with (first
                    | (at_builtin; refine wpList_append_own _ rfl (.tmp 74) (.tmp 83) 24 rfl (gm + 1) 41 i0 (.agg #[.int .i64 0, .int .i64 0]) 2 16 Try.underlying24 hi hz0 hz1 hz2 rfl (by decide) _ _ _ rfl (HO.out.alloc _) ⟨wr.heap.size, 0, none⟩ 1 1 [.int .i64 ((0 : Nat) * 1048576), .int .i64 (((0 : Nat) + 1) * 1048576)] rfl rfl ?c1 ?c2 ?c3 ?c4 ?c5 ?_)
                    )
                  case c1 => exact two_cells _ _ (by simp) (by simp)
                  case c2 => intro u hu; simp at hu; rcases hu with rfl | rfl <;> rfl
                  case c3 => unfold maxLen; omega
                  case c4 => omega
                  case c5 => have := HGS.out; simp; omega
                  · intro v' w1 hown' hgrow _
                    have hrow : ∀ j, Value.ownBlock _ = some j → gm + 1 ≤ j := fun j hj => own_base HO.out j hj
                    have HM1 := Aside0.mk (MetIs.grown (HM.out.alloc _) hgrow (fun e => by have := hrow gm e.symm; omega))
                    have HB1 := Aside0.mk ((below_alloc HB.out _).grown hgrow (below_alloc HB.out _).size (fun j hj => by have := hrow j hj; have := HG.out; have := HGM.out; omega))
                    have HO1 := Aside0.mk hown'
                    clear hown' hgrow hrow HO HM HB
                    go_wp2
                    go_roundw
                    case rel => first | exact ⟨_ + 1, by go_num, ⟨by omega⟩, ⟨by rw [HL.out, List.length_append, List.flatMap_append]; exact HO1.out⟩, HM1, HB1, ⟨HM1.out.lt⟩⟩ | ((repeat apply Exists.intro); exact ⟨⟨0 + 1, by go_num, ⟨by omega⟩, ⟨by rw [HL.out, List.length_append, List.flatMap_append]; exact HO1.out⟩, HM1, HB1, ⟨HM1.out.lt⟩⟩, rfl⟩)
                    case measure => simp [intOf]
                · obtain ⟨j, rfl⟩ : ∃ j, i = j + 1 := by
                    rcases Nat.eq_zero_or_pos i with rfl | hp
                    · rw [hlay] at hSi; cases hSi
                    · exact ⟨i - 1, by omega⟩
                  have hmj := HM.out.cell j (by omega)
                  rw [show S j = false from by simpa using hlay] at hmj
                  clear hlay
                  go_wp2_with (first
                    | (at_builtin; refine wpList_append_own _ rfl (.tmp 74) (.tmp 83) 24 rfl (gm + 1) 41 i0 (.agg #[.int .i64 0, .int .i64 0]) 2 16 Try.underlying24 hi hz0 hz1 hz2 rfl (by decide) _ _ _ rfl (HO.out.alloc _) ⟨wr.heap.size, 0, none⟩ 1 1 [.int .i64 ((j + 1 : Nat) * 1048576), .int .i64 (((j + 1 : Nat) + 1) * 1048576)] rfl rfl ?c1 ?c2 ?c3 ?c4 ?c5 ?_)
                    )
                  case c1 => exact two_cells _ _ (by simp) (by simp)
                  case c2 => intro u hu; simp at hu; rcases hu with rfl | rfl <;> rfl
                  case c3 => unfold maxLen; omega
                  case c4 => omega
                  case c5 => have := HGS.out; simp; omega
                  · intro v' w1 hown' hgrow _
                    have hrow : ∀ j, Value.ownBlock _ = some j → gm + 1 ≤ j := fun j hj => own_base HO.out j hj
                    have HM1 := Aside0.mk (MetIs.grown (HM.out.alloc _) hgrow (fun e => by have := hrow gm e.symm; omega))
                    have HB1 := Aside0.mk ((below_alloc HB.out _).grown hgrow (below_alloc HB.out _).size (fun j hj => by have := hrow j hj; have := HG.out; have := HGM.out; omega))
                    have HO1 := Aside0.mk hown'
                    clear hown' hgrow hrow HO HM HB
                    go_wp2
                    go_roundw
                    case rel => first | exact ⟨_ + 1, by go_num, ⟨by omega⟩, ⟨by rw [HL.out, List.length_append, List.flatMap_append]; exact HO1.out⟩, HM1, HB1, ⟨HM1.out.lt⟩⟩ | ((repeat apply Exists.intro); exact ⟨⟨(j + 1) + 1, by go_num, ⟨by omega⟩, ⟨by rw [HL.out, List.length_append, List.flatMap_append]; exact HO1.out⟩, HM1, HB1, ⟨HM1.out.lt⟩⟩, rfl⟩)
                    case measure => simp [intOf]; omega
              · have hgr : 0 < i ∧ S (i - 1) = true := by
                  refine ⟨Nat.pos_of_ne_zero fun e => hlay (.inl e), ?_⟩
                  cases e : S (i - 1) with
                  | true => rfl
                  | false => exact absurd (.inr e) hlay
                clear hlay
                obtain ⟨j, rfl⟩ : ∃ j, i = j + 1 := ⟨i - 1, by omega⟩
                obtain ⟨m, r, e1, e2⟩ := outOf_grow hgr.1 hgr.2 hSi
                have hmj := HM.out.cell j (by omega)
                rw [show S j = true from by simpa using hgr.2] at hmj
                have E2 := Aside0.mk e2
                have ho := HO.out
                rw [e1] at ho hlen
                clear HO e1 e2 hgr
                simp only [List.length_append, List.length_cons, List.length_nil, Nat.zero_add] at ho hlen
                obtain ⟨g, cap, rfl, hg1, hg2⟩ := ho.form (by omega)
                have hfz := ho.frozenAt (m.length * 2 + 1)
                have hcl := ho.cellAt (m.length * 2 + 1) (by omega)
                rw [flat41_snoc, List.getElem?_append_right (by rw [flatMap_len (k := 2) (fun _ => rfl)]; omega), flatMap_len (k := 2) (fun _ => rfl), show m.length * 2 + 1 - m.length * 2 = 1 from by omega] at hcl
                have HO := Aside0.mk ho
                clear ho
                go_wp2
                have hst := HO.out.stored (m.length * 2 + 1) (.int .i64 (((j : Int) + 1 + 1) * 1048576))
                go_roundw
                case rel => exact ⟨j + 1 + 1, by go_num, ⟨by omega⟩, ⟨by
                    have h1 := hst.1
                    rw [flat41_set] at h1
                    rw [E2.out]
                    simpa using h1⟩, ⟨HM.out.grown hst.2 (fun e => by cases e; omega)⟩, ⟨HB.out.grown hst.2 HB.out.size (fun k hk => by cases hk; have := HG.out; have := HGM.out; omega)⟩, ⟨(HM.out.grown hst.2 (fun e => by cases e; omega)).lt⟩⟩
                case measure => simp [intOf]; omega
          · obtain rfl : i = 4096 := by have := Hi.out; omega
            go_wp2
            go_ret2
            have eS : S = fun c_ => decide (c_ ∈ boxCells a b c d) := by
              funext c_
              rw [Bool.eq_iff_iff, HS.out c_, decide_eq_true_iff]
              unfold boxCells
              rw [hX0, hY0, hX1, hY1]
            exact ⟨_, rfl, by rw [← eS]; exact R41_of_own rfl (own_low HO.out (by have := HG.out; have := HGM.out; omega)), HB.out⟩

def furlongref1_Of.f (a0_0 : Int) (a0_1 : Int) (a0_2 : Int) (a0_3 : Int) : Option ((List (S41)) × Int) :=
  if (0 ≤ a0_0 ∧ 0 ≤ a0_1 ∧ a0_2 ≤ 4294967295 ∧ a0_3 ≤ 4294967295 ∧ a0_0 ≤ a0_2 ∧ a0_1 ≤ a0_3) then some (outOf (fun c_ => decide (c_ ∈ boxCells a0_0 a0_1 a0_2 a0_3)) 4096, 0) else some ([], 600)
set_option maxHeartbeats 4000000 in
set_option maxRecDepth 100000 in
theorem ref_not (a b c d : Int) (w : World) (h : ¬ (0 ≤ a ∧ 0 ≤ b ∧ c ≤ 4294967295 ∧ d ≤ 4294967295 ∧ a ≤ c ∧ b ≤ d)) :
    Calls Try.prog 9 #[.agg #[.int .i64 a, .int .i64 b, .int .i64 c, .int .i64 d]] w fun e w' => ∃ v0_ : Value, e = .returned (.tuple #[v0_, .int .i64 600]) ∧ Kd.R k41 41 w' w.heap.size (fun _ => True) v0_ [] ∧ Below w.heap.size w w' := by
  have hmay := ref_boxMay (a := a) (b := b) (c := c) (d := d)
  rw [decide_eq_false h] at hmay
  go_enter Try.func9, Try.ntmps9
  go_wp2_with (first
    | ((with_reducible refine gate_dst (N := 1) rfl ?_); refine box_event ?hg (N := 1) ?hd (cs := #[.int .i64 a, .int .i64 b, .int .i64 c, .int .i64 d]) (t := 23) ?hr ?_; (case hd => rfl); (case hg => rfl); (case hr => first | (go_simp; done) | (go_simp; rfl)); intro gb hg w4 hbox hb; have hcz5_0 : w4.cell? ⟨gb, 0, none⟩ = some (.int .i64 a) := (blk_cell hbox 0).trans rfl; have hcz5_1 : w4.cell? ⟨gb, 1, none⟩ = some (.int .i64 b) := (blk_cell hbox 1).trans rfl; have hcz5_2 : w4.cell? ⟨gb, 2, none⟩ = some (.int .i64 c) := (blk_cell hbox 2).trans rfl; have hcz5_3 : w4.cell? ⟨gb, 3, none⟩ = some (.int .i64 d) := (blk_cell hbox 3).trans rfl; have HG := Aside0.mk hg; have HX := Aside0.mk hbox; have HB4 := Aside0.mk hb; clear hg hbox hb)
    | ((with_reducible refine gate_callee (f := 27) rfl ?_); refine goesL_ (some 14) rfl rfl Try.func27 (by kernel_rfl) rfl #[.agg #[.int .i64 a, .int .i64 b, .int .i64 c, .int .i64 d]] rfl (by (try simp only [List.map_toArray, List.map_cons, List.map_nil]); first | done | rfl | (simp only [List.length_drop, List.length_take]; rfl)) ?_; (with_reducible refine (furlongref1_BoxMay.calls a b c d false _ hmay).mono ?_); rintro e w6 ⟨rfl, hb6⟩; refine ⟨_, rfl, ?_⟩; have HB6 := Aside0.mk (below_step (by repeat (first | (with_reducible first | exact HB4.out | apply below_alloc | apply pw_below_drewN | apply below_drew1) | exact HB4.out)) hb6); clear HX HB4 hb6 hcz5_0 hcz5_1 hcz5_2 hcz5_3))
  go_ret2
  exact ⟨_, rfl, Kd.R_nil _ _ _ _ _, HB6.out⟩
/-- the call, as the print tells it -/
theorem furlongref1_Of.calls (a0_0 : Int) (a0_1 : Int) (a0_2 : Int) (a0_3 : Int) (r1 : List (S41)) (r2 : Int) (w : World) (h : furlongref1_Of.f a0_0 a0_1 a0_2 a0_3 = some (r1, r2)) :
    Calls Try.prog 9 #[.agg #[.int .i64 a0_0, .int .i64 a0_1, .int .i64 a0_2, .int .i64 a0_3]] w fun e w' => ∃ v0_ : Value, e = .returned (.tuple #[v0_, .int .i64 r2]) ∧ Kd.R k41 41 w' w.heap.size (fun _ => True) v0_ r1 ∧ Below w.heap.size w w' := by
  unfold furlongref1_Of.f at h
  split at h
  · rename_i hm
    obtain ⟨rfl, rfl⟩ := Prod.mk.inj (Option.some.inj h)
    exact ref_walk a0_0 a0_1 a0_2 a0_3 w hm
  · rename_i hm
    obtain ⟨rfl, rfl⟩ := Prod.mk.inj (Option.some.inj h)
    exact ref_not a0_0 a0_1 a0_2 a0_3 w hm
end Go.Proofs.Ytngcljnhcbbdmaa.C
