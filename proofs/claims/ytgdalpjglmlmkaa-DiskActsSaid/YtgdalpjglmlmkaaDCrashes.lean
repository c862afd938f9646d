/-
  The law DiskCrashes, walked.
-/
import Derived.Test.YtgdalpjglmlmkaaDCrPlain
import Derived.Deep.RegionHeld3
namespace Go.Proofs.Ytgdalpjglmlmkaa.D
open Go.RowKit Go.Maps Go.Proofs.YtgdalpjglmlmkaaW.PrintWords Go.Proofs.YtgdalpjglmlmkaaW.PrintLast Go.Proofs.YtgdalpjglmlmkaaW.PrintMore
set_option linter.unusedVariables false
set_option linter.unusedSimpArgs false

/-- a row of truths in memory -/
def ArrB (w : World) (g : Nat) (t : TypeId) (xs : List Bool) : Prop := w.heap[g]? = some (.cells (xs.map Value.bool).toArray t (0, 0))
theorem ArrB.cell {w : World} {g : Nat} {t : TypeId} {xs : List Bool} (h : ArrB w g t xs) (i : Nat) (hi : i < xs.length) : w.cell? ⟨g, i, none⟩ = some (.bool (xs.getD i false)) := by
  rw [blk_cell h i]
  simp [hi]
theorem ArrB.put {w : World} {g : Nat} {t : TypeId} {xs : List Bool} (h : ArrB w g t xs) (i : Nat) (x : Bool) : ArrB (w.setCell ⟨g, i, none⟩ (.bool x)) g t (xs.set i x) :=
  blk_put h i _ (by simp [List.map_set])
/-- a disk, two rows of numbers, a row of truths, a crash; apart from one another -/
structure Crs (W w : World) (g bs bm gw gi gd gc : Nat) (co : Obj) (d : Dk) (n : Nat) (ws is : List Int) (B : List Bool) : Prop where
  d : DiskIs w g bs bm d n
  aw : ArrI w gw 51 ws
  ai : ArrI w gi 51 is
  ad : ArrB w gd 52 B
  c : w.heap[gc]? = some co
  bel : Below W.heap.size W w
  hd : ∀ k, Parts g bs bm k → W.heap.size ≤ k
  hw : W.heap.size ≤ gw
  hi : W.heap.size ≤ gi
  hdd : W.heap.size ≤ gd
  nw : ¬ Parts g bs bm gw
  ni : ¬ Parts g bs bm gi
  nd : ¬ Parts g bs bm gd
  nc : ¬ Parts g bs bm gc
  wi : gw ≠ gi
  wd : gw ≠ gd
  id : gi ≠ gd
  cw : gc ≠ gw
  ci : gc ≠ gi
  cd : gc ≠ gd
section
variable {W w w1 : World} {g bs bm gw gi gd gc : Nat} {co : Obj} {d : Dk} {n : Nat} {ws is : List Int} {B : List Bool}
theorem Crs.below (h : Crs W w g bs bm gw gi gd gc co d n ws is B) (hb : Below w.heap.size w w1) : Crs W w1 g bs bm gw gi gd gc co d n ws is B :=
  { h with d := h.d.below hb, aw := h.aw.below hb, ai := h.ai.below hb, ad := blk_below h.ad hb, c := blk_below h.c hb, bel := below_step h.bel hb }
theorem Crs.drawn (h : Crs W w g bs bm gw gi gd gc co d n ws is B) (hb : Drawn0 w w1) : Crs W w1 g bs bm gw gi gd gc co d n ws is B := h.below hb.below
theorem Crs.turn (h : Crs W w g bs bm gw gi gd gc co d n ws is B) {d2 : Dk} {n2 : Nat} (h2 : DiskIs w1 g bs bm d2 n2) (hk : Kp w w1 (Parts g bs bm)) : Crs W w1 g bs bm gw gi gd gc co d2 n2 ws is B :=
  { h with d := h2, aw := h.aw.turned hk h.nw, ai := h.ai.turned hk h.ni, ad := hk.blkOf h.ad h.nd, c := hk.blkOf h.c h.nc, bel := h.bel.trans (hk.to_below h.bel.size h.hd) }
theorem Crs.one (h : Crs W w g bs bm gw gi gd gc co d n ws is B) {k : Nat} (hk : Kp w w1 (fun j => j = k)) (hn : ¬ Parts g bs bm k) : DiskIs w1 g bs bm d n :=
  h.d.kept hk.kept (fun e => hn (e ▸ .inl rfl)) (fun e => hn (e ▸ .inr (.inl rfl))) (fun e => hn (e ▸ .inr (.inr rfl)))
theorem kp_one (w : World) (b i : Nat) (v : Value) : Kp w (w.setCell ⟨b, i, none⟩ v) (fun k => k = b) := Kp.setCell (S := fun k => k = b) (p := ⟨b, i, none⟩) (Kp.refl _ _) (.inl rfl) _
theorem Crs.putW (h : Crs W w g bs bm gw gi gd gc co d n ws is B) (i : Nat) (x : Int) : Crs W (w.setCell ⟨gw, i, none⟩ (.int .i64 x)) g bs bm gw gi gd gc co d n (ws.set i x) is B := by
  have hk := kp_one w gw i (.int .i64 x)
  exact { h with d := h.one hk h.nw, aw := h.aw.put i x, ai := h.ai.turned hk h.wi.symm, ad := hk.blkOf h.ad h.wd.symm, c := hk.blkOf h.c h.cw, bel := h.bel.trans (hk.to_below h.bel.size (fun k hk => hk ▸ h.hw)) }
theorem Crs.putI (h : Crs W w g bs bm gw gi gd gc co d n ws is B) (i : Nat) (x : Int) : Crs W (w.setCell ⟨gi, i, none⟩ (.int .i64 x)) g bs bm gw gi gd gc co d n ws (is.set i x) B := by
  have hk := kp_one w gi i (.int .i64 x)
  exact { h with d := h.one hk h.ni, ai := h.ai.put i x, aw := h.aw.turned hk h.wi, ad := hk.blkOf h.ad h.id.symm, c := hk.blkOf h.c h.ci, bel := h.bel.trans (hk.to_below h.bel.size (fun k hk => hk ▸ h.hi)) }
theorem Crs.putD (h : Crs W w g bs bm gw gi gd gc co d n ws is B) (i : Nat) (x : Bool) : Crs W (w.setCell ⟨gd, i, none⟩ (.bool x)) g bs bm gw gi gd gc co d n ws is (B.set i x) := by
  have hk := kp_one w gd i (.bool x)
  exact { h with d := h.one hk h.nd, ad := h.ad.put i x, aw := h.aw.turned hk h.wd, ai := h.ai.turned hk h.id, c := hk.blkOf h.c h.cd, bel := h.bel.trans (hk.to_below h.bel.size (fun k hk => hk ▸ h.hdd)) }
theorem Crs.row (h : Crs W w g bs bm gw gi gd gc co d n ws is B) : Crs W (w.setRow gi (ws.map (Value.int .i64)).toArray) g bs bm gw gi gd gc co d n ws ws B := by
  have hk : Kp w (w.setRow gi (ws.map (Value.int .i64)).toArray) (fun k => k = gi) := ⟨rfl, rfl, rfl, by simp [World.setRow], fun k _ hn => setRow_other w gi k _ hn⟩
  exact { h with d := h.one hk h.ni, ai := setRow_heap w gi _ _ _ _ h.ai, aw := h.aw.turned hk h.wi, ad := hk.blkOf h.ad h.id.symm, c := hk.blkOf h.c h.ci, bel := h.bel.trans (hk.to_below h.bel.size (fun k hk => hk ▸ h.hi)) }
end
def zero16 : Obj := .cells #[.int .i64 0, .int .i64 0, .int .i64 0, .int .i64 0, .int .i64 0, .int .i64 0, .int .i64 0, .int .i64 0, .int .i64 0, .int .i64 0, .int .i64 0, .int .i64 0, .int .i64 0, .int .i64 0, .int .i64 0, .int .i64 0] 51
def false16 : Obj := .cells #[.bool false, .bool false, .bool false, .bool false, .bool false, .bool false, .bool false, .bool false, .bool false, .bool false, .bool false, .bool false, .bool false, .bool false, .bool false, .bool false] 52
theorem alloc_size (w : World) (o : Obj) : (w.alloc o).heap.size = w.heap.size + 1 := Array.size_push _
theorem Crs.start {W w1 w5 : World} {g bs bm gc : Nat} {co : Obj} {d : Dk} (HB : Below W.heap.size W w1) (HM : Mine w1 w5 g bs bm d 0) (hx : w1.heap[gc]? = some co) :
    Crs W (((w5.alloc zero16).alloc zero16).alloc false16) g bs bm w5.heap.size (w5.heap.size + 1) (w5.heap.size + 1 + 1) gc co d 0 (List.replicate 16 0) (List.replicate 16 0) (List.replicate 16 false) := by
  have e1 := HB.size
  have e2 := HM.bel.size
  have hgc := blk_lt hx
  have b1 : Below w5.heap.size w5 (w5.alloc zero16) := below_alloc (Below.refl _ _) _
  have s1 := alloc_size w5 zero16
  have b2 : Below (w5.alloc zero16).heap.size (w5.alloc zero16) ((w5.alloc zero16).alloc zero16) := below_alloc (Below.refl _ _) _
  have s2 := alloc_size (w5.alloc zero16) zero16
  have b3 : Below ((w5.alloc zero16).alloc zero16).heap.size ((w5.alloc zero16).alloc zero16) (((w5.alloc zero16).alloc zero16).alloc false16) := below_alloc (Below.refl _ _) _
  have a1 := heap_alloc_new w5 zero16
  have a2 := heap_alloc_new (w5.alloc zero16) zero16
  have a3 := heap_alloc_new ((w5.alloc zero16).alloc zero16) false16
  rw [s2, s1] at a3
  rw [s1] at a2
  have b13 : Below w5.heap.size w5 (((w5.alloc zero16).alloc zero16).alloc false16) := below_step (below_step b1 b2) b3
  exact ⟨HM.is.below b13, blk_below (blk_below a1 b2) b3, blk_below a2 b3, a3, blk_below (blk_below hx HM.bel) b13, below_step (below_step HB HM.bel) b13,
    fun k hk => Nat.le_trans e1 (HM.ge hk), by omega, by omega, by omega,
    fun hk => by have := HM.is.lt hk; omega, fun hk => by have := HM.is.lt hk; omega, fun hk => by have := HM.is.lt hk; omega, fun hk => by have := HM.ge hk; omega,
    by omega, by omega, by omega, by omega, by omega, by omega⟩

theorem info51s : (Try.prog.info? 51).map (·.size) = some 16 := by kernel_rfl
/-- what loop 2 keeps: the synced sectors, the fresh ones -/
structure Two2 (d : Dk) (ws is : List Int) (B : List Bool) : Prop where
  s : ∀ k, k < 16 → d.S.getD k ByteArray.empty = sec (ws.getD k 0)
  f : ∀ k, k < 16 → d.F.getD k none = if B.getD k false = true then some (sec (is.getD k 0)) else none
  li : is.length = 16
  lb : B.length = 16
  lw : ws.length = 16
  ls : d.S.length = 16
theorem Two2.start {d : Dk} {ws : List Int} (h : ∀ k, k < 16 → d.now k = sec (ws.getD k 0)) (hw : ws.length = 16) (hS : d.S.length = 16) : Two2 d.synced ws ws (List.replicate 16 false) := by
  refine ⟨fun k hk => ?_, fun k hk => ?_, hw, by simp, hw, by rw [Dk.synced_len]; exact hS⟩
  · rw [← h k hk]
    show d.nowL.getD k ByteArray.empty = d.now k
    simp [Dk.nowL, hS, hk]
  · show (d.F.map fun _ => (none : Option ByteArray)).getD k none = _
    rw [getD_map_none, if_neg]
    simp only [List.getD_eq_getElem?_getD, List.getElem?_replicate]
    split <;> simp
theorem Two2.put {d : Dk} {ws is : List Int} {B : List Bool} (h : Two2 d ws is B) (hF : d.F.length = d.S.length) {k : Nat} (hk : k < 16) (y : Int) : Two2 (d.wr k (sec y)) ws (is.set k y) (B.set k true) := by
  have hls := h.ls
  rw [Dk.wr_in d k _ (by omega) (sec_size y)]
  refine ⟨h.s, fun j hj => ?_, by rw [List.length_set]; exact h.li, by rw [List.length_set]; exact h.lb, h.lw, h.ls⟩
  show (d.F.set k (some (sec y))).getD j none = _
  by_cases hjk : j = k
  · subst hjk
    rw [getD_set_same _ _ _ _ (by omega), getD_set_same _ _ _ _ (by rw [h.lb]; exact hj), getD_set_same _ _ _ _ (by rw [h.li]; exact hj), if_pos rfl]
  · rw [getD_set_other _ _ _ _ _ hjk, getD_set_other _ _ _ _ _ hjk, getD_set_other _ _ _ _ _ hjk]
    exact h.f j hj
theorem Crs.cells {W w : World} {g bs bm gw gi gd gc : Nat} {keep torn bytes : Int} {d : Dk} {n : Nat} {ws is : List Int} {B : List Bool} (h : Crs W w g bs bm gw gi gd gc (.cells #[.int .i64 keep, .int .i64 torn, .int .i64 bytes] 34) d n ws is B) (hw : ws.length = 16) (hi : is.length = 16) (hb : B.length = 16) (k : Nat) (hk : k < 16) :
    w.cell? ⟨gw, k, none⟩ = some (.int .i64 (ws.getD k 0)) ∧ w.cell? ⟨gi, k, none⟩ = some (.int .i64 (is.getD k 0)) ∧ w.cell? ⟨gd, k, none⟩ = some (.bool (B.getD k false)) ∧ w.cell? ⟨gc, 0, none⟩ = some (.int .i64 keep) ∧ w.cell? ⟨gc, 1, none⟩ = some (.int .i64 torn) ∧ w.cell? ⟨gc, 2, none⟩ = some (.int .i64 bytes) :=
  ⟨h.aw.cell k (by omega), h.ai.cell k (by omega), h.ad.cell k (by omega), (blk_cell h.c 0).trans rfl, (blk_cell h.c 1).trans rfl, (blk_cell h.c 2).trans rfl⟩
theorem now_put16 {d : Dk} {xs : List Int} {k : Nat} {y : Int} (hl : xs.length = 16) (hS : d.S.length = 16) (hF : d.F.length = d.S.length) (hk : k < 16) (h : ∀ j, j < 16 → d.now j = sec (xs.getD j 0)) :
    ∀ j, j < 16 → (d.wr k (sec y)).now j = sec ((xs.set k y).getD j 0) := by
  intro j hj
  rw [Dk.wr_in d k _ (by omega) (sec_size y), Dk.now_write _ _ _ _ (by omega)]
  by_cases hjk : j = k
  · subst hjk; rw [if_pos rfl, getD_set_same _ _ _ _ (by omega)]
  · rw [if_neg hjk, getD_set_other _ _ _ _ _ hjk, h j hj]

set_option maxHeartbeats 8000000 in
set_option maxRecDepth 100000 in
theorem crashes_calls (W : World) (A : Option Addr) (c : Nat) (xs : List Int) (hC : (Kd.int .i64).C W A xs.length xs) (hc : xs.length ≤ c) (A2 : Option Addr) (c2 : Nat) (ys : List Int) (hC2 : (Kd.int .i64).C W A2 ys.length ys) (hc2 : ys.length ≤ c2) (keep torn bytes : Int) :
    Calls Try.prog 5 #[.slice A xs.length c, .slice A2 ys.length c2, .agg #[.int .i64 keep, .int .i64 torn, .int .i64 bytes]] W fun e W' => e = .returned (.bool true) ∧ Below W.heap.size W W' := by
  have HC := Aside0.mk hC
  have HC2 := Aside0.mk hC2
  clear hC hC2
  go_enter Try.func5, Try.ntmps5
  go_upto_region 3 with (first
    | ((with_reducible refine gate_dst (N := 5) rfl ?_); refine box_event ?hg (N := 5) ?hd (cs := #[.int .i64 keep, .int .i64 torn, .int .i64 bytes]) (t := 34) ?hr ?_; (case hd => rfl); (case hg => rfl); (case hr => first | (go_simp; done) | (go_simp; rfl)); intro gc hgc w4 hbox hb; have HX := Aside0.mk hbox; have HGC := Aside0.mk hgc; have HB := Aside0.mk hb; clear hgc hbox hb)
    | (go_at_call 7; refine (awake_calls _).mono ?_; rintro e w1 ⟨rfl, hb⟩; have HX := Aside0.mk (blk_below HX.out hb); replace HB := Aside0.mk (below_step HB.out hb); clear hb))
  go_upto_region 4 with (first
    | (go_at_call 8; refine (new_mine _ 16 (by decide) (by decide)).mono ?_; rintro e w5 ⟨g, bs, bm, rfl, hm⟩; have HM := Aside0.mk hm; clear hm))
  go_upto_region 6 with fail
  have HT := Aside0.mk (Crs.start HB.out HM.out HX.out)
  change Code.wp _ _ _ _ (((w5.alloc zero16).alloc zero16).alloc false16)
  generalize ((w5.alloc zero16).alloc zero16).alloc false16 = w7 at HT ⊢
  clear HB HM HX HGC
  generalize w5.heap.size + 1 + 1 = gd at HT ⊢
  generalize w5.heap.size + 1 = gi at HT ⊢
  generalize w5.heap.size = gw at HT ⊢
  obtain ⟨co, hco⟩ : ∃ co : Obj, co = .cells #[.int .i64 keep, .int .i64 torn, .int .i64 bytes] 34 := ⟨_, rfl⟩
  rw [← hco] at HT
  have HCO := Aside0.mk hco
  clear hco
  go_upto_block 0 with fail
  go_cut [] (fun wx => ∃ (ws : List Int) (d : Dk) (n : Nat), Aside0 (n ≤ 30 ∧ ws.length = 16 ∧ d.S.length = 16) ∧ Aside0 (∀ k, k < 16 → d.now k = sec (ws.getD k 0)) ∧ Aside0 (Crs W wx g bs bm gw gi gd gc co d n ws (List.replicate 16 0) (List.replicate 16 false)))
  case first =>
    go_wp2_with fail
    go_loopw [12] (fun v wr => ∃ (i : Nat) (ws : List Int) (d : Dk) (n : Nat), v = .int .i64 i ∧ Aside0 (i ≤ 30 ∧ n ≤ i ∧ ws.length = 16 ∧ d.S.length = 16) ∧ Aside0 (∀ k, k < 16 → d.now k = sec (ws.getD k 0)) ∧ Aside0 (Crs W wr g bs bm gw gi gd gc co d n ws (List.replicate 16 0) (List.replicate 16 false))) (fun v _ => 30 - (intOf v).toNat)
    case atStart => exact ⟨0, List.replicate 16 0, Dk.fresh 16, 0, rfl, ⟨by decide⟩, ⟨fun k hk => by rw [Dk.fresh_now 16 k hk]; congr 1; simp only [List.getD_eq_getElem?_getD, List.getElem?_replicate]; split <;> rfl⟩, HT⟩
    case round =>
      clear HT
      obtain ⟨i, ws, d, n, rfl, HN, HS, HT⟩ := hrel
      by_cases hlt : i < xs.length ∧ i < 30
      · obtain ⟨hi1, hi2⟩ := hlt
        obtain ⟨ad, rfl, hcell⟩ := Kd.at_int HC.out i (by omega) (by omega)
        replace hcell := pw_cell_below HT.out.bel hcell
        rw [Int.toNat_natCast] at hcell
        obtain ⟨x, hx⟩ : ∃ x, x = rd xs i := ⟨_, rfl⟩
        rw [← hx] at hcell
        have h7 := i64_and15 x
        obtain ⟨k, hk⟩ := Int.eq_ofNat_of_zero_le (a := x % 16) (by omega)
        have hk8 : k < 16 := by omega
        rw [hk] at h7
        have HK := Aside0.mk hk
        clear hk hx
        obtain ⟨hN1, hN2, hN4, hN5⟩ := HN.out
        have c8 := HT.out.aw.cell k (by omega)
        have f8 := HT.out.aw.frozen k
        go_upto_region 11 with fail
        replace HT := Aside0.mk (HT.out.putW k (Go.bits .and .i64 (x / 16) 255))
        obtain ⟨y, hy⟩ : ∃ y, y = Go.bits .and .i64 (x / 16) 255 := ⟨_, rfl⟩
        rw [← hy] at HT ⊢
        clear hy c8 f8 hcell h7
        generalize wr.setCell ⟨gw, k, none⟩ (.int .i64 y) = w8 at HT ⊢
        have hlen : (ws.set k y).length = 16 := by rw [List.length_set]; exact hN4
        have hgy : (ws.set k y).getD k 0 = y := getD_set_same _ _ _ _ (by omega)
        have HS2 := Aside0.mk (now_put16 (y := y) hN4 hN5 HT.out.d.len hk8 HS.out)
        have HL := Aside0.mk hlen
        have c8 : w8.cell? ⟨gw, k, none⟩ = some (.int .i64 y) := (HT.out.aw.cell k (by rw [hlen]; exact hk8)).trans (by rw [hgy])
        clear hgy hlen HN HS
        go_wp2_with (first
          | (go_at_call 11; refine (sector_calls _ _).mono ?_; rintro e w9 ⟨rfl, hb⟩; replace HT := Aside0.mk (HT.out.below hb); clear hb c8)
          | (go_at_call 10; refine (disk_write HT.out.d (by omega) _ _ (by rw [sec_size]; decide)).mono ?_; rintro e w10 ⟨rfl, n2, hn2, hd, hk⟩; replace HT := Aside0.mk (HT.out.turn hd hk); clear hd hk))
        exact ⟨⟨i + 1, ws.set k y, _, n2, congrArg (Value.int .i64) (by omega), ⟨by omega, by omega, HL.out, by rw [Dk.wr_len]; exact hN5⟩, HS2, HT⟩, by simp [intOf]; omega⟩
      · obtain ⟨hN1, hN2, hN4, hN5⟩ := HN.out
        have HN2 := Aside0.mk (show n ≤ 30 ∧ ws.length = 16 ∧ d.S.length = 16 from ⟨by omega, hN4, hN5⟩)
        by_cases hi1 : i < xs.length
        all_goals (
          have hh : (30 : Int) ≤ i ∨ (xs.length : Int) ≤ i := by omega
          go_wp2
          go_meet
          exact ⟨ws, d, n, HN2, HS, HT⟩)
  case rest =>
    clear HT
    obtain ⟨ws, d, n, HN, HS, HT⟩ := hcut
    have hws : ws.length = 16 := HN.out.2.1
    go_upto_region 14 with (first
      | (go_at_call 17; refine (sync_calls _ g bs bm _ _ HT.out.d).mono ?_; rintro e w8 ⟨rfl, hd, hk⟩; replace HT := Aside0.mk (HT.out.turn hd hk); clear hd hk)
      | ((with_reducible refine gate_dst (N := 61) rfl ?_); refine wpList_load_row rfl 51 _ rfl gw rfl 51 _ _ _ HT.out.aw Try.underlying51 rfl (by rw [info51s]; simp [hws]) ?_)
      | ((with_reducible refine gate_store (t := 51) (p := 10) rfl ?_); refine wpList_store_row rfl 51 _ _ rfl gi _ rfl rfl 51 _ HT.out.ai (by rw [info51s]; simp [hws]) (by simp [hws]) (by simp [Value.oneCell']) ?_; replace HT := Aside0.mk HT.out.row))
    go_frame
    have HP := Aside0.mk (Two2.start HS.out hws HN.out.2.2)
    generalize w8.setRow gi (List.map (Value.int .i64) ws).toArray = w9 at HT ⊢
    clear HS HN
    generalize d.synced = d at HT HP
    have HLW := Aside0.mk hws
    clear hws
    go_upto_block 2 with fail
    go_cut [] (fun wx => ∃ (is : List Int) (B : List Bool) (d : Dk) (n : Nat), Aside0 (n ≤ 30) ∧ Aside0 (Two2 d ws is B) ∧ Aside0 (Crs W wx g bs bm gw gi gd gc co d n ws is B))
    case first =>
      go_wp2_with fail
      go_loopw [15] (fun v wr => ∃ (i : Nat) (is : List Int) (B : List Bool) (d : Dk) (n : Nat), v = .int .i64 i ∧ Aside0 (i ≤ 30 ∧ n ≤ i) ∧ Aside0 (Two2 d ws is B) ∧ Aside0 (Crs W wr g bs bm gw gi gd gc co d n ws is B)) (fun v _ => 30 - (intOf v).toNat)
      case atStart => exact ⟨0, ws, List.replicate 16 false, d, 0, rfl, ⟨by decide⟩, HP, HT⟩
      case round =>
        clear HT HP
        obtain ⟨i, is, B, d, n, rfl, HN, HP, HT⟩ := hrel
        by_cases hlt : i < ys.length ∧ i < 30
        · obtain ⟨hi1, hi2⟩ := hlt
          obtain ⟨ad, rfl, hcell⟩ := Kd.at_int HC2.out i (by omega) (by omega)
          replace hcell := pw_cell_below HT.out.bel hcell
          rw [Int.toNat_natCast] at hcell
          obtain ⟨x, hx⟩ : ∃ x, x = rd ys i := ⟨_, rfl⟩
          rw [← hx] at hcell
          have h7 := i64_and15 x
          obtain ⟨k, hk⟩ := Int.eq_ofNat_of_zero_le (a := x % 16) (by omega)
          have hk8 : k < 16 := by omega
          rw [hk] at h7
          have HK := Aside0.mk hk
          clear hk hx
          obtain ⟨hN1, hN2⟩ := HN.out
          have c8 := HT.out.ai.cell k (by rw [HP.out.li]; exact hk8)
          have f8 := HT.out.ai.frozen k
          go_upto_region 19 with fail
          replace HT := Aside0.mk (HT.out.putI k (Go.bits .and .i64 (x / 16) 255))
          obtain ⟨y, hy⟩ : ∃ y, y = Go.bits .and .i64 (x / 16) 255 := ⟨_, rfl⟩
          rw [← hy] at HT ⊢
          clear hy c8 f8 hcell h7
          generalize wr.setCell ⟨gi, k, none⟩ (.int .i64 y) = w8 at HT ⊢
          have d8 := HT.out.ad.cell k (by rw [HP.out.lb]; exact hk8)
          have e8 : w8.frozen? ⟨gd, k, none⟩ = false := blk_frozen HT.out.ad k
          go_upto_region 20 with fail
          replace HT := Aside0.mk (HT.out.putD k true)
          clear d8 e8
          generalize w8.setCell ⟨gd, k, none⟩ (.bool true) = w9 at HT ⊢
          have hlen : (is.set k y).length = 16 := by rw [List.length_set]; exact HP.out.li
          have hgy : (is.set k y).getD k 0 = y := getD_set_same _ _ _ _ (by rw [HP.out.li]; exact hk8)
          have HP2 := Aside0.mk (HP.out.put HT.out.d.len hk8 y)
          have c8 : w9.cell? ⟨gi, k, none⟩ = some (.int .i64 y) := (HT.out.ai.cell k (by rw [hlen]; exact hk8)).trans (by rw [hgy])
          clear hgy hlen HN HP
          go_wp2_with (first
            | (go_at_call 11; refine (sector_calls _ _).mono ?_; rintro e w9 ⟨rfl, hb⟩; replace HT := Aside0.mk (HT.out.below hb); clear hb c8)
            | (go_at_call 10; refine (disk_write HT.out.d (by omega) _ _ (by rw [sec_size]; decide)).mono ?_; rintro e w10 ⟨rfl, n2, hn2, hd, hk⟩; replace HT := Aside0.mk (HT.out.turn hd hk); clear hd hk))
          exact ⟨⟨i + 1, is.set k y, B.set k true, _, n2, congrArg (Value.int .i64) (by omega), ⟨by omega, by omega⟩, HP2, HT⟩, by simp [intOf]; omega⟩
        · obtain ⟨hN1, hN2⟩ := HN.out
          have HN2 := Aside0.mk (show n ≤ 30 by omega)
          by_cases hi1 : i < ys.length
          all_goals (
            have hh : (30 : Int) ≤ i ∨ (ys.length : Int) ≤ i := by omega
            go_wp2
            go_meet
            exact ⟨is, B, d, n, HN2, HP, HT⟩)
    case rest =>
      clear HT HP
      obtain ⟨is, B, d, n, HN, HP, HT⟩ := hcut
      have c0 : wc.cell? ⟨gc, 0, none⟩ = some (.int .i64 keep) := (blk_cell (HT.out.c.trans (congrArg some HCO.out)) 0).trans rfl
      have c1 : wc.cell? ⟨gc, 1, none⟩ = some (.int .i64 torn) := (blk_cell (HT.out.c.trans (congrArg some HCO.out)) 1).trans rfl
      have c2 : wc.cell? ⟨gc, 2, none⟩ = some (.int .i64 bytes) := (blk_cell (HT.out.c.trans (congrArg some HCO.out)) 2).trans rfl
      go_upto_region 22 with (first
        | (go_at_call 12; refine (disk_crash HT.out.d (Nat.le_trans HN.out (by decide)) _ _ _).mono ?_; rintro e w10 ⟨rfl, n2, hn2, hd, hk⟩; replace HT := Aside0.mk (HT.out.turn hd hk); clear hd hk c0 c1 c2))
      have HF := Aside0.mk HT.out.d.len
      have hco := HCO.out
      subst hco
      have c2 : w10.cell? ⟨gc, 2, none⟩ = some (.int .i64 bytes) := (blk_cell HT.out.c 2).trans rfl
      by_cases hb : 0 ≤ bytes ∧ bytes ≤ 64
      · obtain ⟨hb0, hb1⟩ := hb
        have hcr : crE bytes = 0 := if_pos ⟨hb0, hb1⟩
        rw [hcr]
        clear hcr
        go_upto_region 25 with fail
        clear c2
        have HWT := Aside0.mk (show ∀ k : Nat, k < 16 → (d.cr keep torn bytes).rd k = want keep torn bytes ws is B k ∧ (d.cr keep torn bytes).rdE k = 0 from fun k hk => by
          have h1 := Dk.rd_in (d.cr keep torn bytes) k (by rw [Dk.cr_len, HP.out.ls]; exact hk)
          have hfl : d.F.length = d.S.length := by
            have h5 := HF.out
            rw [Dk.cr_len] at h5
            rw [← h5]
            unfold Dk.cr
            rw [if_pos ⟨hb0, hb1⟩, List.length_map]
          rw [cr_want keep torn bytes hb0 hb1 HP.out.ls hfl HP.out.s HP.out.f k hk] at h1
          exact h1)
        go_wp2_with fail
        go_loopw [18, 19] (fun v1 v2 wr => ∃ (k : Nat), v1 = .int .i64 (rank B k : Nat) ∧ v2 = .int .i64 k ∧ Aside0 (k ≤ 16) ∧ Aside0 (Crs W wr g bs bm gw gi gd gc (.cells #[.int .i64 keep, .int .i64 torn, .int .i64 bytes] 34) (d.cr keep torn bytes) n2 ws is B)) (fun _ v _ => 16 - (intOf v).toNat)
        case atStart => exact ⟨0, rfl, rfl, ⟨by decide⟩, HT⟩
        case round =>
          clear HT
          obtain ⟨k, rfl, rfl, HK, HT⟩ := hrel
          by_cases hk : k < 16
          · obtain ⟨q1, q2, q3, q4, q5, q6⟩ := Crs.cells HT.out HP.out.lw HP.out.li HP.out.lb k hk
            have hr := rank_le B k
            obtain ⟨r, hr2⟩ : ∃ r, r = rank B k := ⟨_, rfl⟩
            have HRK := Aside0.mk (rank_succ B k)
            have HWK := Aside0.mk (HWT.out k hk)
            unfold want at HWK
            rw [← hr2] at hr HRK HWK ⊢
            clear hr2
            obtain ⟨x, hx⟩ : ∃ x, x = ws.getD k 0 := ⟨_, rfl⟩
            obtain ⟨y, hy⟩ : ∃ y, y = is.getD k 0 := ⟨_, rfl⟩
            obtain ⟨bv, hbv⟩ : ∃ b, b = B.getD k false := ⟨_, rfl⟩
            rw [← hx] at q1 HWK
            rw [← hy] at q2 HWK
            rw [← hbv] at q3 HRK HWK
            have HX' := Aside0.mk hx
            have HY' := Aside0.mk hy
            have HB' := Aside0.mk hbv
            clear hx hy hbv
            go_upto_region 29 with (go_at_call 11; refine (sector_calls _ _).mono ?_; rintro e w9 ⟨rfl, hb⟩; replace HT := Aside0.mk (HT.out.below hb); clear hb q1 q2 q3 q4 q5 q6; obtain ⟨q1, q2, q3, q4, q5, q6⟩ := Crs.cells HT.out HP.out.lw HP.out.li HP.out.lb k hk; rw [← HX'.out] at q1; rw [← HY'.out] at q2; rw [← HB'.out] at q3)
            have sx : (sec x).size = 64 := sec_size x
            have sy : (sec y).size = 64 := sec_size y
            cases bv with
            | false =>
              have HWV : Aside0 ((d.cr keep torn bytes).rd k = sec x ∧ (d.cr keep torn bytes).rdE k = 0) := ⟨by have h9 := HWK.out; rwa [if_neg (by simp)] at h9⟩
              go_upto_region 36 with (go_at_call 9; refine (disk_read HT.out.d _).mono ?_; rintro e w12 ⟨rfl, hd⟩; replace HT := Aside0.mk (HT.out.drawn hd); clear hd; rw [HWV.out.1, HWV.out.2])
              go_wp2_with (go_at_call 13; refine (num_calls _ _).mono ?_; rintro e w13 ⟨rfl, hd⟩; replace HT := Aside0.mk (HT.out.drawn hd); clear hd)
              exact ⟨⟨k + 1, congrArg (Value.int .i64) (by rw [HRK.out]; simp), congrArg (Value.int .i64) (by omega), ⟨by omega⟩, HT⟩, by simp [intOf]; omega⟩
            | true =>
              by_cases ht : (r : Int) = torn
              · have tT : ((r : Int) == torn) = true := beq_iff_eq.mpr ht
                have HWV : Aside0 ((d.cr keep torn bytes).rd k = (sec y).extract 0 bytes.toNat ++ (sec x).extract bytes.toNat 64 ∧ (d.cr keep torn bytes).rdE k = 0) := ⟨by have h9 := HWK.out; rwa [if_pos rfl, if_pos ht] at h9⟩
                clear ht
                go_wp2
                have HK3 := Aside0.mk (show ∀ w', Crs W w' g bs bm gw gi gd gc (.cells #[.int .i64 keep, .int .i64 torn, .int .i64 bytes] 34) (d.cr keep torn bytes) n2 ws is B → w'.cell? ⟨gw, k, none⟩ = some (.int .i64 x) ∧ w'.cell? ⟨gi, k, none⟩ = some (.int .i64 y) ∧ w'.cell? ⟨gc, 2, none⟩ = some (.int .i64 bytes) from fun w' h => by
                  obtain ⟨p1, p2, _, _, _, p6⟩ := Crs.cells h HP.out.lw HP.out.li HP.out.lb k hk
                  rw [← HX'.out] at p1
                  rw [← HY'.out] at p2
                  exact ⟨p1, p2, p6⟩)
                replace HT : Aside0 (Crs W (World.drew _) g bs bm gw gi gd gc (.cells #[.int .i64 keep, .int .i64 torn, .int .i64 bytes] 34) (d.cr keep torn bytes) n2 ws is B) := Aside0.mk (HT.out.drawn ⟨⟨1, rfl⟩⟩)
                clear q1 q2 q3 q4 q5 q6
                go_region_held3 (fun w' => w'.cell? ⟨gw, k, none⟩ = some (.int .i64 x) ∧ w'.cell? ⟨gi, k, none⟩ = some (.int .i64 y) ∧ w'.cell? ⟨gc, 2, none⟩ = some (.int .i64 bytes)) (exact HK3.out _ HT.out) (first
                  | (go_at_call 11; refine (sector_calls _ _).mono ?_; rintro e w9 ⟨rfl, hb⟩; replace HT := Aside0.mk (HT.out.below hb); clear hb))
                all_goals (
                  go_upto_region 36 with (go_at_call 9; refine (disk_read HT.out.d _).mono ?_; rintro e w12 ⟨rfl, hd⟩; replace HT := Aside0.mk (HT.out.drawn hd); clear hd; rw [HWV.out.1, HWV.out.2])
                  go_wp2_with (go_at_call 13; refine (num_calls _ _).mono ?_; rintro e w13 ⟨rfl, hd⟩; replace HT := Aside0.mk (HT.out.drawn hd); clear hd)
                  exact ⟨⟨k + 1, congrArg (Value.int .i64) (by rw [HRK.out]; simp), congrArg (Value.int .i64) (by omega), ⟨by omega⟩, HT⟩, by simp [intOf]; omega⟩)
              · have tT : ((r : Int) == torn) = false := beq_eq_false_iff_ne.mpr ht
                have hr62 : r < 62 := by omega
                by_cases hbit : Go.bits .and .i64 (keep / 2 ^ r) 1 = 1
                · have tb : (Go.bits .and .i64 (keep / 2 ^ r) 1 == 1) = true := beq_iff_eq.mpr hbit
                  have HWV : Aside0 ((d.cr keep torn bytes).rd k = sec y ∧ (d.cr keep torn bytes).rdE k = 0) := ⟨by have h9 := HWK.out; rwa [if_pos rfl, if_neg ht, if_pos hbit] at h9⟩
                  clear ht hbit
                  go_upto_region 36 with (first
                    | (go_at_call 11; refine (sector_calls _ _).mono ?_; rintro e w9 ⟨rfl, hb⟩; replace HT := Aside0.mk (HT.out.below hb); clear hb)
                    | (go_at_call 9; refine (disk_read HT.out.d _).mono ?_; rintro e w12 ⟨rfl, hd⟩; replace HT := Aside0.mk (HT.out.drawn hd); clear hd; rw [HWV.out.1, HWV.out.2]))
                  go_wp2_with (go_at_call 13; refine (num_calls _ _).mono ?_; rintro e w13 ⟨rfl, hd⟩; replace HT := Aside0.mk (HT.out.drawn hd); clear hd)
                  exact ⟨⟨k + 1, congrArg (Value.int .i64) (by rw [HRK.out]; simp), congrArg (Value.int .i64) (by omega), ⟨by omega⟩, HT⟩, by simp [intOf]; omega⟩
                · have tb : (Go.bits .and .i64 (keep / 2 ^ r) 1 == 1) = false := beq_eq_false_iff_ne.mpr hbit
                  have HWV : Aside0 ((d.cr keep torn bytes).rd k = sec x ∧ (d.cr keep torn bytes).rdE k = 0) := ⟨by have h9 := HWK.out; rwa [if_pos rfl, if_neg ht, if_neg hbit] at h9⟩
                  clear ht hbit
                  go_upto_region 36 with (go_at_call 9; refine (disk_read HT.out.d _).mono ?_; rintro e w12 ⟨rfl, hd⟩; replace HT := Aside0.mk (HT.out.drawn hd); clear hd; rw [HWV.out.1, HWV.out.2])
                  go_wp2_with (go_at_call 13; refine (num_calls _ _).mono ?_; rintro e w13 ⟨rfl, hd⟩; replace HT := Aside0.mk (HT.out.drawn hd); clear hd)
                  exact ⟨⟨k + 1, congrArg (Value.int .i64) (by rw [HRK.out]; simp), congrArg (Value.int .i64) (by omega), ⟨by omega⟩, HT⟩, by simp [intOf]; omega⟩
          · obtain rfl : k = 16 := by have := HK.out; omega
            have hc0 : count (d.cr keep torn bytes).F = 0 := by
              unfold Dk.cr
              rw [if_pos ⟨hb0, hb1⟩]
              unfold count
              rw [List.countP_eq_zero]
              intro x hx
              obtain ⟨_, _, rfl⟩ := List.mem_map.1 hx
              simp
            have HC0 := Aside0.mk hc0
            clear hc0
            go_wp2_with (first
              | (go_at_call 13; refine (num_calls _ _).mono ?_; rintro e w13 ⟨rfl, hd⟩; replace HT := Aside0.mk (HT.out.drawn hd); clear hd)
              | (go_at_call 20; refine (dirty_calls _ g bs bm _ _ HT.out.d).mono ?_; rintro e w13 ⟨rfl, hd⟩; replace HT := Aside0.mk (HT.out.drawn hd); clear hd; rw [HC0.out]))
            go_ret
            exact ⟨rfl, HT.out.bel⟩
      · have hcr : crE bytes = 800 := if_neg hb
        rw [hcr]
        clear hcr
        have hb' : bytes < 0 ∨ 64 < bytes := by omega
        clear hb
        rcases hb' with hb | hb
        all_goals (
          go_wp2_with (go_at_call 13; refine (num_calls _ _).mono ?_; rintro e w13 ⟨rfl, hd⟩; replace HT := Aside0.mk (HT.out.drawn hd); clear hd c2)
          go_ret
          exact ⟨rfl, HT.out.bel⟩)
end Go.Proofs.Ytgdalpjglmlmkaa.D
