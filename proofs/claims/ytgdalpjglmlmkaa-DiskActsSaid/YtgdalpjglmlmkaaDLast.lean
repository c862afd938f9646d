/-
  The law DiskLast, walked.
-/
import Derived.Test.YtgdalpjglmlmkaaDPlain
namespace Go.Proofs.Ytgdalpjglmlmkaa.D
open Go.RowKit Go.Maps Go.Proofs.YtgdalpjglmlmkaaW.PrintWords Go.Proofs.YtgdalpjglmlmkaaW.PrintLast Go.Proofs.YtgdalpjglmlmkaaW.PrintMore
set_option linter.unusedVariables false
set_option linter.unusedSimpArgs false

/-- a row of whole numbers in memory -/
def ArrI (w : World) (g : Nat) (t : TypeId) (xs : List Int) : Prop := w.heap[g]? = some (.cells (xs.map (Value.int .i64)).toArray t (0, 0))
theorem ArrI.cell {w : World} {g : Nat} {t : TypeId} {xs : List Int} (h : ArrI w g t xs) (i : Nat) (hi : i < xs.length) : w.cell? ⟨g, i, none⟩ = some (.int .i64 (xs.getD i 0)) := by
  rw [blk_cell h i]
  simp [hi]
theorem ArrI.frozen {w : World} {g : Nat} {t : TypeId} {xs : List Int} (h : ArrI w g t xs) (i : Nat) : w.frozen? ⟨g, i, none⟩ = false := blk_frozen h i
theorem ArrI.put {w : World} {g : Nat} {t : TypeId} {xs : List Int} (h : ArrI w g t xs) (i : Nat) (x : Int) : ArrI (w.setCell ⟨g, i, none⟩ (.int .i64 x)) g t (xs.set i x) :=
  blk_put h i _ (by simp [List.map_set])
theorem ArrI.below {w w1 : World} {g : Nat} {t : TypeId} {xs : List Int} (h : ArrI w g t xs) (hb : Below w.heap.size w w1) : ArrI w1 g t xs := blk_below h hb
theorem ArrI.turned {w w1 : World} {g : Nat} {t : TypeId} {xs : List Int} {S : Nat → Prop} (h : ArrI w g t xs) (hk : Kp w w1 S) (hg : ¬ S g) : ArrI w1 g t xs := hk.blkOf h hg

/-- two disks and a row, made behind W, apart from one another -/
structure Two (W w : World) (g bs bm g' bs' bm' ga gc : Nat) (co : Obj) (d o : Dk) (n m : Nat) (xs : List Int) : Prop where
  d : DiskIs w g bs bm d n
  o : DiskIs w g' bs' bm' o m
  a : ArrI w ga 55 xs
  bel : Below W.heap.size W w
  hd : ∀ k, Parts g bs bm k → W.heap.size ≤ k
  ho : ∀ k, Parts g' bs' bm' k → W.heap.size ≤ k
  apart : ∀ k, Parts g bs bm k → ¬ Parts g' bs' bm' k
  ha : W.heap.size ≤ ga
  hda : ¬ Parts g bs bm ga
  hoa : ¬ Parts g' bs' bm' ga
  c : w.heap[gc]? = some co
  hdc : ¬ Parts g bs bm gc
  hoc : ¬ Parts g' bs' bm' gc
  hac : gc ≠ ga
section
variable {W w w1 : World} {g bs bm g' bs' bm' ga gc : Nat} {co : Obj} {d o : Dk} {n m : Nat} {xs : List Int}
theorem Two.below (h : Two W w g bs bm g' bs' bm' ga gc co d o n m xs) (hb : Below w.heap.size w w1) : Two W w1 g bs bm g' bs' bm' ga gc co d o n m xs :=
  { h with d := h.d.below hb, o := h.o.below hb, a := h.a.below hb, c := blk_below h.c hb, bel := below_step h.bel hb }
theorem Two.drawn (h : Two W w g bs bm g' bs' bm' ga gc co d o n m xs) (hb : Drawn0 w w1) : Two W w1 g bs bm g' bs' bm' ga gc co d o n m xs := h.below hb.below
theorem Two.turnD (h : Two W w g bs bm g' bs' bm' ga gc co d o n m xs) {d2 : Dk} {n2 : Nat} (h2 : DiskIs w1 g bs bm d2 n2) (hk : Kp w w1 (Parts g bs bm)) : Two W w1 g bs bm g' bs' bm' ga gc co d2 o n2 m xs :=
  { h with d := h2, o := h.o.kept hk.kept (fun hp => h.apart _ hp (.inl rfl)) (fun hp => h.apart _ hp (.inr (.inl rfl))) (fun hp => h.apart _ hp (.inr (.inr rfl))), a := h.a.turned hk h.hda, c := hk.blkOf h.c h.hdc, bel := h.bel.trans (hk.to_below h.bel.size h.hd) }
theorem Two.turnO (h : Two W w g bs bm g' bs' bm' ga gc co d o n m xs) {o2 : Dk} {m2 : Nat} (h2 : DiskIs w1 g' bs' bm' o2 m2) (hk : Kp w w1 (Parts g' bs' bm')) : Two W w1 g bs bm g' bs' bm' ga gc co d o2 n m2 xs :=
  { h with o := h2, d := h.d.kept hk.kept (fun hp => h.apart _ (.inl rfl) hp) (fun hp => h.apart _ (.inr (.inl rfl)) hp) (fun hp => h.apart _ (.inr (.inr rfl)) hp), a := h.a.turned hk h.hoa, c := hk.blkOf h.c h.hoc, bel := h.bel.trans (hk.to_below h.bel.size h.ho) }
theorem Two.put (h : Two W w g bs bm g' bs' bm' ga gc co d o n m xs) (i : Nat) (x : Int) : Two W (w.setCell ⟨ga, i, none⟩ (.int .i64 x)) g bs bm g' bs' bm' ga gc co d o n m (xs.set i x) := by
  have hk : Kp w (w.setCell ⟨ga, i, none⟩ (.int .i64 x)) (fun k => k = ga) := Kp.setCell (S := fun k => k = ga) (p := ⟨ga, i, none⟩) (Kp.refl _ _) (.inl rfl) _
  exact { h with d := h.d.kept hk.kept (fun hp => h.hda (hp ▸ .inl rfl)) (fun hp => h.hda (hp ▸ .inr (.inl rfl))) (fun hp => h.hda (hp ▸ .inr (.inr rfl))), o := h.o.kept hk.kept (fun hp => h.hoa (hp ▸ .inl rfl)) (fun hp => h.hoa (hp ▸ .inr (.inl rfl))) (fun hp => h.hoa (hp ▸ .inr (.inr rfl))), a := h.a.put i x, c := hk.blkOf h.c h.hac, bel := h.bel.trans (hk.to_below h.bel.size (fun k hk => hk ▸ h.ha)) }
end
theorem DiskIs.lt {W : World} {g bs bm : Nat} {d : Dk} {n : Nat} (h : DiskIs W g bs bm d n) {k : Nat} (hk : Parts g bs bm k) : k < W.heap.size := by
  obtain ⟨D, hm, _⟩ := h.map
  rcases hk with rfl | rfl | rfl
  · exact blk_lt h.box
  · exact blk_lt h.row
  · exact hm.lt
theorem Mine.ge {W W1 : World} {g bs bm : Nat} {d : Dk} {n : Nat} (h : Mine W W1 g bs bm d n) {k : Nat} (hk : Parts g bs bm k) : W.heap.size ≤ k := by
  rcases hk with rfl | rfl | rfl
  · exact h.hg
  · exact h.hbs
  · exact h.hbm

def zero8 : Obj := .cells #[.int .i64 0, .int .i64 0, .int .i64 0, .int .i64 0, .int .i64 0, .int .i64 0, .int .i64 0, .int .i64 0] 55
theorem Two.start {W w1 w5 w6 : World} {g bs bm g' bs' bm' gc : Nat} {co : Obj} {d o : Dk} (HB : Below W.heap.size W w1) (HM : Mine w1 w5 g bs bm d 0) (HO : Mine w5 w6 g' bs' bm' o 0) (hx : w1.heap[gc]? = some co) :
    Two W (w6.alloc zero8) g bs bm g' bs' bm' w6.heap.size gc co d o 0 0 (List.replicate 8 0) := by
  have e1 := HB.size
  have e2 := HM.bel.size
  have e3 := HO.bel.size
  have hb6 : Below w6.heap.size w6 (w6.alloc zero8) := below_alloc (Below.refl _ _) _
  have hgc := blk_lt hx
  exact ⟨(HM.is.below HO.bel).below hb6, HO.is.below hb6, heap_alloc_new w6 zero8, below_step (below_step (below_step HB HM.bel) HO.bel) hb6,
    fun k hk => Nat.le_trans e1 (HM.ge hk), fun k hk => Nat.le_trans e1 (Nat.le_trans e2 (HO.ge hk)),
    fun k hk hk2 => by have := HM.is.lt hk; have := HO.ge hk2; omega, by omega,
    fun hk => by have := HM.is.lt hk; omega, fun hk => by have := HO.is.lt hk; omega,
    blk_below (blk_below (blk_below hx HM.bel) HO.bel) hb6, fun hk => by have := HM.ge hk; omega, fun hk => by have := HO.ge hk; omega, by omega⟩
theorem getD_set8 (xs : List Int) (k j : Nat) (y : Int) (hl : xs.length = 8) (hk : k < 8) (hj : j < 8) : (xs.set k y).getD j 0 = if j = k then y else xs.getD j 0 := by
  by_cases h : j = k
  · subst h; rw [if_pos rfl, getD_set_same _ _ _ _ (by omega)]
  · rw [if_neg h, getD_set_other _ _ _ _ _ h]
theorem now_put {d : Dk} {xs : List Int} {k : Nat} {y : Int} (hl : xs.length = 8) (hS : d.S.length = 8) (hF : d.F.length = d.S.length) (hk : k < 8) (h : ∀ j, j < 8 → d.now j = sec (xs.getD j 0)) :
    ∀ j, j < 8 → (d.wr k (sec y)).now j = sec ((xs.set k y).getD j 0) := by
  intro j hj
  rw [Dk.wr_in d k _ (by omega) (sec_size y), Dk.now_write _ _ _ _ (by omega), getD_set8 xs k j y hl hk hj]
  by_cases hjk : j = k
  · rw [if_pos hjk, if_pos hjk]
  · rw [if_neg hjk, if_neg hjk, h j hj]

set_option maxHeartbeats 8000000 in
set_option maxRecDepth 100000 in
theorem last_calls (W : World) (A : Option Addr) (c : Nat) (xs : List Int) (hC : (Kd.int .i64).C W A xs.length xs) (hc : xs.length ≤ c) (keep torn bytes : Int) :
    Calls Try.prog 6 #[.slice A xs.length c, .agg #[.int .i64 keep, .int .i64 torn, .int .i64 bytes]] W fun e W' => e = .returned (.bool true) ∧ Below W.heap.size W W' := by
  have HC := Aside0.mk hC
  clear hC
  go_enter Try.func6, Try.ntmps6
  go_upto_region 3 with (first
    | ((with_reducible refine gate_dst (N := 3) rfl ?_); refine box_event ?hg (N := 3) ?hd (cs := #[.int .i64 keep, .int .i64 torn, .int .i64 bytes]) (t := 34) ?hr ?_; (case hd => rfl); (case hg => rfl); (case hr => first | (go_simp; done) | (go_simp; rfl)); intro gc hgc w4 hbox hb; have HX := Aside0.mk hbox; have HGC := Aside0.mk hgc; have HB := Aside0.mk hb; clear hgc hbox hb)
    | (go_at_call 7; refine (awake_calls _).mono ?_; rintro e w1 ⟨rfl, hb⟩; have HX := Aside0.mk (blk_below HX.out hb); replace HB := Aside0.mk (below_step HB.out hb); clear hb))
  go_upto_region 4 with (first
    | (go_at_call 8; refine (new_mine _ 8 (by decide) (by decide)).mono ?_; rintro e w5 ⟨g, bs, bm, rfl, hm⟩; have HM := Aside0.mk hm; clear hm))
  go_upto_region 5 with (first
    | (go_at_call 8; refine (new_mine _ 8 (by decide) (by decide)).mono ?_; rintro e w6 ⟨g', bs', bm', rfl, hm⟩; have HO := Aside0.mk hm; clear hm))
  go_upto_region 6 with fail
  have HT := Aside0.mk (Two.start HB.out HM.out HO.out HX.out)
  change Code.wp _ _ _ _ (w6.alloc zero8)
  clear HB HM HO HX HGC
  obtain ⟨ga, hga⟩ : ∃ a, a = w6.heap.size := ⟨_, rfl⟩
  rw [← hga] at HT ⊢
  generalize w6.alloc zero8 = w7 at HT ⊢
  clear hga
  go_wp2
  go_loopw [10] (fun v wr => ∃ (i : Nat) (is : List Int) (d o : Dk) (n m : Nat), v = .int .i64 i ∧ Aside0 (i ≤ 60 ∧ n ≤ i ∧ m ≤ i ∧ is.length = 8 ∧ d.S.length = 8 ∧ o.S.length = 8) ∧ Aside0 (∀ k, k < 8 → d.now k = sec (is.getD k 0)) ∧ Aside0 (Two W wr g bs bm g' bs' bm' ga gc (.cells #[.int .i64 keep, .int .i64 torn, .int .i64 bytes] 34) d o n m is)) (fun v _ => 60 - (intOf v).toNat)
  case atStart => exact ⟨0, List.replicate 8 0, Dk.fresh 8, Dk.fresh 8, 0, 0, rfl, ⟨by decide⟩, ⟨fun k hk => by rw [Dk.fresh_now 8 k hk]; congr 1; simp only [List.getD_eq_getElem?_getD, List.getElem?_replicate]; split <;> rfl⟩, HT⟩
  case round =>
    clear HT
    obtain ⟨i, is, d, o, n, m, rfl, HN, HS, HT⟩ := hrel
    by_cases hlt : i < xs.length ∧ i < 60
    · obtain ⟨hi1, hi2⟩ := hlt
      obtain ⟨ad, rfl, hcell⟩ := Kd.at_int HC.out i (by omega) (by omega)
      replace hcell := pw_cell_below HT.out.bel hcell
      rw [Int.toNat_natCast] at hcell
      obtain ⟨x, hx⟩ : ∃ x, x = rd xs i := ⟨_, rfl⟩
      rw [← hx] at hcell
      have h7 := i64_and7 x
      obtain ⟨k, hk⟩ := Int.eq_ofNat_of_zero_le (a := x % 8) (by omega)
      have hk8 : k < 8 := by omega
      rw [hk] at h7
      have HK := Aside0.mk hk
      clear hk hx
      obtain ⟨hN1, hN2, hN3, hN4, hN5, hN6⟩ := HN.out
      have c8 := HT.out.a.cell k (by omega)
      have f8 := HT.out.a.frozen k
      go_upto_region 11 with fail
      replace HT := Aside0.mk (HT.out.put k (Go.bits .and .i64 (x / 8) 255))
      obtain ⟨y, hy⟩ : ∃ y, y = Go.bits .and .i64 (x / 8) 255 := ⟨_, rfl⟩
      rw [← hy] at HT ⊢
      clear hy c8 f8 hcell h7
      generalize wr.setCell ⟨ga, k, none⟩ (.int .i64 y) = w8 at HT ⊢
      have hlen : (is.set k y).length = 8 := by rw [List.length_set]; exact hN4
      have hgy : (is.set k y).getD k 0 = y := getD_set_same _ _ _ _ (by omega)
      have HS2 := Aside0.mk (now_put (y := y) hN4 hN5 HT.out.d.len hk8 HS.out)
      have HY := Aside0.mk hgy
      have HL := Aside0.mk hlen
      clear hgy hlen HN HS
      have c8 : w8.cell? ⟨ga, k, none⟩ = some (.int .i64 y) := (HT.out.a.cell k (by rw [HL.out]; exact hk8)).trans (by rw [HY.out])
      go_upto_region 12 with (first
        | (go_at_call 11; refine (sector_calls _ _).mono ?_; rintro e w9 ⟨rfl, hb⟩; replace HT := Aside0.mk (HT.out.below hb); clear hb c8)
        | (go_at_call 10; refine (disk_write HT.out.d (by omega) _ _ (by rw [sec_size]; decide)).mono ?_; rintro e w10 ⟨rfl, n2, hn2, hd, hk⟩; replace HT := Aside0.mk (HT.out.turnD hd hk); clear hd hk; have c8 : w10.cell? ⟨ga, k, none⟩ = some (.int .i64 y) := (HT.out.a.cell k (by rw [HL.out]; exact hk8)).trans (by rw [HY.out])))
      go_upto_region 13 with (first
        | (go_at_call 11; refine (sector_calls _ _).mono ?_; rintro e w9 ⟨rfl, hb⟩; replace HT := Aside0.mk (HT.out.below hb); clear hb c8)
        | (go_at_call 10; refine (disk_write HT.out.o (by omega) _ _ (by rw [sec_size]; decide)).mono ?_; rintro e w11 ⟨rfl, m2, hm2, hd, hk⟩; replace HT := Aside0.mk (HT.out.turnO hd hk); clear hd hk))
      have hk2 : k < (d.wr k (sec y)).S.length := by rw [Dk.wr_len]; omega
      have e1 := Dk.rd_in (d.wr k (sec y)) k hk2
      have e2 : (d.wr k (sec y)).now k = sec y := by rw [HS2.out k hk8, HY.out]
      rw [e2] at e1
      have HE := Aside0.mk e1
      clear e1 e2 hk2
      go_upto_region 14 with (first
        | (go_at_call 9; refine (disk_read HT.out.d _).mono ?_; rintro e w12 ⟨rfl, hd⟩; replace HT := Aside0.mk (HT.out.drawn hd); clear hd; rw [HE.out.1, HE.out.2]; have c8 : w12.cell? ⟨ga, k, none⟩ = some (.int .i64 y) := (HT.out.a.cell k (by rw [HL.out]; exact hk8)).trans (by rw [HY.out])))
      go_wp2_with (first
        | (go_at_call 13; refine (num_calls _ _).mono ?_; rintro e w13 ⟨rfl, hd⟩; replace HT := Aside0.mk (HT.out.drawn hd); clear hd; have c8 : w13.cell? ⟨ga, k, none⟩ = some (.int .i64 y) := (HT.out.a.cell k (by rw [HL.out]; exact hk8)).trans (by rw [HY.out]))
        | (go_at_call 11; refine (sector_calls _ _).mono ?_; rintro e w9 ⟨rfl, hb⟩; replace HT := Aside0.mk (HT.out.below hb); clear hb c8))
      exact ⟨⟨i + 1, is.set k y, _, _, n2, m2, congrArg (Value.int .i64) (by omega), ⟨by omega, by omega, by omega, HL.out, by rw [Dk.wr_len]; exact hN5, by rw [Dk.wr_len]; exact hN6⟩, HS2, HT⟩, by simp [intOf]; omega⟩
    · obtain ⟨hN1, hN2, hN3, hN4, hN5, hN6⟩ := HN.out
      have hout : ¬ ((i : Int) < xs.length ∧ (i : Int) < 60) := by omega
      clear hlt HN
      by_cases hi1 : i < xs.length
      all_goals (
        have hh : (60 : Int) ≤ i ∨ (xs.length : Int) ≤ i := by omega
        go_upto_region 18 with (first
          | (go_at_call 17; refine (sync_calls _ g bs bm _ _ HT.out.d).mono ?_; rintro e w8 ⟨rfl, hd, hk⟩; replace HT := Aside0.mk (HT.out.turnD hd hk); clear hd hk; have c0 : w8.cell? ⟨gc, 0, none⟩ = some (.int .i64 keep) := (blk_cell HT.out.c 0).trans rfl; have c1 : w8.cell? ⟨gc, 1, none⟩ = some (.int .i64 torn) := (blk_cell HT.out.c 1).trans rfl; have c2 : w8.cell? ⟨gc, 2, none⟩ = some (.int .i64 bytes) := (blk_cell HT.out.c 2).trans rfl)
          | (go_at_call 12; refine (disk_crash HT.out.d (by omega) _ _ _).mono ?_; rintro e w9 ⟨rfl, n2, hn2, hd, hk⟩; replace HT := Aside0.mk (HT.out.turnD hd hk); clear hd hk c0 c1 c2))
        go_wp2
        have HD := Aside0.mk (show ∀ k : Nat, k < 8 → (d.synced.cr keep torn bytes).rd k = sec (is.getD k 0) ∧ (d.synced.cr keep torn bytes).rdE k = 0 from fun k hk => by
          have h1 := Dk.rd_in (d.synced.cr keep torn bytes) k (by rw [Dk.cr_len, Dk.synced_len]; omega)
          rw [Dk.now_synced_cr d keep torn bytes k (by omega), HS.out k hk] at h1
          exact h1)
        clear HS hh hout
        go_loopw [15] (fun v wr => ∃ (j : Nat), v = .int .i64 j ∧ Aside0 (j ≤ 8) ∧ Aside0 (Two W wr g bs bm g' bs' bm' ga gc (.cells #[.int .i64 keep, .int .i64 torn, .int .i64 bytes] 34) (d.synced.cr keep torn bytes) o n2 m is)) (fun v _ => 8 - (intOf v).toNat)
        case atStart => exact ⟨0, rfl, ⟨by decide⟩, HT⟩
        case round =>
          clear HT
          obtain ⟨j, rfl, HJ, HT⟩ := hrel
          by_cases hj : j < 8
          · have c8 := HT.out.a.cell j (by omega)
            go_upto_region 22 with (first
              | (go_at_call 9; refine (disk_read HT.out.d _).mono ?_; rintro e w12 ⟨rfl, hd⟩; replace HT := Aside0.mk (HT.out.drawn hd); clear hd c8; rw [(HD.out j hj).1, (HD.out j hj).2]; have c8 := HT.out.a.cell j (by omega)))
            go_wp2_with (first
              | (go_at_call 13; refine (num_calls _ _).mono ?_; rintro e w13 ⟨rfl, hd⟩; replace HT := Aside0.mk (HT.out.drawn hd); clear hd c8; have c8 := HT.out.a.cell j (by omega))
              | (go_at_call 11; refine (sector_calls _ _).mono ?_; rintro e w9 ⟨rfl, hb⟩; replace HT := Aside0.mk (HT.out.below hb); clear hb c8))
            exact ⟨⟨j + 1, congrArg (Value.int .i64) (by omega), ⟨by omega⟩, HT⟩, by simp [intOf]; omega⟩
          · go_wp2_with (first
              | (go_at_call 13; refine (num_calls _ _).mono ?_; rintro e w13 ⟨rfl, hd⟩; replace HT := Aside0.mk (HT.out.drawn hd); clear hd))
            go_ret
            exact ⟨rfl, HT.out.bel⟩)
end Go.Proofs.Ytgdalpjglmlmkaa.D
