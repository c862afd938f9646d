/-
  The law DiskActs, walked.
-/
import Derived.Test.YtgdalpjglmlmkaaDSame
import Derived.Test.YtgdalpjglmlmkaaDBox
import Derived.Deep.RegionHeld3
namespace Go.Proofs.Ytgdalpjglmlmkaa.D
open Go.RowKit Go.Maps Go.Proofs.YtgdalpjglmlmkaaW.PrintWords Go.Proofs.YtgdalpjglmlmkaaW.PrintLast Go.Proofs.YtgdalpjglmlmkaaW.PrintMore Go.Proofs.Ytgdalpjglmlmkaa.Open
set_option linter.unusedVariables false
set_option linter.unusedSimpArgs false

/-! ### an act -/
structure Ac where
  kind : Int
  at_ : Int
  s : ByteArray
  keep : Int
  torn : Int
  bytes : Int
def ac0 : Ac := ⟨0, 0, ByteArray.empty, 0, 0, 0⟩
def kAc : Kd Ac := Kd.iso (Kd.pair (Kd.int .i64) (Kd.pair (Kd.int .i64) (Kd.pair Kd.string kCrash))) (fun x : Ac => (x.kind, x.at_, x.s, x.keep, x.torn, x.bytes))
def Ac.cells (x : Ac) : List Value := [.int .i64 x.kind, .int .i64 x.at_, .string x.s, .int .i64 x.keep, .int .i64 x.torn, .int .i64 x.bytes]
theorem kAc_open {w : World} {x : Ac} {cs : List Value} (h : kAc.K w x cs) : cs = x.cells := by
  obtain ⟨_, _, rfl, rfl, _, _, rfl, rfl, _, c2, rfl, rfl, hc⟩ := h
  have := kCrash_open hc
  subst this
  rfl
theorem oAc : Opn Try.prog kAc 42 (fun x => x.s.size ≤ 9223372036854775807) :=
  oWeak (Opn.struct (g := fun p : Int × Int × ByteArray × CrashT => (⟨p.1, p.2.1, p.2.2.1, p.2.2.2.1, p.2.2.2.2.1, p.2.2.2.2.2⟩ : Ac)) Try.underlying42 (by kernel_rfl) (fun _ => rfl) (OpnFs.cons rfl (by kernel_rfl) (Opn.int Try.underlying3) (OpnFs.cons rfl (by kernel_rfl) (Opn.int Try.underlying3) (OpnFs.cons rfl (by kernel_rfl) (Opn.string Try.underlying9) (OpnFs.last rfl (by kernel_rfl) oCrash))))) (fun x hx => hx.2.2.1)
theorem oActs : Opn Try.prog (Kd.slice 42 kAc) 37 (fun l => ∀ x ∈ l, x.s.size ≤ 9223372036854775807) :=
  oWeak (Opn.slice Try.underlying37 (by kernel_rfl) oAc) (fun _ h => h.2)
/-- the i-th act's cells -/
theorem at_ac {w : World} {A : Option Addr} {n : Nat} {xs : List Ac} (h : kAc.C w A n xs) (i : Nat) (hi : i < n) : ∃ ad, A = some ad ∧ ∀ j u, (xs.getD i ac0).cells[j]? = some u → w.cell? (ad.add (i * 6 + j)) = some u := by
  obtain ⟨ad, c, e, _, hK, hc0⟩ := Kd.C_get h ac0 (i : Int) (by omega) (by omega)
  rw [Int.toNat_natCast] at hK hc0
  obtain rfl := kAc_open hK
  exact ⟨ad, e, hc0⟩

/-- the two disks -/
structure Both (W w : World) (g bs bm r b0 b1 b2 : Nat) (d : Dk) (n : Nat) (R : Rk) : Prop where
  isd : DiskIs w g bs bm d n
  isr : RefIs w r b0 b1 b2 R
  same : Same d R
  bel : Below W.heap.size W w
  hd : ∀ k, Parts g bs bm k → W.heap.size ≤ k
  hr : ∀ k, RParts r b0 b1 b2 k → W.heap.size ≤ k
  apart : ∀ k, Parts g bs bm k → ¬ RParts r b0 b1 b2 k
section
variable {W w w1 : World} {g bs bm r b0 b1 b2 : Nat} {d : Dk} {n : Nat} {R : Rk}
theorem Both.below (h : Both W w g bs bm r b0 b1 b2 d n R) (hb : Below w.heap.size w w1) : Both W w1 g bs bm r b0 b1 b2 d n R :=
  { h with isd := h.isd.below hb, isr := h.isr.below hb, bel := below_step h.bel hb }
theorem Both.drawn (h : Both W w g bs bm r b0 b1 b2 d n R) (hb : Drawn0 w w1) : Both W w1 g bs bm r b0 b1 b2 d n R := h.below hb.below
/-- both turned, one behind the other -/
theorem Both.turn {w2 w3 : World} (h : Both W w g bs bm r b0 b1 b2 d n R) {d2 : Dk} {n2 : Nat} (h2 : DiskIs w1 g bs bm d2 n2) (hk : Kp w w1 (Parts g bs bm)) (hb : Below w1.heap.size w1 w2) {R2 : Rk} (hr2 : RefIs w3 r b0 b1 b2 R2) (hk2 : Kp w2 w3 (RParts r b0 b1 b2)) (hs : Same d2 R2) : Both W w3 g bs bm r b0 b1 b2 d2 n2 R2 := by
  have b1' : Below W.heap.size W w1 := h.bel.trans (hk.to_below h.bel.size h.hd)
  have b2' := below_step b1' hb
  exact { h with isd := (h2.below hb).kept hk2.kept (fun hp => h.apart _ (.inl rfl) hp) (fun hp => h.apart _ (.inr (.inl rfl)) hp) (fun hp => h.apart _ (.inr (.inr rfl)) hp), isr := hr2, same := hs, bel := b2'.trans (hk2.to_below b2'.size h.hr) }
/-- the first turned: the second is as it was -/
theorem Both.other (h : Both W w g bs bm r b0 b1 b2 d n R) (hk : Kp w w1 (Parts g bs bm)) : RefIs w1 r b0 b1 b2 R := h.isr.kept hk (fun k hr hp => h.apart k hp hr)
end
theorem sizesN {w : World} {g bs bm : Nat} {d : Dk} {n : Nat} {R : Rk} (h : DiskIs w g bs bm d n) (hs : Same d R) : (∀ k, k < R.now.length → (R.now.getD k ByteArray.empty).size = 64) ∧ ∀ k, k < R.now.length → (R.then_.getD k ByteArray.empty).size = 64 := by
  refine ⟨fun k hk => ?_, fun k hk => ?_⟩
  · rw [hs.ls] at hk
    rw [hs.now k hk]
    exact now_size h k hk
  · rw [hs.ls] at hk
    rw [hs.th k hk]
    refine h.size _ ?_
    have : d.S.getD k ByteArray.empty = d.S[k] := by simp [hk]
    rw [this]
    exact List.getElem_mem hk

set_option maxHeartbeats 8000000 in
set_option maxRecDepth 100000 in
theorem acts_calls (W : World) (sectors : Int) (A : Option Addr) (c : Nat) (xs : List Ac) (hC : kAc.C W A xs.length xs) (hc : xs.length ≤ c) (hok : ∀ x ∈ xs, x.s.size ≤ 9223372036854775807) :
    Calls Try.prog 4 #[.int .i64 sectors, .slice A xs.length c] W fun e W' => e = .returned (.bool true) ∧ Below W.heap.size W W' := by
  have HC := Aside0.mk hC
  have HOK := Aside0.mk hok
  clear hC hok
  by_cases hs : 1 ≤ sectors ∧ sectors ≤ 1024
  · obtain ⟨q, rfl⟩ := Int.eq_ofNat_of_zero_le (a := sectors) (by omega)
    have hq1 : 1 ≤ q := by omega
    have hq2 : q ≤ 1024 := by omega
    clear hs
    go_enter Try.func4, Try.ntmps4
    go_upto_region 2 with (first
      | (go_at_call 8; refine (new_mine _ q hq1 hq2).mono ?_; rintro e w1 ⟨g, bs, bm, rfl, hm⟩; have HM := Aside0.mk hm; clear hm))
    go_upto_region 3 with (first
      | (go_at_call 14; refine (rnew_calls _ q hq1 hq2).mono ?_; rintro e w2 ⟨r, b0, b1, b2, rfl, hr, hb, hge⟩; have HR := Aside0.mk hr; have HB := Aside0.mk hb; have HGE := Aside0.mk hge; clear hr hb hge))
    have HT := Aside0.mk (show Both W w2 g bs bm r b0 b1 b2 (Dk.fresh q) 0 (Rk.fresh q) from ⟨HM.out.is.below HB.out, HR.out, same_fresh q, below_step HM.out.bel HB.out, fun k hk => HM.out.ge hk, fun k hk => Nat.le_trans HM.out.bel.size (HGE.out k hk), fun k hk hr => by have := HM.out.is.lt hk; have := HGE.out k hr; omega⟩)
    clear HM HR HB HGE
    go_upto_region 7 with (go_at_call 13; refine (num_calls _ _).mono ?_; rintro e w13 ⟨rfl, hd⟩; replace HT := Aside0.mk (HT.out.drawn hd); clear hd)
    go_upto_block 0 with fail
    go_cut [] (fun wx => ∃ (d : Dk) (n : Nat) (R : Rk), Aside0 (n ≤ 100 ∧ d.S.length = q) ∧ Aside0 (Both W wx g bs bm r b0 b1 b2 d n R))
    case first =>
      go_wp2_with fail
      go_loopw [9] (fun v wr => ∃ (i : Nat) (d : Dk) (n : Nat) (R : Rk), v = .int .i64 i ∧ Aside0 (i ≤ 100 ∧ n ≤ i ∧ d.S.length = q) ∧ Aside0 (Both W wr g bs bm r b0 b1 b2 d n R)) (fun v _ => 100 - (intOf v).toNat)
      case atStart => exact ⟨0, Dk.fresh q, 0, Rk.fresh q, rfl, ⟨by decide, by decide, by simp [Dk.fresh]⟩, HT⟩
      case round =>
        clear HT
        obtain ⟨i, d, n, R, rfl, HN, HT⟩ := hrel
        obtain ⟨hN1, hN2, hN3⟩ := HN.out
        by_cases hlt : i < xs.length ∧ i < 100
        · obtain ⟨hi1, hi2⟩ := hlt
          obtain ⟨ad, rfl, hcell⟩ := at_ac HC.out i hi1
          obtain ⟨x, hx⟩ : ∃ x, x = xs.getD i ac0 := ⟨_, rfl⟩
          rw [← hx] at hcell
          have HSZ := Aside0.mk (show x.s.size ≤ 9223372036854775807 from by
            rw [hx]
            refine HOK.out _ ?_
            have : xs.getD i ac0 = xs[i] := by simp [hi1]
            rw [this]
            exact List.getElem_mem hi1)
          obtain ⟨kind, at_, s, keep, torn, bytes⟩ := x
          have y0 := pw_cell_below HT.out.bel (hcell 0 _ rfl)
          have y1 := pw_cell_below HT.out.bel (hcell 1 _ rfl)
          have y2 := pw_cell_below HT.out.bel (hcell 2 _ rfl)
          have y3 := pw_cell_below HT.out.bel (hcell 3 _ rfl)
          have y4 := pw_cell_below HT.out.bel (hcell 4 _ rfl)
          have y5 := pw_cell_below HT.out.bel (hcell 5 _ rfl)
          simp only at HSZ y0 y1 y2 y3 y4 y5
          rw [Nat.add_zero] at y0
          rw [add_field _ _ _ (by decide)] at y1 y2 y3 y4 y5
          clear hcell hx
          go_upto_region 11 with fail
          have hbl := below_alloc (Below.refl wr.heap.size wr) (.cells #[.int .i64 kind, .int .i64 at_, .string s, .int .i64 keep, .int .i64 torn, .int .i64 bytes] 42)
          have HA := Aside0.mk (heap_alloc_new wr (.cells #[.int .i64 kind, .int .i64 at_, .string s, .int .i64 keep, .int .i64 torn, .int .i64 bytes] 42))
          have HNA := Aside0.mk (show ¬ Parts g bs bm wr.heap.size ∧ ¬ RParts r b0 b1 b2 wr.heap.size from ⟨fun hk => by have := HT.out.isd.lt hk; omega, fun hk => by have := HT.out.isr.lt_ hk; omega⟩)
          replace HT := Aside0.mk (HT.out.below hbl)
          clear hbl y0 y1 y2 y3 y4 y5
          generalize wr.alloc (.cells #[.int .i64 kind, .int .i64 at_, .string s, .int .i64 keep, .int .i64 torn, .int .i64 bytes] 42) = w8 at HA HT ⊢
          generalize wr.heap.size = a at HA HNA ⊢
          have HK6 := Aside0.mk (show ∀ w' : World, w'.heap[a]? = some (.cells #[.int .i64 kind, .int .i64 at_, .string s, .int .i64 keep, .int .i64 torn, .int .i64 bytes] 42 (0, 0)) → w'.cell? ⟨a, 0, none⟩ = some (.int .i64 kind) ∧ w'.cell? ⟨a, 1, none⟩ = some (.int .i64 at_) ∧ w'.cell? ⟨a, 2, none⟩ = some (.string s) ∧ w'.cell? ⟨a, 3, none⟩ = some (.int .i64 keep) ∧ w'.cell? ⟨a, 4, none⟩ = some (.int .i64 torn) ∧ w'.cell? ⟨a, 5, none⟩ = some (.int .i64 bytes) from fun w' h => ⟨(blk_cell h 0).trans rfl, (blk_cell h 1).trans rfl, (blk_cell h 2).trans rfl, (blk_cell h 3).trans rfl, (blk_cell h 4).trans rfl, (blk_cell h 5).trans rfl⟩)
          obtain ⟨y0, y1, y2, y3, y4, y5⟩ := HK6.out _ HA.out
          by_cases k5 : kind < 5
          · go_upto_region 16 with (go_at_call 10; refine (disk_write HT.out.isd (by omega) _ _ HSZ.out).mono ?_; rintro e w9 ⟨rfl, n2, hn2, hd, hk⟩; have HD := Aside0.mk hd; have HKD := Aside0.mk hk; have HRR := Aside0.mk (HT.out.other hk); replace HA := Aside0.mk (hk.blkOf HA.out HNA.out.1); clear hd hk y0 y1 y2 y3 y4 y5)
            have HBL := Aside0.mk (show Below w9.heap.size w9 w9.drew from below_drew (Below.refl _ _))
            replace HRR := Aside0.mk (HRR.out.below HBL.out)
            replace HA := Aside0.mk (blk_below HA.out HBL.out)
            go_region_held3 (fun w' => w'.cell? ⟨a, 0, none⟩ = some (.int .i64 kind) ∧ w'.cell? ⟨a, 1, none⟩ = some (.int .i64 at_) ∧ w'.cell? ⟨a, 2, none⟩ = some (.string s) ∧ w'.cell? ⟨a, 3, none⟩ = some (.int .i64 keep) ∧ w'.cell? ⟨a, 4, none⟩ = some (.int .i64 torn) ∧ w'.cell? ⟨a, 5, none⟩ = some (.int .i64 bytes)) (exact HK6.out _ HA.out) (first
              | (go_at_call 13; refine (num_calls _ _).mono ?_; rintro e w10 ⟨rfl, hd⟩; replace HBL := Aside0.mk (below_step HBL.out hd.below); replace HRR := Aside0.mk (HRR.out.drawn hd); replace HA := Aside0.mk (blk_below HA.out hd.below); clear hd)
              | (go_at_call 15; refine (rwrite HRR.out _ _ HSZ.out).mono ?_; rintro e w12 ⟨rfl, hr, hk⟩; rw [HT.out.same.wrE]; replace HT := Aside0.mk (HT.out.turn HD.out HKD.out HBL.out hr hk (HT.out.same.wr at_ s)); replace HA := Aside0.mk (hk.blkOf HA.out HNA.out.2); clear hr hk HBL HRR HD HKD))
            all_goals (
              clear HA HK6 HNA
              go_wp2_with (first
                | (go_at_call 13; refine (num_calls _ _).mono ?_; rintro e w20 ⟨rfl, hd⟩; replace HT := Aside0.mk (HT.out.drawn hd); clear hd)
                | (go_at_call 20; refine (dirty_calls _ _ _ _ _ _ HT.out.isd).mono ?_; rintro e w20 ⟨rfl, hd⟩; replace HT := Aside0.mk (HT.out.drawn hd); clear hd)
                | (go_at_call 21; refine (rdirty HT.out.isr).mono ?_; rintro e w20 ⟨rfl, hd⟩; replace HT := Aside0.mk (HT.out.drawn hd); clear hd; rw [HT.out.same.num])
                | (go_at_call 22; refine (sectors_calls _ _ _ _ _ _ HT.out.isd).mono ?_; rintro e w20 ⟨rfl, hd⟩; replace HT := Aside0.mk (HT.out.drawn hd); clear hd)
                | (go_at_call 23; refine (rsectors HT.out.isr).mono ?_; rintro e w20 ⟨rfl, hd⟩; replace HT := Aside0.mk (HT.out.drawn hd); clear hd; rw [HT.out.same.ls]))
              exact ⟨⟨i + 1, _, n2, _, congrArg (Value.int .i64) (by omega), ⟨by omega, by omega, by rw [Dk.wr_len]; exact hN3⟩, HT⟩, by simp [intOf]; omega⟩)
          · by_cases k7 : kind < 7
            · go_upto_region 19 with (go_at_call 9; refine (disk_read HT.out.isd _).mono ?_; rintro e w9 ⟨rfl, hd⟩; replace HT := Aside0.mk (HT.out.drawn hd); replace HA := Aside0.mk (blk_below HA.out hd.below); clear hd y0 y1 y2 y3 y4 y5; obtain ⟨y0, y1, y2, y3, y4, y5⟩ := HK6.out _ HA.out)
              go_upto_region 20 with (go_at_call 16; refine (rread HT.out.isr _).mono ?_; rintro e w9 ⟨rfl, hd⟩; replace HT := Aside0.mk (HT.out.drawn hd); clear hd y0 y1 y2 y3 y4 y5; rw [HT.out.same.rd, HT.out.same.rdE])
              clear HA HK6 HNA
              go_wp2_with (first
                | (go_at_call 13; refine (num_calls _ _).mono ?_; rintro e w20 ⟨rfl, hd⟩; replace HT := Aside0.mk (HT.out.drawn hd); clear hd)
                | (go_at_call 20; refine (dirty_calls _ _ _ _ _ _ HT.out.isd).mono ?_; rintro e w20 ⟨rfl, hd⟩; replace HT := Aside0.mk (HT.out.drawn hd); clear hd)
                | (go_at_call 21; refine (rdirty HT.out.isr).mono ?_; rintro e w20 ⟨rfl, hd⟩; replace HT := Aside0.mk (HT.out.drawn hd); clear hd; rw [HT.out.same.num])
                | (go_at_call 22; refine (sectors_calls _ _ _ _ _ _ HT.out.isd).mono ?_; rintro e w20 ⟨rfl, hd⟩; replace HT := Aside0.mk (HT.out.drawn hd); clear hd)
                | (go_at_call 23; refine (rsectors HT.out.isr).mono ?_; rintro e w20 ⟨rfl, hd⟩; replace HT := Aside0.mk (HT.out.drawn hd); clear hd; rw [HT.out.same.ls]))
              exact ⟨⟨i + 1, _, n, _, congrArg (Value.int .i64) (by omega), ⟨by omega, by omega, hN3⟩, HT⟩, by simp [intOf]; omega⟩
            · by_cases k9 : kind < 9
              · go_upto_region 23 with (go_at_call 17; refine (sync_calls _ _ _ _ _ _ HT.out.isd).mono ?_; rintro e w9 ⟨rfl, hd, hk⟩; have HD := Aside0.mk hd; have HKD := Aside0.mk hk; have HRR := Aside0.mk (HT.out.other hk); clear hd hk y0 y1 y2 y3 y4 y5)
                obtain ⟨rn, rt, rd_⟩ := R
                go_upto_region 24 with (go_at_call 18; refine (rsync HRR.out).mono ?_; rintro e w12 ⟨rfl, hr, hk⟩; replace HT := Aside0.mk (HT.out.turn HD.out HKD.out (Below.refl _ _) hr hk HT.out.same.sync); clear hr hk HRR HD HKD)
                clear HA HK6 HNA
                go_wp2_with (first
                  | (go_at_call 13; refine (num_calls _ _).mono ?_; rintro e w20 ⟨rfl, hd⟩; replace HT := Aside0.mk (HT.out.drawn hd); clear hd)
                  | (go_at_call 20; refine (dirty_calls _ _ _ _ _ _ HT.out.isd).mono ?_; rintro e w20 ⟨rfl, hd⟩; replace HT := Aside0.mk (HT.out.drawn hd); clear hd)
                  | (go_at_call 21; refine (rdirty HT.out.isr).mono ?_; rintro e w20 ⟨rfl, hd⟩; replace HT := Aside0.mk (HT.out.drawn hd); clear hd; rw [HT.out.same.num])
                  | (go_at_call 22; refine (sectors_calls _ _ _ _ _ _ HT.out.isd).mono ?_; rintro e w20 ⟨rfl, hd⟩; replace HT := Aside0.mk (HT.out.drawn hd); clear hd)
                  | (go_at_call 23; refine (rsectors HT.out.isr).mono ?_; rintro e w20 ⟨rfl, hd⟩; replace HT := Aside0.mk (HT.out.drawn hd); clear hd; rw [HT.out.same.ls]))
                exact ⟨⟨i + 1, _, 0, _, congrArg (Value.int .i64) (by omega), ⟨by omega, by omega, by rw [Dk.synced_len]; exact hN3⟩, HT⟩, by simp [intOf]; omega⟩
              · go_upto_region 13 with (go_at_call 12; refine (disk_crash HT.out.isd (by omega) _ _ _).mono ?_; rintro e w9 ⟨rfl, n2, hn2, hd, hk⟩; have HD := Aside0.mk hd; have HKD := Aside0.mk hk; have HRR := Aside0.mk (HT.out.other hk); replace HA := Aside0.mk (hk.blkOf HA.out HNA.out.1); clear hd hk y0 y1 y2 y3 y4 y5)
                have HBL := Aside0.mk (show Below w9.heap.size w9 w9.drew from below_drew (Below.refl _ _))
                replace HRR := Aside0.mk (HRR.out.below HBL.out)
                replace HA := Aside0.mk (blk_below HA.out HBL.out)
                obtain ⟨rn, rt, rd_⟩ := R
                have HZZ := Aside0.mk (sizesN HT.out.isd HT.out.same)
                go_region_held3 (fun w' => w'.cell? ⟨a, 0, none⟩ = some (.int .i64 kind) ∧ w'.cell? ⟨a, 1, none⟩ = some (.int .i64 at_) ∧ w'.cell? ⟨a, 2, none⟩ = some (.string s) ∧ w'.cell? ⟨a, 3, none⟩ = some (.int .i64 keep) ∧ w'.cell? ⟨a, 4, none⟩ = some (.int .i64 torn) ∧ w'.cell? ⟨a, 5, none⟩ = some (.int .i64 bytes)) (exact HK6.out _ HA.out) (first
                  | (go_at_call 13; refine (num_calls _ _).mono ?_; rintro e w10 ⟨rfl, hd⟩; replace HBL := Aside0.mk (below_step HBL.out hd.below); replace HRR := Aside0.mk (HRR.out.drawn hd); replace HA := Aside0.mk (blk_below HA.out hd.below); clear hd)
                  | (go_at_call 19; refine (rcrash HRR.out HZZ.out.1 HZZ.out.2 _ _ _).mono ?_; rintro e w12 ⟨rfl, hr, hk⟩; replace HT := Aside0.mk (HT.out.turn HD.out HKD.out HBL.out hr hk (HT.out.same.crash keep torn bytes)); replace HA := Aside0.mk (hk.blkOf HA.out HNA.out.2); clear hr hk HBL HRR HD HKD))
                all_goals (
                  clear HA HK6 HNA
                  go_wp2_with (first
                    | (go_at_call 13; refine (num_calls _ _).mono ?_; rintro e w20 ⟨rfl, hd⟩; replace HT := Aside0.mk (HT.out.drawn hd); clear hd)
                    | (go_at_call 20; refine (dirty_calls _ _ _ _ _ _ HT.out.isd).mono ?_; rintro e w20 ⟨rfl, hd⟩; replace HT := Aside0.mk (HT.out.drawn hd); clear hd)
                    | (go_at_call 21; refine (rdirty HT.out.isr).mono ?_; rintro e w20 ⟨rfl, hd⟩; replace HT := Aside0.mk (HT.out.drawn hd); clear hd; rw [HT.out.same.num])
                    | (go_at_call 22; refine (sectors_calls _ _ _ _ _ _ HT.out.isd).mono ?_; rintro e w20 ⟨rfl, hd⟩; replace HT := Aside0.mk (HT.out.drawn hd); clear hd)
                    | (go_at_call 23; refine (rsectors HT.out.isr).mono ?_; rintro e w20 ⟨rfl, hd⟩; replace HT := Aside0.mk (HT.out.drawn hd); clear hd; rw [HT.out.same.ls]))
                  exact ⟨⟨i + 1, _, n2, _, congrArg (Value.int .i64) (by omega), ⟨by omega, by omega, by rw [Dk.cr_len]; exact hN3⟩, HT⟩, by simp [intOf]; omega⟩)
        · have HN2 := Aside0.mk (show n ≤ 100 ∧ d.S.length = q from ⟨by omega, hN3⟩)
          by_cases hi1 : i < xs.length
          all_goals (
            have hh : (100 : Int) ≤ i ∨ (xs.length : Int) ≤ i := by omega
            go_wp2
            go_meet
            exact ⟨d, n, R, HN2, HT⟩)
    case rest =>
      clear HT
      obtain ⟨d, n, R, HN, HT⟩ := hcut
      obtain ⟨hN1, hN3⟩ := HN.out
      go_wp2_with fail
      go_loopw [19] (fun v wr => ∃ (k : Nat), v = .int .i64 k ∧ Aside0 (k ≤ q) ∧ Aside0 (Both W wr g bs bm r b0 b1 b2 d n R)) (fun v _ => q - (intOf v).toNat)
      case atStart => exact ⟨0, rfl, ⟨Nat.zero_le _⟩, HT⟩
      case round =>
        clear HT
        obtain ⟨k, rfl, HK, HT⟩ := hrel
        by_cases hk : k < q
        · go_wp2_with (first
            | (go_at_call 9; refine (disk_read HT.out.isd _).mono ?_; rintro e w9 ⟨rfl, hd⟩; replace HT := Aside0.mk (HT.out.drawn hd); clear hd)
            | (go_at_call 16; refine (rread HT.out.isr _).mono ?_; rintro e w9 ⟨rfl, hd⟩; replace HT := Aside0.mk (HT.out.drawn hd); clear hd; rw [HT.out.same.rd, HT.out.same.rdE]))
          exact ⟨⟨k + 1, congrArg (Value.int .i64) (by omega), ⟨by omega⟩, HT⟩, by simp [intOf]; omega⟩
        · go_wp2_with (go_at_call 7; refine (awake_calls _).mono ?_; rintro e w30 ⟨rfl, hb⟩; have HB := Aside0.mk (below_step HT.out.bel hb); clear hb)
          go_ret
          exact ⟨rfl, HB.out⟩
  · have hs1 := hs
    go_enter Try.func4, Try.ntmps4
    go_wp2_with (first
      | (go_at_call 8; refine (new_none _ _ hs1).mono ?_; rintro e w1 ⟨rfl, hd⟩; have HB := Aside0.mk (Drawn0.below hd); clear hd)
      | (go_at_call 14; refine (rnew_none _ _ hs1).mono ?_; rintro e w2 ⟨rfl, hd⟩; replace HB := Aside0.mk (below_step HB.out hd.below); clear hd)
      | (go_at_call 13; refine (num_calls _ _).mono ?_; rintro e w3 ⟨rfl, hd⟩; replace HB := Aside0.mk (below_step HB.out hd.below); clear hd)
      | (go_at_call 7; refine (awake_calls _).mono ?_; rintro e w4 ⟨rfl, hb⟩; replace HB := Aside0.mk (below_step HB.out hb); clear hb))
    go_ret
    exact ⟨rfl, HB.out⟩
end Go.Proofs.Ytgdalpjglmlmkaa.D
