/-
  The law DiskForms, walked.
-/
import Derived.Test.YtgdalpjglmlmkaaDAny
import Derived.Laws.Bits128
namespace Go.Proofs.Ytgdalpjglmlmkaa.D
open Go.RowKit Go.Maps Go.Proofs.YtgdalpjglmlmkaaW.PrintWords Go.Proofs.YtgdalpjglmlmkaaW.PrintLast Go.Proofs.YtgdalpjglmlmkaaW.PrintMore
set_option linter.unusedVariables false
set_option linter.unusedSimpArgs false

theorem fm1 (n : Int) : (newE n = 0 ∧ (decide (1 ≤ n) && decide (n ≤ 1024)) = true) ∨ (newE n = 800 ∧ (decide (1 ≤ n) && decide (n ≤ 1024)) = false) := by
  unfold newE
  by_cases h : 1 ≤ n ∧ n ≤ 1024
  · exact .inl ⟨if_pos h, by rw [← Bool.decide_and]; exact decide_eq_true h⟩
  · exact .inr ⟨if_neg h, by rw [← Bool.decide_and]; exact decide_eq_false h⟩
theorem fm2 (i : Int) : ((Dk.fresh 4).rdE i = 0 ∧ (Dk.fresh 4).wrE i (sec 1) = 0 ∧ (decide (0 ≤ i) && decide (i < 4)) = true) ∨ ((Dk.fresh 4).rdE i = 800 ∧ (Dk.fresh 4).wrE i (sec 1) = 800 ∧ (decide (0 ≤ i) && decide (i < 4)) = false) := by
  have l0 : ((Dk.fresh 4).S.length : Int) = 4 := by decide
  unfold Dk.rdE Dk.wrE
  by_cases h : 0 ≤ i ∧ i < 4
  · have hb : (Dk.fresh 4).inB i := ⟨h.1, by rw [l0]; exact h.2⟩
    exact .inl ⟨if_pos hb, if_pos ⟨hb, sec_size 1⟩, by rw [← Bool.decide_and]; exact decide_eq_true h⟩
  · have hb : ¬ (Dk.fresh 4).inB i := fun hb => h ⟨hb.1, by have := hb.2; rw [l0] at this; exact this⟩
    exact .inr ⟨if_neg hb, if_neg (fun hh => hb hh.1), by rw [← Bool.decide_and]; exact decide_eq_false h⟩
theorem fm3 (i z : Int) (hz0 : 0 ≤ z) (s : ByteArray) (hs : s.size = z.toNat) : (((Dk.fresh 4).wr i (sec 1)).wrE 1 s = 0 ∧ (z == 64) = true) ∨ (((Dk.fresh 4).wr i (sec 1)).wrE 1 s = 800 ∧ (z == 64) = false) := by
  have l0 : ((Dk.fresh 4).S.length : Int) = 4 := by decide
  have hb : ((Dk.fresh 4).wr i (sec 1)).inB 1 := ⟨by decide, by rw [Dk.wr_len, l0]; decide⟩
  unfold Dk.wrE
  by_cases h : z = 64
  · exact .inl ⟨if_pos ⟨hb, by rw [hs, h]; rfl⟩, beq_iff_eq.mpr h⟩
  · exact .inr ⟨if_neg (fun hh => h (by have := hh.2; omega)), beq_eq_false_iff_ne.mpr h⟩
theorem fm4 (n : Int) : (crE n = 0 ∧ (decide (0 ≤ n) && decide (n ≤ 64)) = true) ∨ (crE n = 800 ∧ (decide (0 ≤ n) && decide (n ≤ 64)) = false) := by
  unfold crE
  by_cases h : 0 ≤ n ∧ n ≤ 64
  · exact .inl ⟨if_pos h, by rw [← Bool.decide_and]; exact decide_eq_true h⟩
  · exact .inr ⟨if_neg h, by rw [← Bool.decide_and]; exact decide_eq_false h⟩
set_option maxHeartbeats 8000000 in
set_option maxRecDepth 100000 in
theorem forms_calls (W : World) (sectors at_ size : Int) : Calls Try.prog 3 #[.int .i64 sectors, .int .i64 at_, .int .i64 size] W fun e W' => e = .returned (.bool true) ∧ Below W.heap.size W W' := by
  obtain ⟨z, hz⟩ : ∃ z, z = Go.bits .and .i64 size 127 := ⟨_, rfl⟩
  have hz0 : 0 ≤ z := by rw [hz, i64_and127]; omega
  have hz1 : z ≤ 127 := by rw [hz, i64_and127]; omega
  have HZ := Aside0.mk hz
  go_enter Try.func3, Try.ntmps3
  go_upto_region 3 with (first
    | (go_at_call 7; refine (awake_calls _).mono ?_; rintro e w1 ⟨rfl, hb⟩; have HB := Aside0.mk hb; clear hb))
  go_upto_region 4 with (first
    | (go_at_call 8; refine (new_any _ _).mono ?_; rintro e w1 ⟨p, rfl, hb, _⟩; replace HB := Aside0.mk (below_step HB.out hb); clear hb))
  go_cut [9] (fun s9 wx => w1 = wx ∧ s9 = .bool (decide (1 ≤ sectors) && decide (sectors ≤ 1024)))
  case first =>
    by_cases c1 : 1 ≤ sectors
    · by_cases c2 : sectors ≤ 1024
      · go_wp2
        all_goals (go_meet; first | (simp [c1, c2]; done) | (simp [c1, c2]; omega))
      · go_wp2
        all_goals (go_meet; first | (simp [c1, c2]; done) | (simp [c1, c2]; omega))
    · go_wp2
      all_goals (go_meet; first | (simp [c1]; done) | (simp [c1]; omega))
  case rest =>
    obtain ⟨rfl, rfl⟩ := hcut
    go_upto_region 6 with (first
      | (go_at_call 8; refine (new_mine _ 4 (by decide) (by decide)).mono ?_; rintro e w2 ⟨g, bs, bm, rfl, hm⟩; have HM := Aside0.mk hm; clear hm))
    go_upto_region 7 with (first
      | (go_at_call 9; refine (mine_read HM.out _).mono ?_; rintro e w2 ⟨rfl, hm⟩; replace HM := Aside0.mk hm; clear hm))
    go_cut [14] (fun s14 wx => w2 = wx ∧ s14 = .bool (decide (0 ≤ at_) && decide (at_ < 4)))
    case first =>
      by_cases c1 : 0 ≤ at_
      · by_cases c2 : at_ < 4
        · go_wp2
          all_goals (go_meet; first | (simp [c1, c2]; done) | (simp [c1, c2]; omega))
        · go_wp2
          all_goals (go_meet; first | (simp [c1, c2]; done) | (simp [c1, c2]; omega))
      · go_wp2
        all_goals (go_meet; first | (simp [c1]; done) | (simp [c1]; omega))
    case rest =>
      obtain ⟨rfl, rfl⟩ := hcut
      go_upto_region 9 with (first
        | (go_at_call 11; refine (sector_calls _ _).mono ?_; rintro e w2 ⟨rfl, hb⟩; replace HM := Aside0.mk (HM.out.below hb); clear hb)
        | (go_at_call 10; refine (mine_write HM.out (by decide) _ (sec 1) (by rw [sec_size]; decide)).mono ?_; rintro e w2 ⟨rfl, n2, hn2, hm⟩; replace HM := Aside0.mk hm; clear hm))
      go_upto_region 10 with (first
        | ((with_reducible refine gate_dst (N := 55) rfl ?_); refine Kd.R_make (Kd.int .u8) _ 5 rfl (N := 55) rfl 31 _ _ rfl z (by rw [HZ.out]; rfl) (by rw [HZ.out]; rfl) Try.underlying31 (.int .u8 0) 1 X.info5 rfl (by decide) (by omega) 0 (ok := fun _ => True) (okp := fun _ => True) rfl (fun _ hk => hk) trivial (by omega) (by omega) (Below.refl _ _) (Nat.le_refl _) ?_; intro v1 w3 ho hb hg_ hnew_; clear hg_ hnew_; have hcv := own_string (P := Try.prog) Try.underlying31 Try.underlying5 Try.underlying9 (Kd.own_of_R ho); replace HM := Aside0.mk (HM.out.below hb); clear hb ho)
        | (go_at_call 10; refine (mine_write HM.out (by omega) _ _ (by rw [nought_size]; omega)).mono ?_; rintro e w2 ⟨rfl, n3, hn3, hm⟩; replace HM := Aside0.mk hm; clear hm))
      go_upto_region 11 with (first
        | (go_at_call 12; refine (mine_crash HM.out (by omega) _ _ _).mono ?_; rintro e w2 ⟨rfl, n4, hn4, hm⟩; replace HM := Aside0.mk hm; clear hm))
      go_cut [18] (fun s18 wx => w2 = wx ∧ s18 = .bool (decide (0 ≤ size) && decide (size ≤ 64)))
      case first =>
        by_cases c1 : 0 ≤ size
        · by_cases c2 : size ≤ 64
          · go_wp2
            all_goals (go_meet; first | (simp [c1, c2]; done) | (simp [c1, c2]; omega))
          · go_wp2
            all_goals (go_meet; first | (simp [c1, c2]; done) | (simp [c1, c2]; omega))
        · go_wp2
          all_goals (go_meet; first | (simp [c1]; done) | (simp [c1]; omega))
      case rest =>
        obtain ⟨rfl, rfl⟩ := hcut
        have e1 := fm1 sectors
        have e2 := fm2 at_
        have e3 := fm3 at_ (Go.bits .and .i64 size 127) (by rw [← hz]; exact hz0) (strOfNums (List.replicate (Go.bits .and .i64 size 127).toNat 0)) (nought_size _)
        have e4 := fm4 size
        clear hz hz0 hz1 HZ hcv
        rcases e1 with ⟨x1, y1⟩ | ⟨x1, y1⟩ <;> rcases e2 with ⟨x2, y2, z2⟩ | ⟨x2, y2, z2⟩ <;> rcases e3 with ⟨x3, y3⟩ | ⟨x3, y3⟩ <;> rcases e4 with ⟨x4, y4⟩ | ⟨x4, y4⟩ <;> rw [x1, y1, x2, y2, z2, x3, x4, y4]
        all_goals clear x1 y1 x2 y2 z2 x3 x4 y4
        all_goals go_wp2_with (go_at_call 13; refine (num_calls _ _).mono ?_; rintro e w2 ⟨rfl, hd⟩; replace HM := Aside0.mk (HM.out.drawn hd); clear hd)
        all_goals go_ret
        all_goals exact ⟨rfl, below_step HB.out HM.out.bel⟩
end Go.Proofs.Ytgdalpjglmlmkaa.D
