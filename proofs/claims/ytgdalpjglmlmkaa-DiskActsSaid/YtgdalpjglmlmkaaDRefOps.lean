/-
  The document's disk: Read, Write, Sync, Dirty, Sectors, walked.
-/
import Derived.Test.YtgdalpjglmlmkaaDRef
namespace Go.Proofs.Ytgdalpjglmlmkaa.D
open Go.RowKit Go.Maps Go.Proofs.YtgdalpjglmlmkaaW.PrintWords Go.Proofs.YtgdalpjglmlmkaaW.PrintLast Go.Proofs.YtgdalpjglmlmkaaW.PrintMore
set_option linter.unusedVariables false
set_option linter.unusedSimpArgs false

def Rk.inB (R : Rk) (i : Int) : Prop := 0 ≤ i ∧ i < R.now.length
instance (R : Rk) (i : Int) : Decidable (R.inB i) := inferInstanceAs (Decidable (0 ≤ i ∧ i < R.now.length))
def Rk.rd (R : Rk) (i : Int) : ByteArray := if R.inB i then R.now.getD i.toNat ByteArray.empty else ByteArray.empty
def Rk.rdE (R : Rk) (i : Int) : Int := if R.inB i then 0 else 800
def Rk.wr (R : Rk) (i : Int) (s : ByteArray) : Rk := if R.inB i ∧ s.size = 64 then ⟨R.now.set i.toNat s, R.then_, R.dirty.set i.toNat true⟩ else R
def Rk.wrE (R : Rk) (i : Int) (s : ByteArray) : Int := if R.inB i ∧ s.size = 64 then 0 else 800
def Rk.sync (R : Rk) : Rk := ⟨R.now, R.now, List.replicate R.now.length false⟩
section
variable {W : World} {r b0 b1 b2 : Nat} {R : Rk}
theorem RefIs.cells (h : RefIs W r b0 b1 b2 R) : ∃ c0 c1 c2 : Nat, W.cell? ⟨r, 0, none⟩ = some (.slice (some ⟨b0, 0, none⟩) R.now.length c0) ∧ W.cell? ⟨r, 1, none⟩ = some (.slice (some ⟨b1, 0, none⟩) R.now.length c1) ∧ W.cell? ⟨r, 2, none⟩ = some (.slice (some ⟨b2, 0, none⟩) R.now.length c2) := by
  obtain ⟨c0, c1, c2, hb⟩ := h.box
  exact ⟨c0, c1, c2, (blk_cell hb 0).trans rfl, (blk_cell hb 1).trans rfl, (blk_cell hb 2).trans rfl⟩
set_option maxHeartbeats 4000000 in
set_option maxRecDepth 100000 in
theorem rsectors (h : RefIs W r b0 b1 b2 R) : Calls Try.prog 23 #[.pointer (some ⟨r, 0, none⟩)] W fun e W' => e = .returned (.int .i64 R.now.length) ∧ Drawn0 W W' := by
  obtain ⟨c0, c1, c2, q0, q1, q2⟩ := h.cells
  have HH := Aside0.mk h
  clear h
  go_enter Try.func23, Try.ntmps23
  go_wp2
  go_ret
  exact ⟨rfl, Drawn0.refl _⟩
set_option maxHeartbeats 4000000 in
set_option maxRecDepth 100000 in
theorem rread (h : RefIs W r b0 b1 b2 R) (i : Int) : Calls Try.prog 16 #[.pointer (some ⟨r, 0, none⟩), .int .i64 i] W fun e W' => e = .returned (.tuple #[.string (R.rd i), .int .i64 (R.rdE i)]) ∧ Drawn0 W W' := by
  obtain ⟨c0, c1, c2, q0, q1, q2⟩ := h.cells
  have HH := Aside0.mk h
  clear h
  unfold Rk.rd Rk.rdE
  by_cases hi : R.inB i
  · rw [if_pos hi, if_pos hi]
    obtain ⟨m, rfl⟩ := Int.eq_ofNat_of_zero_le hi.1
    have hm : m < R.now.length := by have := hi.2; omega
    have q3 := HH.out.now.cell m hm
    rw [Int.toNat_natCast]
    obtain ⟨s, hs⟩ : ∃ s, s = R.now.getD m ByteArray.empty := ⟨_, rfl⟩
    rw [← hs] at q3 ⊢
    clear hi hs
    go_enter Try.func16, Try.ntmps16
    go_wp2
    go_ret2
    exact ⟨rfl, Drawn0.refl _⟩
  · rw [if_neg hi, if_neg hi]
    by_cases h0 : i < 0
    · clear hi
      go_enter Try.func16, Try.ntmps16
      go_wp2
      go_ret2
      exact ⟨rfl, Drawn0.refl _⟩
    · have h1 : (R.now.length : Int) ≤ i := by
        unfold Rk.inB at hi
        omega
      clear hi
      go_enter Try.func16, Try.ntmps16
      go_wp2
      go_ret2
      exact ⟨rfl, Drawn0.refl _⟩
theorem RefIs.wrote (h : RefIs W r b0 b1 b2 R) (i : Nat) (hi : i < R.now.length) (s : ByteArray) : RefIs ((W.setCell ⟨b0, i, none⟩ (.string s)).setCell ⟨b2, i, none⟩ (.bool true)) r b0 b1 b2 ⟨R.now.set i s, R.then_, R.dirty.set i true⟩ := by
  obtain ⟨a1, a2, a3, a4, a5⟩ := h.apart
  obtain ⟨c0, c1, c2, hb⟩ := h.box
  have k1 := kp_one W b0 i (.string s)
  have k2 := kp_one (W.setCell ⟨b0, i, none⟩ (.string s)) b2 i (.bool true)
  refine ⟨⟨c0, c1, c2, ?_⟩, (h.now.put i hi s).turned k2 a4, (h.th.turned k1 h.ne.symm).turned k2 a5, ArrB.put (k1.blkOf h.dirty a4.symm) i true, h.ne, by simp [h.lt], by simp [h.ld], by simp [h.pos], by simp [h.most]⟩
  have := k2.blkOf (k1.blkOf hb a1.symm) a3.symm
  simpa using this
set_option maxHeartbeats 4000000 in
set_option maxRecDepth 100000 in
theorem rwrite (h : RefIs W r b0 b1 b2 R) (i : Int) (s : ByteArray) (hs : s.size ≤ 9223372036854775807) : Calls Try.prog 15 #[.pointer (some ⟨r, 0, none⟩), .int .i64 i, .string s] W fun e W' => e = .returned (.int .i64 (R.wrE i s)) ∧ RefIs W' r b0 b1 b2 (R.wr i s) ∧ Kp W W' (RParts r b0 b1 b2) := by
  obtain ⟨c0, c1, c2, q0, q1, q2⟩ := h.cells
  obtain ⟨a1, a2, a3, a4, a5⟩ := h.apart
  have HH := Aside0.mk h
  clear h
  unfold Rk.wr Rk.wrE
  by_cases hi : R.inB i ∧ s.size = 64
  · rw [if_pos hi, if_pos hi]
    obtain ⟨⟨hi0, hi1⟩, hi2⟩ := hi
    obtain ⟨m, rfl⟩ := Int.eq_ofNat_of_zero_le hi0
    have hm : m < R.now.length := by omega
    have q3 := HH.out.now.cell m hm
    have q4 := HH.out.now.frozen m
    have q5 := HH.out.dirty.cell m (by rw [HH.out.ld]; exact hm)
    have q6 : W.frozen? ⟨b2, m, none⟩ = false := blk_frozen HH.out.dirty m
    rw [Int.toNat_natCast]
    have HW := Aside0.mk (HH.out.wrote m hm s)
    clear hi1
    go_enter Try.func15, Try.ntmps15
    go_wp2
    go_ret
    exact ⟨rfl, HW.out, Kp.setCell (S := RParts r b0 b1 b2) (Kp.setCell (S := RParts r b0 b1 b2) (Kp.refl _ _) (.inl (show RParts r b0 b1 b2 b0 from .inr (.inl rfl))) _) (.inl (show RParts r b0 b1 b2 b2 from .inr (.inr (.inr rfl)))) _⟩
  · rw [if_neg hi, if_neg hi]
    have hi3 : i < 0 ∨ (R.now.length : Int) ≤ i ∨ s.size ≠ 64 := by
      unfold Rk.inB at hi
      omega
    clear hi
    by_cases h0 : i < 0
    · go_enter Try.func15, Try.ntmps15
      go_wp2
      go_ret
      exact ⟨rfl, HH.out, Kp.refl _ _⟩
    · by_cases h1 : (R.now.length : Int) ≤ i
      · go_enter Try.func15, Try.ntmps15
        go_wp2
        go_ret
        exact ⟨rfl, HH.out, Kp.refl _ _⟩
      · have h2 : s.size ≠ 64 := by omega
        go_enter Try.func15, Try.ntmps15
        go_wp2
        go_ret
        exact ⟨rfl, HH.out, Kp.refl _ _⟩
end
end Go.Proofs.Ytgdalpjglmlmkaa.D
