/-
  What a disk holds behind a write, a sync, a crash: plain.
-/
import Derived.Test.YtgdalpjglmlmkaaDAny
import Derived.Laws.BitsLemmas
namespace Go.Proofs.Ytgdalpjglmlmkaa.D
open Go.RowKit Go.Maps Go.Proofs.YtgdalpjglmlmkaaW.PrintWords Go.Proofs.YtgdalpjglmlmkaaW.PrintLast Go.Proofs.YtgdalpjglmlmkaaW.PrintMore
set_option linter.unusedVariables false
set_option linter.unusedSimpArgs false

theorem i64_mask (m : Nat) (hm : m ≤ 62) (n : Int) : Go.bits .and .i64 n ((2 ^ m - 1 : Nat) : Int) = n % ((2 ^ m : Nat) : Int) := by
  have hp : 2 ^ m < 2 ^ 63 := Nat.pow_lt_pow_right (by omega) (by omega)
  have hp0 : 0 < 2 ^ m := Nat.pow_pos (by omega)
  have h127 : (BitVec.ofInt 64 ((2 ^ m - 1 : Nat) : Int)).toNat = 2 ^ m - 1 := by
    rw [BitVec.toNat_ofInt]
    omega
  have key : (BitVec.ofInt 64 n &&& BitVec.ofInt 64 ((2 ^ m - 1 : Nat) : Int)).toNat = (n % ((2 ^ 64 : Nat) : Int)).toNat % 2 ^ m := by
    rw [BitVec.toNat_and, BitVec.toNat_ofInt, h127, Nat.and_two_pow_sub_one_eq_mod]
  show IntKind.i64.wrap ((BitVec.ofInt 64 n &&& BitVec.ofInt 64 ((2 ^ m - 1 : Nat) : Int)).toNat : Nat) = n % ((2 ^ m : Nat) : Int)
  rw [key, IntKind.wrap_i64]
  have hd : (((2 ^ m : Nat) : Int)) ∣ ((2 ^ 64 : Nat) : Int) := by
    rw [Int.natCast_dvd_natCast]
    exact Nat.pow_dvd_pow 2 (by omega)
  have h1 : ((((n % ((2 ^ 64 : Nat) : Int)).toNat % 2 ^ m : Nat)) : Int) = n % ((2 ^ m : Nat) : Int) := by
    rw [Int.natCast_emod, Int.toNat_of_nonneg (Int.emod_nonneg _ (by decide)), Int.emod_emod_of_dvd n hd]
  rw [h1]
  have h2 := Int.emod_nonneg n (show ((2 ^ m : Nat) : Int) ≠ 0 by omega)
  have h3 := Int.emod_lt_of_pos n (show (0 : Int) < ((2 ^ m : Nat) : Int) by omega)
  omega
theorem i64_and7 (n : Int) : Go.bits .and .i64 n 7 = n % 8 := i64_mask 3 (by decide) n
theorem i64_and15 (n : Int) : Go.bits .and .i64 n 15 = n % 16 := i64_mask 4 (by decide) n
theorem i64_and1 (n : Int) : Go.bits .and .i64 n 1 = n % 2 := i64_mask 1 (by decide) n
theorem i64_and255 (n : Int) : Go.bits .and .i64 n 255 = n % 256 := i64_mask 8 (by decide) n

theorem Dk.now_write (d : Dk) (i j : Nat) (s : ByteArray) (hi : i < d.F.length) : (d.write i s).now j = if j = i then s else d.now j := by
  unfold Dk.now Dk.write
  by_cases h : j = i
  · subst h
    rw [if_pos rfl]
    show ((d.F.set j (some s)).getD j none).getD _ = s
    rw [getD_set_same _ _ _ _ hi]
    rfl
  · rw [if_neg h]
    show ((d.F.set i (some s)).getD j none).getD _ = _
    rw [getD_set_other _ _ _ _ _ h]
theorem Dk.wr_in (d : Dk) (i : Nat) (s : ByteArray) (hi : i < d.S.length) (hs : s.size = 64) : d.wr i s = d.write i s := by
  unfold Dk.wr
  rw [if_pos ⟨⟨by omega, by omega⟩, hs⟩, Int.toNat_natCast]
theorem getD_map_none {α : Type} (F : List (Option α)) (i : Nat) : (F.map fun _ => (none : Option α)).getD i none = none := by
  simp only [List.getD_eq_getElem?_getD, List.getElem?_map]
  cases F[i]? <;> rfl
theorem Dk.now_synced (d : Dk) (j : Nat) (hj : j < d.S.length) : d.synced.now j = d.now j := by
  show (((d.F.map fun _ => (none : Option ByteArray)).getD j none).getD (d.nowL.getD j ByteArray.empty)) = d.now j
  rw [getD_map_none]
  show d.nowL.getD j ByteArray.empty = d.now j
  simp [Dk.nowL, hj]
theorem Dk.synced_len (d : Dk) : d.synced.S.length = d.S.length := by simp [Dk.synced, Dk.nowL]
theorem Dk.synced_flen (d : Dk) : d.synced.F.length = d.F.length := by simp [Dk.synced]
theorem Dk.synced_keys (d : Dk) : d.synced.keys = [] := by
  unfold Dk.keys
  rw [List.filter_eq_nil_iff]
  intro i _
  show ¬ (((d.F.map fun _ => (none : Option ByteArray)).getD i none).isSome = true)
  rw [getD_map_none]
  simp
theorem Dk.now_synced_cr (d : Dk) (k t b : Int) (j : Nat) (hj : j < d.S.length) : (d.synced.cr k t b).now j = d.now j := by
  unfold Dk.cr
  split
  · rw [Dk.synced_keys, crashRun]
    show (((d.synced.F.map fun _ => (none : Option ByteArray)).getD j none).getD (d.synced.S.getD j ByteArray.empty)) = d.now j
    rw [getD_map_none]
    show d.nowL.getD j ByteArray.empty = d.now j
    simp [Dk.nowL, hj]
  · exact Dk.now_synced d j hj
theorem crashRun_len (k t b : Int) (d : Dk) : ∀ (js : List Nat) (i : Nat) (S' : List ByteArray), (crashRun k t b d i js S').length = S'.length
  | [], i, S' => rfl
  | j :: js, i, S' => by rw [crashRun, crashRun_len k t b d js, List.length_set]
theorem Dk.cr_len (d : Dk) (k t b : Int) : (d.cr k t b).S.length = d.S.length := by
  unfold Dk.cr
  split
  · exact crashRun_len _ _ _ _ _ _ _
  · rfl
theorem Dk.fresh_now (n j : Nat) (hj : j < n) : (Dk.fresh n).now j = sec 0 := by
  have : (Dk.fresh n).F.getD j none = none := by
    simp only [Dk.fresh, List.getD_eq_getElem?_getD, List.getElem?_replicate]
    split <;> rfl
  unfold Dk.now
  rw [this]
  show (List.replicate n (sec 0)).getD j ByteArray.empty = sec 0
  simp [hj]
theorem Kp.blkOf {w W : World} {S : Nat → Prop} {k : Nat} {o : Obj} (h : Kp w W S) (hb : w.heap[k]? = some o) (hk : ¬ S k) : W.heap[k]? = some o := (h.blk k (blk_lt hb) hk).trans hb
theorem Dk.rd_in (d : Dk) (i : Nat) (hi : i < d.S.length) : d.rd i = d.now i ∧ d.rdE i = 0 := by
  unfold Dk.rd Dk.rdE
  have h : d.inB i := ⟨by omega, by omega⟩
  rw [if_pos h, if_pos h, Int.toNat_natCast]
  exact ⟨rfl, rfl⟩
section
variable {W1 : World} {g bs bm : Nat} {d : Dk} {n : Nat}
theorem disk_read (h : DiskIs W1 g bs bm d n) (i : Int) : Calls Try.prog 9 #[.pointer (some ⟨g, 0, none⟩), .int .i64 i] W1 fun e W' => e = .returned (.tuple #[.string (d.rd i), .int .i64 (d.rdE i)]) ∧ Drawn0 W1 W' := by
  unfold Dk.rd Dk.rdE
  by_cases hi : d.inB i
  · rw [if_pos hi, if_pos hi]
    obtain ⟨m, rfl⟩ := Int.eq_ofNat_of_zero_le hi.1
    exact read_calls W1 g bs bm d n h m (by have := hi.2; omega)
  · rw [if_neg hi, if_neg hi]
    exact read_none W1 g bs bm d n h i hi
theorem disk_write (h : DiskIs W1 g bs bm d n) (hn : n < 1000000) (i : Int) (s : ByteArray) (hs : s.size ≤ 9223372036854775807) : Calls Try.prog 10 #[.pointer (some ⟨g, 0, none⟩), .int .i64 i, .string s] W1 fun e W' => e = .returned (.int .i64 (d.wrE i s)) ∧ ∃ n', n' ≤ n + 1 ∧ DiskIs W' g bs bm (d.wr i s) n' ∧ Kp W1 W' (Parts g bs bm) := by
  unfold Dk.wr Dk.wrE
  by_cases hi : d.inB i ∧ s.size = 64
  · rw [if_pos hi, if_pos hi]
    obtain ⟨m, rfl⟩ := Int.eq_ofNat_of_zero_le hi.1.1
    exact (write_calls W1 g bs bm d n h hn m (by have := hi.1.2; omega) s hi.2).mono fun e W' ⟨he, hd, hk⟩ => ⟨he, n + 1, Nat.le_refl _, hd, hk⟩
  · rw [if_neg hi, if_neg hi]
    exact (write_none W1 g bs bm d n h i s (fun hh => hi ⟨⟨hh.1, hh.2.1⟩, hh.2.2⟩) hs).mono fun e W' ⟨he, hd⟩ => ⟨he, n, by omega, h.drawn hd, Kp.of_below hd.below _⟩
theorem disk_crash (h : DiskIs W1 g bs bm d n) (hn : n ≤ 1000000) (keep torn bytes : Int) : Calls Try.prog 12 #[.pointer (some ⟨g, 0, none⟩), .agg #[.int .i64 keep, .int .i64 torn, .int .i64 bytes]] W1 fun e W' => e = .returned (.int .i64 (crE bytes)) ∧ ∃ n', n' ≤ n ∧ DiskIs W' g bs bm (d.cr keep torn bytes) n' ∧ Kp W1 W' (Parts g bs bm) := by
  unfold Dk.cr crE
  by_cases hi : 0 ≤ bytes ∧ bytes ≤ 64
  · rw [if_pos hi, if_pos hi]
    exact (crash_calls W1 g bs bm d n h hn keep torn bytes hi.1 hi.2).mono fun e W' ⟨he, hd, hk⟩ => ⟨he, 0, Nat.zero_le _, hd, hk⟩
  · rw [if_neg hi, if_neg hi]
    exact (crash_none W1 g keep torn bytes hi).mono fun e W' ⟨he, hb⟩ => ⟨he, n, Nat.le_refl _, h.below hb, Kp.of_below hb _⟩
end
end Go.Proofs.Ytgdalpjglmlmkaa.D
