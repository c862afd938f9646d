/-
  The disk's calls at whatever arguments.
-/
import Derived.Test.YtgdalpjglmlmkaaDAwake
namespace Go.Proofs.Ytgdalpjglmlmkaa.D
open Go.RowKit Go.Maps Go.Proofs.YtgdalpjglmlmkaaW.PrintWords Go.Proofs.YtgdalpjglmlmkaaW.PrintLast Go.Proofs.YtgdalpjglmlmkaaW.PrintMore
set_option linter.unusedVariables false
set_option linter.unusedSimpArgs false

def newE (n : Int) : Int := if 1 ≤ n ∧ n ≤ 1024 then 0 else 800
def Dk.inB (d : Dk) (i : Int) : Prop := 0 ≤ i ∧ i < d.S.length
instance (d : Dk) (i : Int) : Decidable (d.inB i) := inferInstanceAs (Decidable (0 ≤ i ∧ i < d.S.length))
def Dk.rd (d : Dk) (i : Int) : ByteArray := if d.inB i then d.now i.toNat else ByteArray.empty
def Dk.rdE (d : Dk) (i : Int) : Int := if d.inB i then 0 else 800
def Dk.wr (d : Dk) (i : Int) (s : ByteArray) : Dk := if d.inB i ∧ s.size = 64 then d.write i.toNat s else d
def Dk.wrE (d : Dk) (i : Int) (s : ByteArray) : Int := if d.inB i ∧ s.size = 64 then 0 else 800
def Dk.cr (d : Dk) (keep torn bytes : Int) : Dk := if 0 ≤ bytes ∧ bytes ≤ 64 then ⟨crashRun keep torn bytes d 0 d.keys d.S, d.F.map fun _ => none⟩ else d
def crE (bytes : Int) : Int := if 0 ≤ bytes ∧ bytes ≤ 64 then 0 else 800

section
variable {W W1 : World} {g bs bm : Nat} {d : Dk} {n : Nat}
theorem mine_read (h : Mine W W1 g bs bm d n) (i : Int) : Calls Try.prog 9 #[.pointer (some ⟨g, 0, none⟩), .int .i64 i] W1 fun e W' => e = .returned (.tuple #[.string (d.rd i), .int .i64 (d.rdE i)]) ∧ Mine W W' g bs bm d n := by
  unfold Dk.rd Dk.rdE
  by_cases hi : d.inB i
  · rw [if_pos hi, if_pos hi]
    obtain ⟨m, rfl⟩ := Int.eq_ofNat_of_zero_le hi.1
    exact (read_calls W1 g bs bm d n h.is m (by have := hi.2; omega)).mono fun e W' ⟨he, hd⟩ => ⟨he, h.drawn hd⟩
  · rw [if_neg hi, if_neg hi]
    exact (read_none W1 g bs bm d n h.is i hi).mono fun e W' ⟨he, hd⟩ => ⟨he, h.drawn hd⟩
theorem mine_write (h : Mine W W1 g bs bm d n) (hn : n < 1000000) (i : Int) (s : ByteArray) (hs : s.size ≤ 9223372036854775807) : Calls Try.prog 10 #[.pointer (some ⟨g, 0, none⟩), .int .i64 i, .string s] W1 fun e W' => e = .returned (.int .i64 (d.wrE i s)) ∧ ∃ n', n' ≤ n + 1 ∧ Mine W W' g bs bm (d.wr i s) n' := by
  unfold Dk.wr Dk.wrE
  by_cases hi : d.inB i ∧ s.size = 64
  · rw [if_pos hi, if_pos hi]
    obtain ⟨m, rfl⟩ := Int.eq_ofNat_of_zero_le hi.1.1
    exact (write_calls W1 g bs bm d n h.is hn m (by have := hi.1.2; omega) s hi.2).mono fun e W' ⟨he, hd, hk⟩ => ⟨he, n + 1, Nat.le_refl _, h.turn hd hk⟩
  · rw [if_neg hi, if_neg hi]
    exact (write_none W1 g bs bm d n h.is i s (fun hh => hi ⟨⟨hh.1, hh.2.1⟩, hh.2.2⟩) hs).mono fun e W' ⟨he, hd⟩ => ⟨he, n, by omega, h.drawn hd⟩
theorem mine_crash (h : Mine W W1 g bs bm d n) (hn : n ≤ 1000000) (keep torn bytes : Int) : Calls Try.prog 12 #[.pointer (some ⟨g, 0, none⟩), .agg #[.int .i64 keep, .int .i64 torn, .int .i64 bytes]] W1 fun e W' => e = .returned (.int .i64 (crE bytes)) ∧ ∃ n', n' ≤ n ∧ Mine W W' g bs bm (d.cr keep torn bytes) n' := by
  unfold Dk.cr crE
  by_cases hi : 0 ≤ bytes ∧ bytes ≤ 64
  · rw [if_pos hi, if_pos hi]
    exact (crash_calls W1 g bs bm d n h.is hn keep torn bytes hi.1 hi.2).mono fun e W' ⟨he, hd, hk⟩ => ⟨he, 0, Nat.zero_le _, h.turn hd hk⟩
  · rw [if_neg hi, if_neg hi]
    exact (crash_none W1 g keep torn bytes hi).mono fun e W' ⟨he, hb⟩ => ⟨he, n, Nat.le_refl _, h.below hb⟩
theorem mine_sync (h : Mine W W1 g bs bm d n) : Calls Try.prog 17 #[.pointer (some ⟨g, 0, none⟩)] W1 fun e W' => e = .returned (.int .i64 0) ∧ Mine W W' g bs bm d.synced 0 :=
  (sync_calls W1 g bs bm d n h.is).mono fun e W' ⟨he, hd, hk⟩ => ⟨he, h.turn hd hk⟩
theorem mine_dirty (h : Mine W W1 g bs bm d n) : Calls Try.prog 20 #[.pointer (some ⟨g, 0, none⟩)] W1 fun e W' => e = .returned (.int .i64 (count d.F)) ∧ Mine W W' g bs bm d n :=
  (dirty_calls W1 g bs bm d n h.is).mono fun e W' ⟨he, hd⟩ => ⟨he, h.drawn hd⟩
theorem mine_sectors (h : Mine W W1 g bs bm d n) : Calls Try.prog 22 #[.pointer (some ⟨g, 0, none⟩)] W1 fun e W' => e = .returned (.int .i64 d.S.length) ∧ Mine W W' g bs bm d n :=
  (sectors_calls W1 g bs bm d n h.is).mono fun e W' ⟨he, hd⟩ => ⟨he, h.drawn hd⟩
end
/-- New, whatever the number -/
theorem new_any (W : World) (n : Int) : Calls Try.prog 8 #[.int .i64 n] W fun e W' => ∃ p, e = .returned (.tuple #[.pointer p, .int .i64 (newE n)]) ∧ Below W.heap.size W W' ∧ (if 1 ≤ n ∧ n ≤ 1024 then ∃ g bs bm, p = some ⟨g, 0, none⟩ ∧ Mine W W' g bs bm (Dk.fresh n.toNat) 0 else p = none) := by
  unfold newE
  by_cases h : 1 ≤ n ∧ n ≤ 1024
  · rw [if_pos h]
    obtain ⟨m, rfl⟩ := Int.eq_ofNat_of_zero_le (a := n) (by omega)
    refine (new_mine W m (by omega) (by omega)).mono fun e W' ⟨g, bs, bm, he, hm⟩ => ⟨_, he, hm.bel, ?_⟩
    rw [if_pos h]
    exact ⟨g, bs, bm, rfl, hm⟩
  · rw [if_neg h]
    refine (new_none W n h).mono fun e W' ⟨he, hd⟩ => ⟨none, he, hd.below, ?_⟩
    rw [if_neg h]
theorem size_strOfNums (xs : List Int) : (strOfNums xs).size = xs.length := by
  unfold strOfNums
  simp [ByteArray.size]
/-- a string of so many zero bytes -/
theorem nought_size (n : Nat) : (strOfNums (List.replicate n 0)).size = n := by rw [size_strOfNums, List.length_replicate]
theorem Dk.wr_len (d : Dk) (i : Int) (s : ByteArray) : (d.wr i s).S.length = d.S.length := by
  unfold Dk.wr
  split <;> rfl
end Go.Proofs.Ytgdalpjglmlmkaa.D
