/-
  The disk's calls, walked: Dirty, Read, Write.
-/
import Derived.Test.YtgdalpjglmlmkaaDBase
import Derived.Laws.LoneSync
namespace Go.Proofs.Ytgdalpjglmlmkaa.D
open Go.RowKit Go.Maps Go.Proofs.YtgdalpjglmlmkaaW.PrintWords Go.Proofs.YtgdalpjglmlmkaaW.PrintLast Go.Proofs.YtgdalpjglmlmkaaW.PrintMore
set_option linter.unusedVariables false
set_option linter.unusedSimpArgs false

theorem str_eq {s f : ByteArray} {x : DataW Unit} (h1 : x = .lit (.string s.data.toList)) (h2 : x = .lit (.string f.data.toList)) : s = f := by
  have h := h1.symm.trans h2
  injection h with h
  injection h with h
  cases s
  cases f
  simp at h
  rw [ByteArray.mk.injEq]
  exact h
theorem key_int {i : Nat} (hi : i < 1024) : keyOf Try.prog 3 (.int .i64 (i : Int)) = some (.int .i64 i) := keyOf_int_mk Try.underlying3 (WalkArith.wf_i64 (by omega))
theorem DiskIs.cellS {W : World} {g bs bm : Nat} {d : Dk} {n : Nat} (h : DiskIs W g bs bm d n) (i : Nat) (hi : i < d.S.length) : W.cell? ⟨bs, i, none⟩ = some (.string (d.S.getD i ByteArray.empty)) := by
  rw [blk_cell h.row i]
  simp [hi]

set_option maxHeartbeats 2000000 in
set_option maxRecDepth 100000 in
theorem dirty_calls (W : World) (g bs bm : Nat) (d : Dk) (n : Nat) (h : DiskIs W g bs bm d n) :
    Calls Try.prog 20 #[.pointer (some ⟨g, 0, none⟩)] W fun e W' => e = .returned (.int .i64 (count d.F)) ∧ Drawn0 W W' := by
  have c2 : W.cell? ⟨g, 2, none⟩ = some (.int .i64 (count d.F : Nat)) := (blk_cell h.box 2).trans rfl
  have hl := run_call_load (P := Try.prog) Try.func36 (by kernel_rfl) (by kernel_rfl) (by kernel_rfl) .i64 (by kernel_rfl) c2
  go_enter Try.func20, Try.ntmps20
  go_wp2
  go_ret
  exact ⟨rfl, Drawn0.refl _⟩

set_option maxHeartbeats 2000000 in
set_option maxRecDepth 100000 in
theorem read_calls (W : World) (g bs bm : Nat) (d : Dk) (n : Nat) (h : DiskIs W g bs bm d n) (i : Nat) (hi : i < d.S.length) :
    Calls Try.prog 9 #[.pointer (some ⟨g, 0, none⟩), .int .i64 i] W fun e W' => e = .returned (.tuple #[.string (d.now i), .int .i64 0]) ∧ Drawn0 W W' := by
  have c0 : W.cell? ⟨g, 0, none⟩ = some (.slice (some ⟨bs, 0, none⟩) d.S.length d.S.length) := (blk_cell h.box 0).trans rfl
  have c1 : W.cell? ⟨g, 1, none⟩ = some (.map (some bm)) := (blk_cell h.box 1).trans rfl
  obtain ⟨D, hown, hf⟩ := h.map
  have c4 := h.cellS i hi
  have HI := hf.1 i (by rw [h.len]; exact hi)
  have hkey := key_int (i := i) (by have := h.most; omega)
  obtain ⟨x, hx⟩ : ∃ x, x = d.S.getD i ByteArray.empty := ⟨_, rfl⟩
  rw [← hx] at c4
  cases hF : d.F.getD i none with
  | none =>
    rw [hF] at HI
    have hh : Maps.has D (.int .i64 i) = false := HI.1
    have hnow : d.now i = x := by unfold Dk.now; rw [hF, hx]; rfl
    rw [hnow]
    clear HI hF hnow hx
    go_enter Try.func9, Try.ntmps9
    go_wp2_with (first
      | (at_lookup; refine lookup_ok_string _ rfl _ _ 59 rfl 3 9 law3 Try.underlying59 Try.underlying9 (zero9 _) bm n D rfl hown _ _ rfl hkey ?_; intro s hs hl; rw [hh]))
    go_ret2
    exact ⟨rfl, Drawn0.refl _⟩
  | some f =>
    rw [hF] at HI
    have hh : Maps.has D (.int .i64 i) = true := HI.1
    have hnow : d.now i = f := by unfold Dk.now; rw [hF]; rfl
    have H2 := Aside0.mk (HI.2 f rfl)
    rw [hnow]
    clear HI hF hnow hx
    go_enter Try.func9, Try.ntmps9
    go_wp2_with (first
      | (at_lookup; refine lookup_ok_string _ rfl _ _ 59 rfl 3 9 law3 Try.underlying59 Try.underlying9 (zero9 _) bm n D rfl hown _ _ rfl hkey ?_; intro s hs hl; rw [hh]; have HS := Aside0.mk hs; clear hs))
    go_ret2
    exact ⟨by rw [← str_eq HS.out H2.out]; rfl, Drawn0.refl _⟩
set_option maxHeartbeats 2000000 in
set_option maxRecDepth 100000 in
theorem read_none (W : World) (g bs bm : Nat) (d : Dk) (n : Nat) (h : DiskIs W g bs bm d n) (i : Int) (hi : ¬ (0 ≤ i ∧ i < d.S.length)) :
    Calls Try.prog 9 #[.pointer (some ⟨g, 0, none⟩), .int .i64 i] W fun e W' => e = .returned (.tuple #[.string ByteArray.empty, .int .i64 800]) ∧ Drawn0 W W' := by
  have c0 : W.cell? ⟨g, 0, none⟩ = some (.slice (some ⟨bs, 0, none⟩) d.S.length d.S.length) := (blk_cell h.box 0).trans rfl
  by_cases hn : i < 0
  · go_enter Try.func9, Try.ntmps9
    go_wp2
    go_ret2
    exact ⟨rfl, Drawn0.refl _⟩
  · have hge : (d.S.length : Int) ≤ i := by omega
    go_enter Try.func9, Try.ntmps9
    go_wp2
    go_ret2
    exact ⟨rfl, Drawn0.refl _⟩
end Go.Proofs.Ytgdalpjglmlmkaa.D
