/-
  The disk's clean, walked; a Write that is none.
-/
import Derived.Test.YtgdalpjglmlmkaaDWrite
namespace Go.Proofs.Ytgdalpjglmlmkaa.D
open Go.RowKit Go.Maps Go.Proofs.YtgdalpjglmlmkaaW.PrintWords Go.Proofs.YtgdalpjglmlmkaaW.PrintLast Go.Proofs.YtgdalpjglmlmkaaW.PrintMore
set_option linter.unusedVariables false
set_option linter.unusedSimpArgs false

set_option maxHeartbeats 4000000 in
set_option maxRecDepth 100000 in
theorem write_none (W : World) (g bs bm : Nat) (d : Dk) (n : Nat) (h : DiskIs W g bs bm d n) (i : Int) (s : ByteArray) (hs : ¬ (0 ≤ i ∧ i < d.S.length ∧ s.size = 64)) (hsz : s.size ≤ 9223372036854775807) :
    Calls Try.prog 10 #[.pointer (some ⟨g, 0, none⟩), .int .i64 i, .string s] W fun e W' => e = .returned (.int .i64 800) ∧ Drawn0 W W' := by
  have c0 : W.cell? ⟨g, 0, none⟩ = some (.slice (some ⟨bs, 0, none⟩) d.S.length d.S.length) := (blk_cell h.box 0).trans rfl
  by_cases h0 : i < 0
  · go_enter Try.func10, Try.ntmps10
    go_wp2
    go_ret
    exact ⟨rfl, Drawn0.refl _⟩
  · by_cases h1 : (d.S.length : Int) ≤ i
    · go_enter Try.func10, Try.ntmps10
      go_wp2
      go_ret
      exact ⟨rfl, Drawn0.refl _⟩
    · have h2 : s.size ≠ 64 := fun e => hs ⟨by omega, by omega, e⟩
      go_enter Try.func10, Try.ntmps10
      go_wp2
      go_ret
      exact ⟨rfl, Drawn0.refl _⟩

open Go.MapKept Go.ChangeMaps in
theorem clear_run {W : World} {bm : Nat} {es : Array MapEntry} {clock : Nat} (hb : W.heap[bm]? = some (.map es clock)) (ty : TypeId) : (Builtin.clear_ #[59] ty #[.map (some bm)]).run Try.prog W = .ok (.tuple #[]) { W with heap := W.heap.setIfInBounds bm (.map #[] clock) } := by
  have h1 : (Go.underlying 59).run Try.prog W = .ok (.map 3 9) W := run_underlying Try.underlying59 W
  simp [Builtin.clear_, h1, Go.MapKept.run_getObj_map hb, Go.MapKept.run_setObj_map _ hb, Result.andThen]
/-- the world behind a map's clearing -/
def cleared (W : World) (bm : Nat) (clock : Nat) : World := { W with heap := W.heap.setIfInBounds bm (.map #[] clock) }
theorem cleared_same {W : World} {bm : Nat} {es : Array MapEntry} {clock : Nat} (hb : W.heap[bm]? = some (.map es clock)) : (cleared W bm clock).heap[bm]? = some (.map #[] clock) := by
  have := blk_lt hb
  simp [cleared, this]
theorem cleared_other {W : World} {bm k : Nat} {clock : Nat} (hk : k ≠ bm) : (cleared W bm clock).heap[k]? = W.heap[k]? := by
  simp [cleared, Array.getElem?_setIfInBounds_ne (Ne.symm hk)]
set_option maxHeartbeats 2000000 in
set_option maxRecDepth 100000 in
theorem store_calls (W : World) (b o : Nat) (x y : Int) (c : W.cell? ⟨b, o, none⟩ = some (.int .i64 x)) (f : W.frozen? ⟨b, o, none⟩ = false) :
    Calls Try.prog 35 #[.pointer (some ⟨b, o, none⟩), .int .i64 y] W fun e W' => e = .returned (.tuple #[]) ∧ W' = W.setCell ⟨b, o, none⟩ (.int .i64 y) := by
  have hst := run_call_store (P := Try.prog) Try.func42 (by kernel_rfl) (by kernel_rfl) (by kernel_rfl) (by kernel_rfl) (k := .i64) (y := y) c f
  go_enter Try.func35, Try.ntmps35
  go_wp2
  exact ⟨rfl, .tuple #[], results_none rfl _ _ _, rfl, rfl⟩
set_option maxHeartbeats 4000000 in
set_option maxRecDepth 100000 in
theorem clean_calls (W : World) (g bs bm : Nat) (d : Dk) (n : Nat) (h : DiskIs W g bs bm d n) :
    Calls Try.prog 28 #[.pointer (some ⟨g, 0, none⟩)] W fun e W' => e = .returned (.tuple #[]) ∧ DiskIs W' g bs bm ⟨d.S, d.F.map fun _ => none⟩ 0 ∧ Kp W W' (Parts g bs bm) := by
  have c1 : W.cell? ⟨g, 1, none⟩ = some (.map (some bm)) := (blk_cell h.box 1).trans rfl
  obtain ⟨a1, a2, a3⟩ := h.apart
  obtain ⟨D, ⟨es, clock, hb, hfit, _⟩, hf⟩ := h.map
  have hcl : ∀ ty, (Builtin.clear_ #[59] ty #[.map (some bm)]).run Try.prog W = .ok (.tuple #[]) (cleared W bm clock) := fun ty => clear_run hb ty
  have hbox := (cleared_other (W := W) (clock := clock) a1.symm).trans h.box
  have c2 : (cleared W bm clock).cell? ⟨g, 2, none⟩ = some (.int .i64 (count d.F : Nat)) := (blk_cell hbox 2).trans rfl
  have f2 := blk_frozen hbox 2
  have HB := Aside0.mk hbox
  have HD := Aside0.mk h
  have HM := Aside0.mk hb
  clear hbox h hb hf hfit
  go_enter Try.func28, Try.ntmps28
  go_wp2_with (go_at_call 35; refine (store_calls _ _ _ _ 0 c2 f2).mono ?_; rintro e w' ⟨rfl, rfl⟩)
  refine ⟨rfl, .tuple #[], results_none rfl _ _ _, rfl, ⟨?_, (blk_far ((cleared_other a2.symm).trans HD.out.row) a3.symm _), ?_, by simp [HD.out.len], HD.out.pos, HD.out.most, HD.out.size, fun i s hs => ?_⟩, ?_⟩
  · refine blk_put HB.out 2 _ ?_
    have : count (d.F.map fun _ => none) = 0 := by
      unfold count
      rw [List.countP_eq_zero]
      intro x hx
      obtain ⟨_, _, rfl⟩ := List.mem_map.1 hx
      simp
    simp [this]
  · refine ⟨.map [], World.ownsMap.setCell ⟨#[], clock, cleared_same HM.out, ⟨by simp, Go.MapKept.stamped_empty clock, by simp⟩, Nat.le_refl _, rfl⟩ (by exact a1) _, fun i hi => ?_, fun kl hkl => ?_⟩
    · have : (d.F.map fun _ => (none : Option ByteArray)).getD i none = none := by simp only [List.getD_eq_getElem?_getD, List.getElem?_map]; cases d.F[i]? <;> rfl
      rw [this]
      exact ⟨rfl, fun s hs => by cases hs⟩
    · cases hkl
  · have : (d.F.map fun _ => (none : Option ByteArray)).getD i none = none := by simp only [List.getD_eq_getElem?_getD, List.getElem?_map]; cases d.F[i]? <;> rfl
    rw [this] at hs
    cases hs
  · refine Kp.setCell (w := W) (W := cleared W bm clock) (S := Parts g bs bm) (p := ⟨g, 2, none⟩) ⟨rfl, rfl, rfl, by simp [cleared], fun k hk hn => cleared_other (fun e => hn (.inr (.inr e)))⟩ (.inl (show Parts g bs bm g from .inl rfl)) _
end Go.Proofs.Ytgdalpjglmlmkaa.D
