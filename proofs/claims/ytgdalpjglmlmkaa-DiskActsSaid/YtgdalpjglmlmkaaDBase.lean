/-
  A disk as it lies: its synced sectors, its map of what is fresh, its count; what a call may turn.
-/
import Derived.Test.YtgdalpjglmlmkaaProg
import Derived.Test.YtgdalpjglmlmkaaWWords
import Derived.Test.YtgdalpjglmlmkaaWMore
import Derived.Test.YtgdalpjglmlmkaaWKept
import Derived.Maps.OwnSet
import Derived.Maps.StringElems
import Derived.Maps.RangeWalk
namespace Go.Proofs.Ytgdalpjglmlmkaa.D
open Go.RowKit Go.Maps Go.Proofs.YtgdalpjglmlmkaaW.PrintWords Go.Proofs.YtgdalpjglmlmkaaW.PrintLast Go.Proofs.YtgdalpjglmlmkaaW.PrintMore
set_option linter.unusedVariables false
set_option linter.unusedSimpArgs false

/-! ### a map of strings that the call made: its look-ups -/
section
variable {H : Type} {P : Program} (w : World) {ops : Array Oper} {rest : List Oper} {o : Oper} {a : Act} {Q : Exit → Act → World → Prop}
theorem lookup_ok_string (hg : o.guard = none) (m x : Operand) (t : TypeId) (hop : o.op = Op.lookup t m x true)
    (k e : TypeId) (K : Keyed P k) (ht : P.underlying t = some (.map k e)) (he : P.underlying e = some .string) (hz : (zeroValue e).run P w = .ok (.string ByteArray.empty) w) (b n : Nat) (D : DataW H)
    (hm : a.eval m = .map (some b)) (hown : w.ownsMap P k (plainElem P e) b n D) (key : Value) (kl : Lit) (hx : a.eval x = key) (hkey : keyOf P k key = some kl)
    (hK : ∀ s : ByteArray, D.atKey kl (.lit (.string [])) = .lit (.string s.data.toList) → s.size ≤ maxLen → wpList P ops Q rest (a.put o.dst (.tuple #[.string s, .bool (Maps.has D kl)])) w) :
    wpList P ops Q (o :: rest) a w :=
  wpList_lookup_own_ok w hg m x t hop k e K ht (plainElem P e) hz (.lit (.string [])) [] (plainElem_string he (by simp [maxLen])) b n D hm hown key kl hx hkey (fun v ps hv => by
    obtain ⟨s, rfl, hs, hl⟩ := plainElem_string_inv he hv
    exact hK s (congrArg Prod.fst hs) hl)
end
theorem law3 : Keyed Try.prog 3 := int_keyed Try.underlying3
theorem zero9 (w : World) : (zeroValue 9).run Try.prog w = .ok (.string ByteArray.empty) w := by kernel_rfl

/-! ### the disk -/
structure Dk where
  S : List ByteArray
  F : List (Option ByteArray)
def Dk.now (d : Dk) (i : Nat) : ByteArray := ((d.F.getD i none).getD (d.S.getD i ByteArray.empty))
def count (F : List (Option ByteArray)) : Nat := F.countP Option.isSome
/-- what the map reads as is what is fresh -/
def Fresh (D : DataW Unit) (F : List (Option ByteArray)) : Prop :=
  (∀ i, i < F.length → Maps.has D (.int .i64 i) = (F.getD i none).isSome ∧ ∀ s, F.getD i none = some s → D.atKey (.int .i64 i) (.lit (.string [])) = .lit (.string s.data.toList)) ∧
  ∀ kl, Maps.has D kl = true → ∃ i : Nat, i < F.length ∧ kl = .int .i64 i
structure DiskIs (W : World) (g bs bm : Nat) (d : Dk) (n : Nat) : Prop where
  box : W.heap[g]? = some (.cells #[.slice (some ⟨bs, 0, none⟩) d.S.length d.S.length, .map (some bm), .int .i64 (count d.F : Nat)] 66 (0, 0))
  row : W.heap[bs]? = some (.cells (d.S.map Value.string).toArray 9 (0, 0))
  map : ∃ D, W.ownsMap Try.prog 3 (plainElem Try.prog 9) bm n D ∧ Fresh D d.F
  len : d.F.length = d.S.length
  pos : 0 < d.S.length
  most : d.S.length ≤ 1024
  size : ∀ s ∈ d.S, s.size = 64
  fsize : ∀ i s, d.F.getD i none = some s → s.size = 64
def Parts (g bs bm : Nat) (k : Nat) : Prop := k = g ∨ k = bs ∨ k = bm
/-- what a call has turned lies in S; the world's other parts stand -/
structure Kp (w W : World) (S : Nat → Prop) : Prop where
  os : W.os = w.os
  tape : W.tape = w.tape
  output : W.output = w.output
  sz : w.heap.size ≤ W.heap.size
  blk : ∀ i, i < w.heap.size → ¬ S i → W.heap[i]? = w.heap[i]?
section
variable {w W W2 : World} {S S2 S' : Nat → Prop}
theorem Kp.kept (h : Kp w W S) : Kept w W S := ⟨h.sz, h.blk⟩
theorem Kp.refl (w : World) (S : Nat → Prop) : Kp w w S := ⟨rfl, rfl, rfl, Nat.le_refl _, fun _ _ _ => rfl⟩
theorem Kp.of_below (h : Below w.heap.size w W) (S : Nat → Prop) : Kp w W S := ⟨h.os, h.tape, h.output, h.size, fun i hi _ => h.block i hi⟩
theorem Kp.then_ (h : Kp w W S) (k : Kp W W2 S2) (hs : ∀ k, S2 k → S k ∨ w.heap.size ≤ k) : Kp w W2 S :=
  ⟨k.os.trans h.os, k.tape.trans h.tape, k.output.trans h.output, Nat.le_trans h.sz k.sz, fun i hi hn => (k.blk i (Nat.lt_of_lt_of_le hi h.sz) (fun hk => (hs i hk).elim hn (fun h2 => by omega))).trans (h.blk i hi hn)⟩
theorem Kp.setCell (h : Kp w W S) {p : Addr} (hp : S p.block ∨ w.heap.size ≤ p.block) (u : Value) : Kp w (W.setCell p u) S := by
  have hk := Kept.setCell h.kept hp u
  exact ⟨h.os, h.tape, h.output, hk.1, hk.2⟩
theorem Kp.drewN (h : Kp w W S) (m : Nat) : Kp w (W.drewN m) S := ⟨h.os, h.tape, h.output, h.sz, h.blk⟩
theorem Kp.drawn (h : Kp w W S) (hd : Drawn0 W W2) : Kp w W2 S := by obtain ⟨m, rfl⟩ := hd; exact h.drewN m
theorem Kp.below (h : Kp w W S) (hb : Below W.heap.size W W2) : Kp w W2 S := h.then_ (Kp.of_below hb (fun _ => False)) (fun _ hk => hk.elim)
theorem Kp.to_below {B : Nat} (h : Kp w W S) (hB : B ≤ w.heap.size) (hS : ∀ k, S k → B ≤ k) : Below B w W :=
  ⟨h.os, h.tape, h.output, h.sz, fun k hk => h.blk k (by omega) (fun hs => by have := hS k hs; omega)⟩
end
theorem DiskIs.kept {W W1 : World} {g bs bm : Nat} {d : Dk} {n : Nat} {T : Nat → Prop} (h : DiskIs W g bs bm d n) (hk : Kept W W1 T) (h1 : ¬ T g) (h2 : ¬ T bs) (h3 : ¬ T bm) : DiskIs W1 g bs bm d n := by
  refine ⟨blk_kept h.box hk h1, blk_kept h.row hk h2, ?_, h.len, h.pos, h.most, h.size, h.fsize⟩
  obtain ⟨D, ⟨es, clock, hb, hF, hs, hD⟩, hf⟩ := h.map
  exact ⟨D, ⟨es, clock, blk_kept hb hk h3, hF, hs, hD⟩, hf⟩

set_option maxHeartbeats 1000000 in
theorem sectors_calls (W : World) (g bs bm : Nat) (d : Dk) (n : Nat) (h : DiskIs W g bs bm d n) :
    Calls Try.prog 22 #[.pointer (some ⟨g, 0, none⟩)] W fun e W' => e = .returned (.int .i64 d.S.length) ∧ Drawn0 W W' := by
  have c0 : W.cell? ⟨g, 0, none⟩ = some (.slice (some ⟨bs, 0, none⟩) d.S.length d.S.length) := (blk_cell h.box 0).trans rfl
  go_enter Try.func22, Try.ntmps22
  go_wp2
  go_ret
  exact ⟨rfl, Drawn0.refl _⟩
end Go.Proofs.Ytgdalpjglmlmkaa.D
