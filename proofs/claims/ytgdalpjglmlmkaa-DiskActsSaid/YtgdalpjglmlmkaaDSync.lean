/-
  The disk's Sync, walked: what is fresh is laid, in whatever order, and the map is cleared.
-/
import Derived.Test.YtgdalpjglmlmkaaDClean
namespace Go.Proofs.Ytgdalpjglmlmkaa.D
open Go.RowKit Go.Maps Go.Proofs.YtgdalpjglmlmkaaW.PrintWords Go.Proofs.YtgdalpjglmlmkaaW.PrintLast Go.Proofs.YtgdalpjglmlmkaaW.PrintMore
set_option linter.unusedVariables false
set_option linter.unusedSimpArgs false

section
variable {H : Type} {P : Program} (w : World) {ops : Array Oper} {rest : List Oper} {o : Oper} {a : Act} {Q : Exit → Act → World → Prop}
theorem next_string (hg : o.guard = none) (it : Operand) (hop : o.op = Op.next it false) (k e : TypeId) (qk : IntKind) (K : Keyed P k) (hk : P.underlying k = some (.int qk)) (he : P.underlying e = some .string)
    (b r n : Nat) (D : DataW H) (left : Lit → Bool) (cnt : Nat) (hit : a.eval it = .pointer (some ⟨r, 0, none⟩)) (h : w.ranges P k (plainElem P e) b r n D left cnt)
    (hDone : cnt = 0 → (∀ kl, left kl = false) → wpList P ops Q rest (a.put o.dst (.tuple #[.bool false])) w)
    (hMore : ∀ (x : Int) (c : ByteArray) (w' : World) (cnt' : Nat), left (.int qk x) = true → (∀ zd, D.atKey (.int qk x) zd = .lit (.string c.data.toList)) → w'.ranges P k (plainElem P e) b r n D (fun z => left z && !z.sameKey (.int qk x)) cnt' → cnt' < cnt →
      w.grownBy w' (some r) → w'.heap.size = w.heap.size → (Instr.entry (.pointer (some ⟨r, 0, none⟩))).run P w' = .ok (.tuple #[.int qk x, .string c]) w' → wpList P ops Q rest (a.put o.dst (.tuple #[.bool true, .int qk x, .string c])) w') :
    wpList P ops Q (o :: rest) a w :=
  wpList_next_ranges w hg it hop k K (plainElem P e) (Value.int qk) Value.string (fun key kl hkey => by obtain ⟨x, rfl, _⟩ := Maps.keyOf_int_inv hk hkey; exact ⟨x, rfl⟩) (fun v y hv => by obtain ⟨c, rfl, _⟩ := plainElem_string_inv he hv; exact ⟨c, rfl⟩)
    b r n D left cnt hit h hDone (fun x c kl y w' cnt' hkey hlk hv hat hrg hlt hgr hsz hen => by
      obtain ⟨x', ex, rfl, hwx⟩ := Maps.keyOf_int_inv hk hkey
      cases ex
      obtain ⟨c', ec, rfl, _⟩ := plainElem_string_inv he hv
      cases ec
      exact hMore x c w' cnt' hlk hat hrg hlt hgr hsz hen)
end
/-- what has been laid while `left` is still to come -/
def Laid (d : Dk) (left : Lit → Bool) (S' : List ByteArray) : Prop := S'.length = d.S.length ∧ ∀ j, j < d.S.length → S'.getD j ByteArray.empty = if (d.F.getD j none).isSome = true ∧ left (.int .i64 j) = false then d.now j else d.S.getD j ByteArray.empty
def Dk.nowL (d : Dk) : List ByteArray := (List.range d.S.length).map d.now
theorem Laid.start {d : Dk} {D : DataW Unit} (hf : Fresh D d.F) (hl : d.F.length = d.S.length) : Laid d (Maps.has D) d.S := by
  refine ⟨rfl, fun j hj => ?_⟩
  rw [if_neg]
  rintro ⟨h1, h2⟩
  rw [(hf.1 j (by omega)).1, h1] at h2
  cases h2
theorem Laid.step {d : Dk} {left : Lit → Bool} {S' : List ByteArray} (h : Laid d left S') {i : Nat} (hi : i < d.S.length) {s : ByteArray} (hF : d.F.getD i none = some s) : Laid d (fun z => left z && !z.sameKey (.int .i64 i)) (S'.set i s) := by
  refine ⟨by rw [List.length_set]; exact h.1, fun j hj => ?_⟩
  by_cases hji : j = i
  · subst hji
    rw [getD_set_same _ _ _ _ (by rw [h.1]; exact hi), if_pos]
    · unfold Dk.now; rw [hF]; rfl
    · rw [hF]
      refine ⟨rfl, ?_⟩
      have : (Lit.int .i64 (j : Int)).sameKey (.int .i64 j) = true := by simp [Lit.sameKey]
      simp [this]
  · rw [getD_set_other _ _ _ _ _ hji, h.2 j hj]
    have hne : (Lit.int .i64 (j : Int)) ≠ .int .i64 i := by
      intro e
      injection e with _ e
      omega
    have e : (left (.int .i64 (j : Int)) && !(Lit.int .i64 (j : Int)).sameKey (.int .i64 i)) = left (.int .i64 j) := by rw [sameKey_ne hne]; simp
    show _ = if (d.F.getD j none).isSome = true ∧ (left (.int .i64 (j : Int)) && !(Lit.int .i64 (j : Int)).sameKey (.int .i64 i)) = false then d.now j else _
    rw [e]
theorem Laid.done {d : Dk} {left : Lit → Bool} {S' : List ByteArray} (h : Laid d left S') (hl : ∀ kl, left kl = false) : S' = d.nowL := by
  apply List.ext_getElem?
  intro j
  by_cases hj : j < d.S.length
  · have h1 := h.2 j hj
    have h2 : S'[j]? = some (S'.getD j ByteArray.empty) := by
      have : j < S'.length := by rw [h.1]; exact hj
      simp [this]
    rw [h2, h1]
    have h3 : d.nowL[j]? = some (d.now j) := by simp [Dk.nowL, hj]
    rw [h3]
    congr 1
    by_cases hs : (d.F.getD j none).isSome = true
    · rw [if_pos ⟨hs, hl _⟩]
    · rw [if_neg (fun hh => hs hh.1)]
      unfold Dk.now
      cases hF : d.F.getD j none with
      | none => rfl
      | some f => rw [hF] at hs; simp at hs
  · rw [List.getElem?_eq_none (by rw [h.1]; omega), List.getElem?_eq_none (by simp [Dk.nowL]; omega)]

def Dk.synced (d : Dk) : Dk := ⟨d.nowL, d.F.map fun _ => none⟩
theorem now_size {W : World} {g bs bm : Nat} {d : Dk} {n : Nat} (h : DiskIs W g bs bm d n) (i : Nat) (hi : i < d.S.length) : (d.now i).size = 64 := by
  unfold Dk.now
  cases hF : d.F.getD i none with
  | some f => exact h.fsize i f hF
  | none =>
    refine h.size _ ?_
    show d.S.getD i ByteArray.empty ∈ d.S
    have : d.S.getD i ByteArray.empty = d.S[i] := by simp [hi]
    rw [this]
    exact List.getElem_mem hi
/-- all laid: the disk is as before but for the row -/
theorem DiskIs.laid {W W1 : World} {g bs bm : Nat} {d : Dk} {n : Nat} (h : DiskIs W g bs bm d n) (hb : W1.heap[g]? = some (.cells #[.slice (some ⟨bs, 0, none⟩) d.S.length d.S.length, .map (some bm), .int .i64 (count d.F : Nat)] 66 (0, 0)))
    (hr : W1.heap[bs]? = some (.cells (d.nowL.map Value.string).toArray 9 (0, 0))) {D : DataW Unit} (hm : W1.ownsMap Try.prog 3 (plainElem Try.prog 9) bm n D) (hf : Fresh D d.F) : DiskIs W1 g bs bm ⟨d.nowL, d.F⟩ n := by
  have hl : d.nowL.length = d.S.length := by simp [Dk.nowL]
  refine ⟨by simpa [hl] using hb, hr, ⟨D, hm, hf⟩, by rw [hl]; exact h.len, by rw [hl]; exact h.pos, by rw [hl]; exact h.most, fun s hs => ?_, h.fsize⟩
  obtain ⟨i, hi, rfl⟩ := List.mem_map.1 hs
  exact now_size h i (List.mem_range.1 hi)

theorem setCell_grown (w : World) (b i : Nat) (v : Value) : w.grownBy (w.setCell ⟨b, i, none⟩ v) (some b) :=
  ⟨rfl, rfl, rfl, by simp [World.setCell], fun k _ hk => Below.heap_setCell w ⟨b, i, none⟩ v k (fun e => hk (by rw [e]))⟩
set_option maxHeartbeats 4000000 in
set_option maxRecDepth 100000 in
theorem sync_calls (W : World) (g bs bm : Nat) (d : Dk) (n : Nat) (h : DiskIs W g bs bm d n) :
    Calls Try.prog 17 #[.pointer (some ⟨g, 0, none⟩)] W fun e W' => e = .returned (.int .i64 0) ∧ DiskIs W' g bs bm d.synced 0 ∧ Kp W W' (Parts g bs bm) := by
  have c1 : W.cell? ⟨g, 1, none⟩ = some (.map (some bm)) := (blk_cell h.box 1).trans rfl
  obtain ⟨a1, a2, a3⟩ := h.apart
  obtain ⟨D, hown, hf⟩ := h.map
  have HD := Aside0.mk h
  have HF := Aside0.mk hf
  have hgl := blk_lt h.box
  have hbl := blk_lt h.row
  clear h hf
  go_enter Try.func17, Try.ntmps17
  go_wp2_with (first
    | (at_range; refine wpList_range_own _ rfl _ 59 rfl 3 9 law3 Try.underlying59 _ bm n D rfl hown ?_; intro w0 hrg0 hg0 hs0))
  go_frame
  go_loopw [] (fun wr => ∃ left cnt S', Aside0 (wr.ranges Try.prog 3 (plainElem Try.prog 9) bm W.heap.size n D left cnt) ∧ Aside0 (Laid d left S') ∧ Aside0 (wr.heap[bs]? = some (.cells (S'.map Value.string).toArray 9 (0, 0))) ∧ Aside0 (Kp W wr (Parts g bs bm)) ∧ Aside0 (wr.heap[g]? = W.heap[g]?)) (fun wr => wr.rangeLeft bm W.heap.size)
  case atStart => exact ⟨Maps.has D, Maps.size D, d.S, ⟨hrg0⟩, ⟨Laid.start HF.out HD.out.len⟩, ⟨blk_grown HD.out.row hg0 (by simp)⟩, ⟨⟨hg0.os, hg0.tape, hg0.output, hg0.size, fun k hk _ => hg0.block k hk (by simp)⟩⟩, ⟨hg0.block g hgl (by simp)⟩⟩
  case round =>
    clear hrg0 hg0 hs0
    obtain ⟨left, cnt, S', HR, HL, HW, HK, HG⟩ := hrel
    have hrg := HR.out
    go_wp2_with (first
      | (at_next; refine next_string _ rfl _ rfl 3 9 .i64 law3 Try.underlying3 Try.underlying9 bm _ n D left cnt rfl hrg ?_ ?_))
    · intro _ hl0
      have hS := HL.out.done hl0
      subst hS
      have HDL := Aside0.mk (HD.out.laid (HG.out.trans HD.out.box) HW.out hrg.owns HF.out)
      clear hrg hown HR HL
      go_wp2_with (go_at_call 28; refine (clean_calls _ _ _ _ _ _ HDL.out).mono ?_; rintro e w' ⟨rfl, hd2, hk2⟩; have HD2 := Aside0.mk hd2; have HK2 := Aside0.mk hk2; clear hd2 hk2)
      go_ret
      exact ⟨rfl, HD2.out, HK.out.then_ HK2.out (fun k hk => .inl hk)⟩
    · intro x c w1 cnt1 hlx hat hrg1 hlt hg1 hs1 hen
      obtain ⟨i, hi, he⟩ := HF.out.2 _ (Maps.has_true_of_atKey (D := D) hat)
      injection he with _ he
      subst he
      rw [HD.out.len] at hi
      have HI := HF.out.1 i (by rw [HD.out.len]; exact hi)
      have hsome : d.F.getD i none = some c := by
        have h1 := HI.1
        rw [Maps.has_true_of_atKey (D := D) hat] at h1
        cases hF : d.F.getD i none with
        | none => rw [hF] at h1; cases h1
        | some f => rw [str_eq (hat _) (HI.2 f hF)]
      have hne1 : W.heap.size ≠ g := by omega
      have hne2 : W.heap.size ≠ bs := by omega
      have hgb : w1.heap[g]? = W.heap[g]? := (hg1.block g (Nat.lt_of_lt_of_le hgl HK.out.sz) (fun e => by injection e with e; omega)).trans HG.out
      have hrow : w1.heap[bs]? = some (.cells (S'.map Value.string).toArray 9 (0, 0)) := blk_grown HW.out hg1 (fun e => by injection e with e; omega)
      have HL1 := Aside0.mk (HL.out.step hi hsome)
      have hl' : S'.length = d.S.length := HL.out.1
      have hk1 : Kp W w1 (Parts g bs bm) := ⟨hg1.os.trans HK.out.os, hg1.tape.trans HK.out.tape, hg1.output.trans HK.out.output, Nat.le_trans HK.out.sz hg1.size, fun k hk hn => (hg1.block k (Nat.lt_of_lt_of_le hk HK.out.sz) (fun e => by injection e with e; omega)).trans (HK.out.blk k hk hn)⟩
      have d0 : w1.cell? ⟨g, 0, none⟩ = some (.slice (some ⟨bs, 0, none⟩) d.S.length d.S.length) := (blk_cell (hgb.trans HD.out.box) 0).trans rfl
      have d1 : w1.cell? ⟨bs, i, none⟩ = some (.string (S'.getD i ByteArray.empty)) := by
        rw [blk_cell hrow i]
        have : i < S'.length := by omega
        simp [this]
      have d2 : w1.frozen? ⟨bs, i, none⟩ = false := blk_frozen hrow i
      have HR1 := Aside0.mk hrg1
      have HK1 := Aside0.mk hk1
      have HW1 := Aside0.mk hrow
      have HG1 := Aside0.mk hgb
      have HLT := Aside0.mk (show w1.rangeLeft bm W.heap.size < wr.rangeLeft bm W.heap.size from by rw [hrg1.left_eq, hrg.left_eq]; exact hlt)
      have HNB := Aside0.mk (World.ranges.ne hrg1)
      clear hrg hrg1 hown HR HL hgb hrow hk1 hat hlx HI hsome hlt hg1 hs1
      go_wp2
      go_roundw
      case rel => exact ⟨_, _, S'.set i c, ⟨HR1.out.kept (setCell_grown _ bs i _) (fun e => by injection e with e; exact a2 e) (fun e => by injection e with e; exact hne2 e)⟩, HL1, ⟨blk_put HW1.out i _ (by simp [List.map_set])⟩, ⟨Kp.setCell (S := Parts g bs bm) HK1.out (.inl (show Parts g bs bm bs from .inr (.inl rfl))) _⟩, ⟨by rw [← HG1.out]; exact (setCell_grown _ bs i _).block g (by have := HK1.out.sz; omega) (fun e => by injection e with e; exact a3 e)⟩⟩
      case measure =>
        have h1 := (HR1.out.kept (setCell_grown w1 bs i (.string c)) (fun e => by injection e with e; exact a2 e) (fun e => by injection e with e; exact hne2 e)).left_eq
        have h2 := HR1.out.left_eq
        have h3 := HLT.out
        omega
end Go.Proofs.Ytgdalpjglmlmkaa.D
