/-
  cover.ends, the walk: two loops that lay each range's two ends behind, then the sort.
-/
import Derived.Test.YtngcljnhcbbdmaaGEnds
import Derived.Outline
import Derived.Lib.Hide
namespace Go.Proofs.Ytngcljnhcbbdmaa.C
open Go.RowKit Go.Proofs.YtngcljnhcbbdmaaW.PrintWords Go.Proofs.YtngcljnhcbbdmaaW.PrintLast Go.Proofs.YtngcljnhcbbdmaaW.PrintMore
open Go.Sort
set_option linter.unusedVariables false
set_option linter.unusedSimpArgs false

/-- where range k of a row lies, in whatever world has kept it -/
theorem cells_at {w wr : World} {A : Option Addr} {l : List S41} {n : Nat} (h : Kd.C k41 w A n l) (hb : Below w.heap.size w wr) (k : Nat) (hk : k < n) : ∃ b o p q, A = some ⟨b, o, none⟩ ∧ wr.cell? ⟨b, o + k * 2, none⟩ = some (.int .i64 p) ∧ wr.cell? ⟨b, o + k * 2 + 1, none⟩ = some (.int .i64 q) ∧ l[k]! = ⟨p, q⟩ ∧ k < l.length := by
  obtain rfl := h.1
  obtain ⟨b, o, rfl, hlt, hc⟩ := has_cells h (by omega)
  refine ⟨b, o, _, _, rfl, ?_, ?_, rfl, hk⟩
  · exact (hb.cell (p := ⟨b, o + k * 2, none⟩) hlt).trans (hc k hk 0 _ rfl)
  · exact (hb.cell (p := ⟨b, o + k * 2 + 1, none⟩) hlt).trans (hc k hk 1 _ rfl)

/-- after k ranges: what has been laid -/
def EndsRel (w wr : World) (v : Value) (pre : List S68) (b : Bool) (l : List S41) (k : Nat) : Prop :=
  wr.ownsRow w.heap.size 68 2 v (pre.length + 2 * k) ((pre ++ endsOf b (l.take k)).flatMap enc68) ∧ Below w.heap.size w wr
theorem EndsRel.step {w wr w1 : World} {v v' : Value} {k : Nat} {l : List S41} {pre : List S68} {b : Bool} {o1 o2 : Obj} {p q : Int} (h : EndsRel w wr v pre b l k) (hk : k < l.length) (hx : l[k]! = ⟨p, q⟩)
    (hown' : w1.ownsRow w.heap.size 68 2 v' (pre.length + 2 * k + 2) (((pre ++ endsOf b (l.take k)).flatMap enc68) ++ [.int .i64 p, .bool b, .int .i64 q, .bool b])) (hg : ((wr.alloc o1).alloc o2).grownBy w1 v.ownBlock) : EndsRel w w1 v' pre b l (k + 1) := by
  refine ⟨?_, ?_⟩
  · rw [endsOf_snoc b l k hk, hx, ← List.append_assoc, List.flatMap_append, Nat.mul_add, ← Nat.add_assoc]
    exact hown'
  · have h2 := below_alloc (below_alloc h.2 o1) o2
    refine h2.grown hg h2.size (fun j hj => own_base h.1 j hj)
theorem EndsRel.start {w wr : World} {v : Value} {l l1 : List S41} {b1 : Bool} (h : EndsRel w wr v [] true l l.length) : EndsRel w wr v (endsOf true l) false l1 0 := by
  refine ⟨?_, h.2⟩
  have := h.1
  rw [List.take_length, List.nil_append, List.length_nil, Nat.zero_add] at this
  rw [endsOf_len, show endsOf false (l1.take 0) = [] from rfl, List.append_nil]
  exact this

set_option maxHeartbeats 4000000 in
set_option maxRecDepth 100000 in
theorem ends_walk (A0 : Option Addr) (c0 : Nat) (l0 : List (S41)) (A1 : Option Addr) (c1 : Nat) (l1 : List (S41)) (w : World) (hr0 : Kd.C k41 w A0 l0.length l0) (hr1 : Kd.C k41 w A1 l1.length l1)
    (hon : ∀ x ∈ allEnds l0 l1, onCurve x) (hlen : l0.length + l1.length ≤ 4398046511104) :
    Calls Try.prog 41 #[.slice A0 l0.length c0, .slice A1 l1.length c1] w fun e w' => ∃ v : Value, e = .returned v ∧ w'.ownsRow w.heap.size 68 2 v (allEnds l0 l1).length (((sortedE (toE _ hon)).toList.map Subtype.val).flatMap enc68) ∧ Below w.heap.size w w' := by
  obtain ⟨i0, hi, hz0, hz1, hz2⟩ := info_parts info68'
  have H0 := Lib.hid hr0
  have H1 := Lib.hid hr1
  clear hr0 hr1
  have hpre : (endsOf true l0).length ≤ 2 * l0.length := Nat.le_of_eq (endsOf_len _ _)
  have HS : Hid (∀ (W : World) (v : Value), EndsRel w W v (endsOf true l0) false l1 l1.length → Calls Try.prog 54 #[v, .func (.func 55) #[] #[]] W fun e w' => e = .returned (.tuple #[]) ∧ w'.ownsRow w.heap.size 68 2 v (allEnds l0 l1).length (((sortedE (toE _ hon)).toList.map Subtype.val).flatMap enc68) ∧ Below w.heap.size w w') := by
    refine Lib.hid fun W v h => ?_
    have h1 := h.1
    rw [List.take_length] at h1
    have e : (endsOf true l0).length + 2 * l1.length = (allEnds l0 l1).length := by rw [allEnds_len, endsOf_len]
    rw [e] at h1
    refine (ends_sort (allEnds l0 l1) hon (by rw [allEnds_len]; omega) v W w.heap.size h1).mono ?_
    rintro e w' ⟨rfl, ho, hb⟩
    exact ⟨rfl, ho, hb w h.2 h.2.size⟩
  generalize hN0 : l0.length = n0 at *
  generalize hN1 : l1.length = n1 at *
  have HN0 := Lib.hid hN0
  have HN1 := Lib.hid hN1
  clear hN0 hN1
  have i0' : ∀ W, (Instr.index 83 (.agg #[.slice A0 n0 c0, .slice A1 n1 c1]) (.int .i64 0)).run Try.prog W = .ok (.slice A0 n0 c0) W := fun _ => by kernel_rfl
  have i1' : ∀ W, (Instr.index 83 (.agg #[.slice A0 n0 c0, .slice A1 n1 c1]) (.int .i64 1)).run Try.prog W = .ok (.slice A1 n1 c1) W := fun _ => by kernel_rfl
  go_enter Try.func41, Try.ntmps41
  go_wp2
  refine wp_loop_rounds 3 ?_
  rw [rounds_succ]
  go_wp2
  go_loopw [5, 19] (fun v i wr => ∃ k : Nat, k ≤ n0 ∧ i = .int .i64 k ∧ EndsRel w wr v [] true l0 k) (fun _ i _ => n0 - (intOf i).toNat)
  case atStart => exact ⟨0, Nat.zero_le _, rfl, World.ownsRow_nil _ _ _ _, Below.refl _ _⟩
  case round =>
    obtain ⟨k, hk, rfl, hrl⟩ := hrel
    by_cases hlt : k < n0
    · obtain ⟨b, o, p, q, rfl, hc0, hc1, hx, hkl⟩ := cells_at H0.out hrl.2 k hlt
      have HX := Lib.hid hx
      clear hx
      have hsz := hrl.2.size
      go_wp2_with (first
        | (at_builtin; refine wpList_append_own _ rfl (.tmp 23) (.tmp 34) 65 rfl w.heap.size 68 i0 (.agg #[.int .i64 0, .bool false]) 2 16 Try.underlying65 hi hz0 hz1 hz2 rfl (by decide) _ _ _ rfl ((hrl.1.alloc _).alloc _) ⟨wr.heap.size + 1, 0, none⟩ 2 2 [.int .i64 p, .bool true, .int .i64 q, .bool true] rfl rfl ?c1 ?c2 ?c3 ?c4 ?c5 ?_))
      case c1 =>
        intro j u hj
        match j, hj with
        | 0, hj => simp at hj; subst hj; simp [Addr.add]
        | 1, hj => simp at hj; subst hj; simp [Addr.add]
        | 2, hj => simp at hj; subst hj; simp [Addr.add]
        | 3, hj => simp at hj; subst hj; simp [Addr.add]
        | j + 4, hj => simp at hj
      case c2 => intro u hu; simp at hu; rcases hu with rfl | rfl | rfl | rfl <;> rfl
      case c3 => unfold maxLen; simp; omega
      case c4 => simp; omega
      case c5 => simp; omega
      · intro v' w1 hown' hgrow _
        have hrl' := hrl.step hkl HX.out (by simpa using hown') hgrow
        clear hown' hgrow hrl hc0 hc1 hkl
        go_wp2
        go_roundw
        case rel => exact ⟨k + 1, by omega, by go_num, hrl'⟩
        case measure => simp [intOf]; omega
    · obtain rfl : k = n0 := by omega
      have hrl2 : EndsRel w wr _ (endsOf true l0) false l1 0 := EndsRel.start (b1 := true) (by rw [HN0.out]; exact hrl)
      clear hrl
      go_wp2
      rw [rounds_succ]
      go_wp2
      go_loopw [5, 19] (fun v i wr => ∃ k : Nat, k ≤ n1 ∧ i = .int .i64 k ∧ EndsRel w wr v (endsOf true l0) false l1 k) (fun _ i _ => n1 - (intOf i).toNat)
      case atStart => exact ⟨0, Nat.zero_le _, rfl, hrl2⟩
      case round =>
        clear hrl2
        obtain ⟨k2, hk2, rfl, hrl⟩ := hrel
        by_cases hlt : k2 < n1
        · obtain ⟨b, o, p, q, rfl, hc0, hc1, hx, hkl⟩ := cells_at H1.out hrl.2 k2 hlt
          have HX := Lib.hid hx
          clear hx
          have hsz := hrl.2.size
          go_wp2_with (first
            | (at_builtin; refine wpList_append_own _ rfl (.tmp 23) (.tmp 34) 65 rfl w.heap.size 68 i0 (.agg #[.int .i64 0, .bool false]) 2 16 Try.underlying65 hi hz0 hz1 hz2 rfl (by decide) _ _ _ rfl ((hrl.1.alloc _).alloc _) ⟨wr.heap.size + 1, 0, none⟩ 2 2 [.int .i64 p, .bool false, .int .i64 q, .bool false] rfl rfl ?d1 ?d2 ?d3 ?d4 ?d5 ?_))
          case d1 =>
            intro j u hj
            match j, hj with
            | 0, hj => simp at hj; subst hj; simp [Addr.add]
            | 1, hj => simp at hj; subst hj; simp [Addr.add]
            | 2, hj => simp at hj; subst hj; simp [Addr.add]
            | 3, hj => simp at hj; subst hj; simp [Addr.add]
            | j + 4, hj => simp at hj
          case d2 => intro u hu; simp at hu; rcases hu with rfl | rfl | rfl | rfl <;> rfl
          case d3 => unfold maxLen; omega
          case d4 => omega
          case d5 => simp; omega
          · intro v' w1 hown' hgrow _
            have hrl' := hrl.step hkl HX.out (by simpa using hown') hgrow
            clear hown' hgrow hrl hc0 hc1 hkl
            go_wp2
            go_roundw
            case rel => exact ⟨k2 + 1, by omega, by go_num, hrl'⟩
            case measure => simp [intOf]; omega
        · obtain rfl : k2 = n1 := by omega
          go_wp2
          rw [rounds_succ]
          go_wp2_with (go_at_call 54; refine (HS.out _ _ hrl).mono ?_; rintro e w' ⟨rfl, ho, hb⟩)
          go_ret
          exact ⟨_, rfl, ho, hb⟩

/-- the call, as the print tells it -/
theorem cover_ends.calls (A0 : Option Addr) (c0 : Nat) (l0 : List (S41)) (A1 : Option Addr) (c1 : Nat) (l1 : List (S41)) (r : List (S68)) (w : World) (hr0 : Kd.C k41 w A0 l0.length l0) (hc0 : l0.length ≤ c0) (hr1 : Kd.C k41 w A1 l1.length l1) (hc1 : l1.length ≤ c1) (h : cover_ends.f l0 l1 = some r) :
    Calls Try.prog 41 #[.slice A0 l0.length c0, .slice A1 l1.length c1] w fun e w' => ∃ v0_ : Value, e = .returned (v0_) ∧ Kd.R k68 68 w' w.heap.size (fun _ => True) v0_ r ∧ Below w.heap.size w w' := by
  unfold cover_ends.f at h
  split at h
  case isFalse => simp at h
  case isTrue hh =>
  obtain rfl := Option.some.inj h
  refine (ends_walk A0 c0 l0 A1 c1 l1 w hr0 hr1 hh.1 hh.2).mono ?_
  rintro e w' ⟨v, rfl, ho, hb⟩
  refine ⟨v, rfl, R68_of_own ?_ ho, hb⟩
  simp [sortedE_size, toE_len]
end Go.Proofs.Ytngcljnhcbbdmaa.C
