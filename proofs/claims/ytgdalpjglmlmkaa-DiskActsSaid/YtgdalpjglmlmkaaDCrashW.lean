/-
  The disk's Crash, the walk.
-/
import Derived.Test.YtgdalpjglmlmkaaDCrash
import Derived.StillTailTactics
namespace Go.Proofs.Ytgdalpjglmlmkaa.D
open Go.RowKit Go.Maps Go.Sort Go.Proofs.YtgdalpjglmlmkaaW.PrintWords Go.Proofs.YtgdalpjglmlmkaaW.PrintLast Go.Proofs.YtgdalpjglmlmkaaW.PrintMore
set_option linter.unusedVariables false
set_option linter.unusedSimpArgs false

/-- what a crash makes of the k-th fresh sector -/
def pickS (keep torn bytes : Int) (k : Nat) (f s : ByteArray) : ByteArray :=
  if (k : Int) = torn then f.extract 0 bytes.toNat ++ s.extract bytes.toNat s.size else if k < 62 ∧ Go.bits .and .i64 (keep / 2 ^ k) 1 = 1 then f else s
def crashRun (keep torn bytes : Int) (d : Dk) : Nat → List Nat → List ByteArray → List ByteArray
  | _, [], S' => S'
  | k, j :: js, S' => crashRun keep torn bytes d (k + 1) js (S'.set j (pickS keep torn bytes k (d.now j) (S'.getD j ByteArray.empty)))

section
variable {H : Type} {P : Program} (w : World) {ops : Array Oper} {rest : List Oper} {o : Oper} {a : Act} {Q : Exit → Act → World → Prop}
theorem lookup_string (hg : o.guard = none) (m x : Operand) (t : TypeId) (hop : o.op = Op.lookup t m x false)
    (k e : TypeId) (K : Keyed P k) (ht : P.underlying t = some (.map k e)) (he : P.underlying e = some .string) (hz : (zeroValue e).run P w = .ok (.string ByteArray.empty) w) (b n : Nat) (D : DataW H)
    (hm : a.eval m = .map (some b)) (hown : w.ownsMap P k (plainElem P e) b n D) (key : Value) (kl : Lit) (hx : a.eval x = key) (hkey : keyOf P k key = some kl)
    (hK : ∀ s : ByteArray, D.atKey kl (.lit (.string [])) = .lit (.string s.data.toList) → s.size ≤ maxLen → wpList P ops Q rest (a.put o.dst (.string s)) w) :
    wpList P ops Q (o :: rest) a w := by
  refine wpList_plain hg fun K' hK' => ?_
  obtain ⟨v, ps, hrun, hv⟩ := hown.lookup K ht hz (plainElem_string he (by simp [maxLen])) hkey
  obtain ⟨s, rfl, hs, hl⟩ := plainElem_string_inv he hv
  unfold Oper.wp
  simp [execOp, hop, hm, hx, hrun, Result.andThen]
  exact hK' _ _ (hK s (congrArg Prod.fst hs) hl)
end
theorem wrap64_small' (i : Nat) (h : i ≤ 1000000) : wrap64 ((i : Int) + 1) = ((i + 1 : Nat) : Int) := by unfold wrap64; omega
theorem pickS_size {keep torn bytes : Int} {k : Nat} {f s : ByteArray} (h0 : 0 ≤ bytes) (h1 : bytes ≤ 64) (hf : f.size = 64) (hs : s.size = 64) : (pickS keep torn bytes k f s).size = 64 := by
  unfold pickS
  split
  · rw [ByteArray.size_append, ByteArray.size_extract, ByteArray.size_extract]
    omega
  · split
    · exact hf
    · exact hs
theorem crashRun_size {keep torn bytes : Int} {d : Dk} (h0 : 0 ≤ bytes) (h1 : bytes ≤ 64) (hn : ∀ j, j < d.S.length → (d.now j).size = 64) : ∀ (js : List Nat) (k : Nat) (S' : List ByteArray), (∀ j ∈ js, j < d.S.length) → S'.length = d.S.length → (∀ s ∈ S', s.size = 64) → ∀ s ∈ crashRun keep torn bytes d k js S', s.size = 64 := by
  intro js
  induction js with
  | nil => intro k S' _ _ hs; exact hs
  | cons j js ih =>
    intro k S' hj hl hs
    have hjl := hj j List.mem_cons_self
    refine ih (k + 1) _ (fun x hx => hj x (List.mem_cons_of_mem _ hx)) (by rw [List.length_set]; exact hl) (fun s hm => ?_)
    rcases List.mem_or_eq_of_mem_set hm with hm | hm
    · exact hs s hm
    · rw [hm]
      refine pickS_size h0 h1 (hn j hjl) (hs _ ?_)
      have : S'.getD j ByteArray.empty = S'[j]'(by omega) := by simp [show j < S'.length by omega]
      rw [this]
      exact List.getElem_mem _
theorem now_some {d : Dk} {j : Nat} {f : ByteArray} (h : d.F.getD j none = some f) : d.now j = f := by unfold Dk.now; rw [h]; rfl
theorem blk_other {w : World} {b i k : Nat} {v : Value} (h : k ≠ b) : (w.setCell ⟨b, i, none⟩ v).heap[k]? = w.heap[k]? := Below.heap_setCell w ⟨b, i, none⟩ v k h
theorem own_other {w : World} {base : Nat} {e : TypeId} {size : Nat} {g cap n b i : Nat} {xs : List Value} {v : Value} (h : w.ownsRow base e size (.slice (some ⟨g, 0, none⟩) n cap) n xs) (hb : g ≠ b) : (w.setCell ⟨b, i, none⟩ v).ownsRow base e size (.slice (some ⟨g, 0, none⟩) n cap) n xs :=
  h.kept (setCell_grown w b i v) (.inr (fun e => by injection e with e; exact hb e))
/-- the crash's round i -/
def CrashAt (keep torn bytes : Int) (d : Dk) (i : Nat) (S' : List ByteArray) : Prop :=
  S'.length = d.S.length ∧ crashRun keep torn bytes d i (d.keys.drop i) S' = crashRun keep torn bytes d 0 d.keys d.S ∧ ∀ j ∈ d.keys.drop i, S'.getD j ByteArray.empty = d.S.getD j ByteArray.empty
theorem keys_nodup (d : Dk) : d.keys.Nodup := (List.nodup_range).filter _
theorem keys_lt {d : Dk} {j : Nat} (h : j ∈ d.keys) : j < d.F.length ∧ (d.F.getD j none).isSome = true := by
  have := List.mem_filter.1 h
  exact ⟨List.mem_range.1 this.1, this.2⟩
theorem CrashAt.start (keep torn bytes : Int) (d : Dk) : CrashAt keep torn bytes d 0 d.S := ⟨rfl, rfl, fun _ _ => rfl⟩
theorem CrashAt.step {keep torn bytes : Int} {d : Dk} {i : Nat} {S' : List ByteArray} (h : CrashAt keep torn bytes d i S') (hi : i < d.keys.length) {x : ByteArray} (hx : x = pickS keep torn bytes i (d.now d.keys[i]) (d.S.getD d.keys[i] ByteArray.empty)) : CrashAt keep torn bytes d (i + 1) (S'.set d.keys[i] x) := by
  obtain ⟨h1, h2, h3⟩ := h
  have e : d.keys.drop i = d.keys[i] :: d.keys.drop (i + 1) := List.drop_eq_getElem_cons hi
  rw [e] at h2 h3
  refine ⟨by rw [List.length_set]; exact h1, ?_, fun j hj => ?_⟩
  · rw [← h2, crashRun, h3 _ List.mem_cons_self, hx]
  · have hne : j ≠ d.keys[i] := by
      intro he
      have hn := (keys_nodup d).sublist (List.drop_sublist i d.keys)
      rw [e, List.nodup_cons] at hn
      exact hn.1 (he ▸ hj)
    rw [getD_set_other _ _ _ _ _ hne]
    exact h3 j (List.mem_cons_of_mem _ hj)
theorem set_same (l : List ByteArray) (j : Nat) (x : ByteArray) (hj : j < l.length) (h : l.getD j ByteArray.empty = x) : l.set j x = l := by
  have : l.getD j ByteArray.empty = l[j] := by simp [hj]
  rw [this] at h
  rw [← h, List.set_getElem_self]
theorem CrashAt.same {keep torn bytes : Int} {d : Dk} {i : Nat} {S' : List ByteArray} (h : CrashAt keep torn bytes d i S') (hi : i < d.keys.length) (hk : d.keys[i] < d.S.length) (hx : d.S.getD d.keys[i] ByteArray.empty = pickS keep torn bytes i (d.now d.keys[i]) (d.S.getD d.keys[i] ByteArray.empty)) : CrashAt keep torn bytes d (i + 1) S' := by
  have h2 := h.step hi hx
  have h3 := h.2.2 d.keys[i] (by rw [List.drop_eq_getElem_cons hi]; exact List.mem_cons_self)
  rwa [set_same S' _ _ (by rw [h.1]; exact hk) h3] at h2
theorem row_slice {w : World} {base : Nat} {e : TypeId} {size : Nat} {v : Value} {n : Nat} {xs : List Value} (h : w.ownsRow base e size v n xs) : ∃ A cap, v = .slice A n cap := by
  rcases h.2 with ⟨h1, h2⟩ | ⟨g, cap, cur, h1, _⟩
  · exact ⟨none, 0, by rw [h1, h2]⟩
  · exact ⟨_, cap, h1⟩
set_option maxHeartbeats 4000000 in
set_option maxRecDepth 100000 in
theorem crash_calls (W : World) (g bs bm : Nat) (d : Dk) (n : Nat) (h : DiskIs W g bs bm d n) (hn : n ≤ 1000000) (keep torn bytes : Int) (h0 : 0 ≤ bytes) (h1 : bytes ≤ 64) :
    Calls Try.prog 12 #[.pointer (some ⟨g, 0, none⟩), .agg #[.int .i64 keep, .int .i64 torn, .int .i64 bytes]] W fun e W' => e = .returned (.int .i64 0) ∧ DiskIs W' g bs bm ⟨crashRun keep torn bytes d 0 d.keys d.S, d.F.map fun _ => none⟩ 0 ∧ Kp W W' (Parts g bs bm) := by
  obtain ⟨a1, a2, a3⟩ := h.apart
  obtain ⟨D, hown, hf⟩ := h.map
  have HD := Aside0.mk h
  have HF := Aside0.mk hf
  have hsz : Maps.size D ≤ 1000000 := Nat.le_trans hown.size_le hn
  have HO := Aside0.mk hown
  clear h hf hown
  go_enter Try.func12, Try.ntmps12
  go_upto_region 5 with (first
    | ((with_reducible refine gate_dst (N := 3) rfl ?_); refine box_event ?hg (N := 3) ?hd (cs := #[.int .i64 keep, .int .i64 torn, .int .i64 bytes]) (t := 34) ?hr ?_; (case hd => rfl); (case hg => rfl); (case hr => first | (go_simp; done) | (go_simp; rfl)); intro gc hgc w4 hbox hb; have c_0 : w4.cell? ⟨gc, 0, none⟩ = some (.int .i64 keep) := (blk_cell hbox 0).trans rfl; have c_1 : w4.cell? ⟨gc, 1, none⟩ = some (.int .i64 torn) := (blk_cell hbox 1).trans rfl; have c_2 : w4.cell? ⟨gc, 2, none⟩ = some (.int .i64 bytes) := (blk_cell hbox 2).trans rfl; have HGC := Aside0.mk hgc; have HX := Aside0.mk hbox; have HB4 := Aside0.mk hb; clear hgc hbox hb))
  have hK4 := Kept.of_below HB4.out (fun _ => False)
  have HD4 := Aside0.mk (HD.out.kept hK4 id id id)
  have g1 : w4.cell? ⟨g, 1, none⟩ = some (.map (some bm)) := (blk_cell HD4.out.box 1).trans rfl
  have hown4 : w4.ownsMap Try.prog 3 (plainElem Try.prog 9) bm n D := by
    obtain ⟨es, clock, hb, r⟩ := HO.out
    exact ⟨es, clock, blk_kept hb hK4 id, r⟩
  have HO4 := Aside0.mk hown4
  clear hK4 c_0 c_1 c_2 hown4
  go_wp2_with (first
    | (go_at_call 27; (with_reducible refine (keys_calls (some bm) _).mono ?_); rintro e w' ⟨rfl, rfl⟩)
    | (go_at_call 26; refine (sorted_calls bm n D _ _ HO4.out hsz).mono ?_; rintro e w5 ⟨v, ss, rfl, hp, hrow, hnil, hb5⟩; have HP := Aside0.mk hp; have HRW := Aside0.mk hrow; have HB5 := Aside0.mk hb5; clear hp hrow hnil hb5; have hvs := row_slice HRW.out; obtain ⟨A, cap, hvs⟩ := hvs; subst hvs))
  have HE := Aside0.mk (keys_of HF.out HO.out HP.out)
  have HLEN := Aside0.mk (show ss.length = d.keys.length from by have := congrArg List.length HE.out; simpa using this)
  rw [HE.out, HLEN.out] at HRW
  have hls : ∃ m, m = ss.length := ⟨_, rfl⟩
  obtain ⟨m, hm⟩ := hls
  rw [← hm]
  have HM := Aside0.mk (hm.trans HLEN.out)
  clear hm
  have hrowlt : gc < w4.heap.size := blk_lt HX.out
  go_loopw [26] (fun v wr => ∃ (i : Nat) (S' : List ByteArray), v = .int .i64 i ∧ Aside0 (i ≤ m) ∧ Aside0 (CrashAt keep torn bytes d i S') ∧ Aside0 (wr.heap[bs]? = some (.cells (S'.map Value.string).toArray 9 (0, 0))) ∧ Aside0 (Kp W wr (Parts g bs bm)) ∧ Aside0 (wr.heap[g]? = W.heap[g]?) ∧ Aside0 (wr.heap[bm]? = W.heap[bm]?) ∧ Aside0 (wr.heap[gc]? = some (.cells #[.int .i64 keep, .int .i64 torn, .int .i64 bytes] 34 (0, 0))) ∧ Aside0 (wr.ownsRow (w4.heap.size + 1) 3 1 (.slice A d.keys.length cap) d.keys.length ((d.keys.map Int.ofNat).map encZ))) (fun v _ => m - (intOf v).toNat)
  case atStart =>
    have hbel : RowKit.Below w4.heap.size w4 w5 := below_step (below_alloc (RowKit.Below.refl _ _) _) HB5.out
    have hk5 : Kp W w5 (Parts g bs bm) := (Kp.of_below HB4.out _).then_ (Kp.of_below hbel _) (fun k hk => .inl hk)
    have hle := HB4.out.size
    exact ⟨0, d.S, rfl, ⟨Nat.zero_le _⟩, ⟨CrashAt.start _ _ _ _⟩, ⟨(hbel.block bs (Nat.lt_of_lt_of_le (blk_lt HD.out.row) hle)).trans HD4.out.row⟩, ⟨hk5⟩, ⟨(hbel.block g (Nat.lt_of_lt_of_le (blk_lt HD.out.box) hle)).trans (HB4.out.block g (blk_lt HD.out.box))⟩, ⟨(hbel.block bm (Nat.lt_of_lt_of_le HO.out.lt hle)).trans (HB4.out.block bm HO.out.lt)⟩, ⟨(hbel.block gc hrowlt).trans HX.out⟩, ⟨by simpa using HRW.out⟩⟩
  case round =>
    have h4 : W.heap.size ≤ w4.heap.size := HB4.out.size
    have hm1 : m ≤ 1024 := by
      have h5 : d.keys.length ≤ d.F.length := by
        have := List.length_filter_le (fun i => (d.F.getD i none).isSome) (List.range d.F.length)
        simpa [Dk.keys] using this
      have := HM.out
      have := HD.out.len
      have := HD.out.most
      omega
    clear hrowlt HRW HB5 HP HE HLEN HO4 g1 HX HB4
    obtain ⟨i, S', rfl, Hi, HC, HW, HK, HG, HBM, HX, HR⟩ := hrel
    by_cases hlt : i < m
    · have hik : i < d.keys.length := by rw [← HM.out]; exact hlt
      obtain ⟨gk, capk, hA, hgk1, hgk2⟩ := HR.out.form (by omega)
      injection hA with hA _ hcap
      subst hA
      subst hcap
      obtain ⟨j, hj⟩ : ∃ j, j = d.keys[i] := ⟨_, rfl⟩
      have hck : wr.cell? ⟨gk, i, none⟩ = some (.int .i64 (j : Int)) := by
        rw [HR.out.cellAt i (by omega)]
        simp [hik, encZ, hj]
      have hjm := keys_lt (d := d) (j := j) (by rw [hj]; exact List.getElem_mem hik)
      have hjS : j < d.S.length := by rw [← HD.out.len]; exact hjm.1
      obtain ⟨f, hf⟩ := Option.isSome_iff_exists.1 hjm.2
      have hfs := HD.out.fsize j f hf
      have b0 := blk_cell (HG.out.trans HD.out.box)
      have q0 : wr.cell? ⟨g, 0, none⟩ = some (.slice (some ⟨bs, 0, none⟩) d.S.length d.S.length) := (b0 0).trans rfl
      have q1 : wr.cell? ⟨g, 1, none⟩ = some (.map (some bm)) := (b0 1).trans rfl
      have x0 : wr.cell? ⟨gc, 0, none⟩ = some (.int .i64 keep) := (blk_cell HX.out 0).trans rfl
      have x1 : wr.cell? ⟨gc, 1, none⟩ = some (.int .i64 torn) := (blk_cell HX.out 1).trans rfl
      have x2 : wr.cell? ⟨gc, 2, none⟩ = some (.int .i64 bytes) := (blk_cell HX.out 2).trans rfl
      obtain ⟨sj, hsj⟩ : ∃ s, s = d.S.getD j ByteArray.empty := ⟨_, rfl⟩
      have hsz2 : sj.size = 64 := by
        refine HD.out.size _ ?_
        rw [hsj]
        have : d.S.getD j ByteArray.empty = d.S[j] := by simp [hjS]
        rw [this]
        exact List.getElem_mem hjS
      have y0 : wr.cell? ⟨bs, j, none⟩ = some (.string sj) := by
        rw [blk_cell HW.out j]
        have h4 := HC.out.2.2 j (by rw [List.drop_eq_getElem_cons hik, hj]; exact List.mem_cons_self)
        have : j < S'.length := by rw [HC.out.1]; exact hjS
        rw [hsj, ← h4]
        simp [this]
      have y1 : wr.frozen? ⟨bs, j, none⟩ = false := blk_frozen HW.out j
      have HOW : wr.ownsMap Try.prog 3 (plainElem Try.prog 9) bm n D := by
        obtain ⟨es, clock, hb, r⟩ := HO.out
        exact ⟨es, clock, HBM.out.trans hb, r⟩
      have hkey := key_int (i := j) (by have := HD.out.most; omega)
      have hat := (HF.out.1 j (by rw [HD.out.len]; exact hjS)).2 f hf
      have HAT := Aside0.mk hat
      have HJ := Aside0.mk hj
      have HS := Aside0.mk hsj
      have HFF := Aside0.mk hf
      have hbsl : bs < W.heap.size := blk_lt HD.out.row
      have hgcb : gc ≠ bs := by have := HGC.out; omega
      clear b0 hat hj hsj hf hjm
      by_cases hT : (i : Int) = torn
      · have tT : ((i : Int) == torn) = true := beq_iff_eq.mpr hT
        have tD : decide ((i : Int) = torn) = true := decide_eq_true hT
        have HT := Aside0.mk hT
        clear hT
        have hlk : ∀ nd, (Instr.lookup 59 (.map (some bm)) (.int .i64 (j : Int)) false).run Try.prog (wr.drewN nd) = .ok (.string f) (wr.drewN nd) := by
          intro nd
          obtain ⟨v, ps, hrun, hv⟩ := World.ownsMap.lookup (w := wr.drewN nd) HOW law3 Try.underlying59 (zero9 _) (plainElem_string Try.underlying9 (by simp [maxLen])) hkey
          obtain ⟨s, rfl, hs, hl⟩ := plainElem_string_inv Try.underlying9 hv
          rw [hrun, str_eq (congrArg Prod.fst hs).symm.symm HAT.out]
        have hlk0 : (Instr.lookup 59 (.map (some bm)) (.int .i64 (j : Int)) false).run Try.prog wr = .ok (.string f) wr := hlk 0
        go_wp2
        have hlk1 : (Instr.lookup 59 (.map (some bm)) (.int .i64 (j : Int)) false).run Try.prog wr.drew = .ok (.string f) wr.drew := hlk 1
        go_still_tail 26, (by kernel_rfl)
        change wpList _ _ _ _ _ wr.drew
        go_wp2
        go_roundw
        case rel => exact ⟨i + 1, _, by go_num, ⟨by omega⟩, ⟨HC.out.step hik (x := f.extract 0 bytes.toNat ++ sj.extract bytes.toNat 64) (by unfold pickS; rw [if_pos HT.out, ← HJ.out, ← HS.out, now_some HFF.out, hsz2])⟩, ⟨by rw [← HJ.out]; exact blk_put HW.out j _ (by simp [List.map_set])⟩, ⟨Kp.setCell (S := Parts g bs bm) (HK.out.drewN 1) (.inl (show Parts g bs bm bs from .inr (.inl rfl))) _⟩, ⟨(blk_other a3).trans HG.out⟩, ⟨(blk_other a2).trans HBM.out⟩, ⟨(blk_other hgcb).trans HX.out⟩, ⟨own_other HR.out (by intro e; have := hgk1; have := HGC.out; omega)⟩⟩
        case measure => simp [intOf]; omega
      · have tT : ((i : Int) == torn) = false := beq_eq_false_iff_ne.mpr hT
        have tD : decide ((i : Int) = torn) = false := decide_eq_false hT
        have HT := Aside0.mk hT
        clear hT
        by_cases h62 : i < 62
        · have t62 : decide ((i : Int) < 62) = true := decide_eq_true (by omega)
          by_cases hbit : Go.bits .and .i64 (keep / 2 ^ i) 1 = 1
          · have tb : (Go.bits .and .i64 (keep / 2 ^ i) 1 == 1) = true := beq_iff_eq.mpr hbit
            have HBIT := Aside0.mk hbit
            clear hbit
            have hlk : ∀ nd, (Instr.lookup 59 (.map (some bm)) (.int .i64 (j : Int)) false).run Try.prog (wr.drewN nd) = .ok (.string f) (wr.drewN nd) := by
              intro nd
              obtain ⟨v, ps, hrun, hv⟩ := World.ownsMap.lookup (w := wr.drewN nd) HOW law3 Try.underlying59 (zero9 _) (plainElem_string Try.underlying9 (by simp [maxLen])) hkey
              obtain ⟨s, rfl, hs, hl⟩ := plainElem_string_inv Try.underlying9 hv
              rw [hrun, str_eq (congrArg Prod.fst hs).symm.symm HAT.out]
            have hlk1 : (Instr.lookup 59 (.map (some bm)) (.int .i64 (j : Int)) false).run Try.prog wr.drew = .ok (.string f) wr.drew := hlk 1
            go_wp2
            go_still_tail 12, (by kernel_rfl)
            change wpList _ _ _ _ _ wr.drew
            go_wp2
            go_roundw
            case rel => exact ⟨i + 1, _, by go_num, ⟨by omega⟩, ⟨HC.out.step hik (x := f) (by unfold pickS; rw [if_neg HT.out, if_pos ⟨h62, HBIT.out⟩, ← HJ.out, now_some HFF.out])⟩, ⟨by rw [← HJ.out]; exact blk_put HW.out j _ (by simp [List.map_set])⟩, ⟨Kp.setCell (S := Parts g bs bm) (HK.out.drewN 1) (.inl (show Parts g bs bm bs from .inr (.inl rfl))) _⟩, ⟨(blk_other a3).trans HG.out⟩, ⟨(blk_other a2).trans HBM.out⟩, ⟨(blk_other hgcb).trans HX.out⟩, ⟨own_other HR.out (by intro e; have := hgk1; have := HGC.out; omega)⟩⟩
            case measure => simp [intOf]; omega
          · have tb : (Go.bits .and .i64 (keep / 2 ^ i) 1 == 1) = false := beq_eq_false_iff_ne.mpr hbit
            have HBIT := Aside0.mk hbit
            clear hbit
            have hkj : d.keys[i] < d.S.length := by rw [← HJ.out]; exact hjS
            have HKJ := Aside0.mk hkj
            go_wp2
            go_roundw
            case rel => exact ⟨i + 1, S', by go_num, ⟨by omega⟩, ⟨HC.out.same hik HKJ.out (by unfold pickS; rw [if_neg HT.out, if_neg (fun h => HBIT.out h.2)])⟩, HW, HK, HG, HBM, HX, HR⟩
            case measure => simp [intOf]; omega
        · have t62 : decide ((i : Int) < 62) = false := decide_eq_false (by omega)
          have hkj : d.keys[i] < d.S.length := by rw [← HJ.out]; exact hjS
          have HKJ := Aside0.mk hkj
          go_wp2
          go_roundw
          case rel => exact ⟨i + 1, S', by go_num, ⟨by omega⟩, ⟨HC.out.same hik HKJ.out (by unfold pickS; rw [if_neg HT.out, if_neg (fun h => h62 h.1)])⟩, HW, HK, HG, HBM, HX, HR⟩
          case measure => simp [intOf]; omega
    · obtain rfl : i = m := by have := Hi.out; omega
      have hfin : S' = crashRun keep torn bytes d 0 d.keys d.S := by
        have := HC.out.2.1
        rw [HM.out, List.drop_length] at this
        exact this
      have hl := HC.out.1
      have hlt : ∀ j ∈ d.keys, j < d.S.length := fun j hj => by rw [← HD.out.len]; exact (keys_lt hj).1
      have hall := crashRun_size (keep := keep) (torn := torn) h0 h1 (fun j hj => now_size HD.out j hj) d.keys 0 d.S hlt rfl HD.out.size
      rw [← hfin] at hall
      have HFIN := Aside0.mk hfin
      have HOW : wr.ownsMap Try.prog 3 (plainElem Try.prog 9) bm n D := by
        obtain ⟨es, clock, hb, r⟩ := HO.out
        exact ⟨es, clock, HBM.out.trans hb, r⟩
      have HDL : Aside0 (DiskIs wr g bs bm ⟨S', d.F⟩ n) := ⟨⟨by simpa [hl] using HG.out.trans HD.out.box, HW.out, ⟨D, HOW, HF.out⟩, by rw [hl]; exact HD.out.len, by rw [hl]; exact HD.out.pos, by rw [hl]; exact HD.out.most, hall, HD.out.fsize⟩⟩
      clear hfin hall HOW hlt hl
      go_wp2_with (go_at_call 28; refine (clean_calls _ _ _ _ _ _ HDL.out).mono ?_; rintro e w' ⟨rfl, hd2, hk2⟩; have HD2 := Aside0.mk hd2; have HK2 := Aside0.mk hk2; clear hd2 hk2)
      go_ret
      exact ⟨rfl, by rw [← HFIN.out]; exact HD2.out, HK.out.then_ HK2.out (fun k hk => .inl hk)⟩
end Go.Proofs.Ytgdalpjglmlmkaa.D
