/-
  No cell of these rows narrows 'for every input' (looked for: loops, veiled, ifaces, maps, wideKeys, modest, calm, conditions, laid).
  DERIVED. THE GIVEN ROWS OF THIS SEAT. 4 by the template 'for every input the law returns true; each argument reads behind the call as it read before'; 0 by the template 'total and deterministic' (their statements: YtngcljnhcbbdmaaTotals.lean).
  GIVEN WITH THE SEED: the statements are not yours to turn. If you find one false, say at which input.
  Laid BY PROGRAM, IN A SANDBOX (cutbox-rows.mjs): the forced cells as the released guide's own fill.sh prints them over the translation 27b99ba6da9ffecc… (all of the seat's roots in one cut). By AI agents, Wed Nov 11 2026. No macro, syntax, notation, axiom, sorry.
-/
import Derived.Test.YtngcljnhcbbdmaaChecked
import GoSem.Claim
import GoSem.ClaimJoined
import GoSem.ClaimMapViews
import Derived.JoinedTies
import Derived.KernelRfl
namespace Go.Proofs.Ytngcljnhcbbdmaa
/- THE CELL 'sum', in the pinned program and in every row, IS THE sha256 OF THE DUMP (.gsa) THAT YtngcljnhcbbdmaaProg.lean LOADS. Nothing in Lean hashes anything: it is a label: what it is worth is what the hold of that sum in a sandbox is worth. -/
noncomputable def Try.pinned : Pinned := { name := "ytngcljnhcbbdmaa", sum := "27b99ba6da9ffecc0a2688b35a373493e134e4f32b57a6c768741c10c82b02f0", checked := Try.checked }
namespace Rows
def none {H : Type} : Left H := { results := [], args := [] }

/-- 'furlonglaw6.Covers': WHATEVER THE INPUT: true; the input reads as it did. -/
def coversSpec : ChangeSpec := { name := "covers", fn := fun _ => fun
  | [d1, d2, d3, d4] => { results := [.lit (.bool true)], args := [d1, d2, d3, d4] }
  | _ => none }
def coversRow : OpenClaim := { program := "ytngcljnhcbbdmaa", sum := "27b99ba6da9ffecc0a2688b35a373493e134e4f32b57a6c768741c10c82b02f0", func := "furlong/furlonglaw6.Covers", spec := "covers", unfollowed := true, recurses := true, apart := false }
def CoversSaid : Prop := coversRow.holds Try.pinned (OpenSpec.ofChange coversSpec)

/-- ITS FALSE NEIGHBOUR: 'it returns false'. Refute it at one input. -/
def coversWrong : ChangeSpec := { name := "covers", fn := fun _ => fun
  | [d1, d2, d3, d4] => { results := [.lit (.bool false)], args := [d1, d2, d3, d4] }
  | _ => none }
def CoversWrongFalsely : Prop := coversRow.holds Try.pinned (OpenSpec.ofChange coversWrong)

/-- 'furlonglaw6.CoverSets': WHATEVER THE INPUT: true; the input reads as it did. -/
def coverSetsSpec : ChangeSpec := { name := "coverSets", fn := fun _ => fun
  | [d1, d2, d3] => { results := [.lit (.bool true)], args := [d1, d2, d3] }
  | _ => none }
def coverSetsRow : OpenClaim := { program := "ytngcljnhcbbdmaa", sum := "27b99ba6da9ffecc0a2688b35a373493e134e4f32b57a6c768741c10c82b02f0", func := "furlong/furlonglaw6.CoverSets", spec := "coverSets", unfollowed := true, recurses := true, apart := false }
def CoverSetsSaid : Prop := coverSetsRow.holds Try.pinned (OpenSpec.ofChange coverSetsSpec)

/-- ITS FALSE NEIGHBOUR: 'it returns false'. Refute it at one input. -/
def coverSetsWrong : ChangeSpec := { name := "coverSets", fn := fun _ => fun
  | [d1, d2, d3] => { results := [.lit (.bool false)], args := [d1, d2, d3] }
  | _ => none }
def CoverSetsWrongFalsely : Prop := coverSetsRow.holds Try.pinned (OpenSpec.ofChange coverSetsWrong)

/-- 'furlonglaw6.CoverCounts': WHATEVER THE INPUT: true; the input reads as it did. -/
def coverCountsSpec : ChangeSpec := { name := "coverCounts", fn := fun _ => fun
  | [d] => { results := [.lit (.bool true)], args := [d] }
  | _ => none }
def coverCountsRow : OpenClaim := { program := "ytngcljnhcbbdmaa", sum := "27b99ba6da9ffecc0a2688b35a373493e134e4f32b57a6c768741c10c82b02f0", func := "furlong/furlonglaw6.CoverCounts", spec := "coverCounts", unfollowed := true, recurses := true, apart := false }
def CoverCountsSaid : Prop := coverCountsRow.holds Try.pinned (OpenSpec.ofChange coverCountsSpec)

/-- ITS FALSE NEIGHBOUR: 'it returns false'. Refute it at one input. -/
def coverCountsWrong : ChangeSpec := { name := "coverCounts", fn := fun _ => fun
  | [d] => { results := [.lit (.bool false)], args := [d] }
  | _ => none }
def CoverCountsWrongFalsely : Prop := coverCountsRow.holds Try.pinned (OpenSpec.ofChange coverCountsWrong)

/-- 'furlonglaw6.CoverGrows': WHATEVER THE INPUT: true; the input reads as it did. -/
def coverGrowsSpec : ChangeSpec := { name := "coverGrows", fn := fun _ => fun
  | [d1, d2] => { results := [.lit (.bool true)], args := [d1, d2] }
  | _ => none }
def coverGrowsRow : OpenClaim := { program := "ytngcljnhcbbdmaa", sum := "27b99ba6da9ffecc0a2688b35a373493e134e4f32b57a6c768741c10c82b02f0", func := "furlong/furlonglaw6.CoverGrows", spec := "coverGrows", unfollowed := true, recurses := true, apart := false }
def CoverGrowsSaid : Prop := coverGrowsRow.holds Try.pinned (OpenSpec.ofChange coverGrowsSpec)

/-- ITS FALSE NEIGHBOUR: 'it returns false'. Refute it at one input. -/
def coverGrowsWrong : ChangeSpec := { name := "coverGrows", fn := fun _ => fun
  | [d1, d2] => { results := [.lit (.bool false)], args := [d1, d2] }
  | _ => none }
def CoverGrowsWrongFalsely : Prop := coverGrowsRow.holds Try.pinned (OpenSpec.ofChange coverGrowsWrong)

/- THE SECOND FORM. 'bulk': how many values and letters a reading holds, each counted each time it is reached (what is shared counts as often as it is met; a slice's spare places count too). A statement '..UptoSaid' is the law's where the arguments, and the package variables that the reading takes, are together of bulk at most 1048576: NARROWER than '..Said'. Prove '..Said' where nothing that the law and all that it calls make is longer than what came in: it says more and counts as full. Else prove '..UptoSaid'. A law counts once. -/
mutual
def uptoBulk {H : Type} : DataW H → Nat
  | .lit (.string bytes) => bytes.length + 1
  | .lit _ => 1
  | .nil => 1
  | .ptr d => uptoBulk d + 1
  | .slice elems spare => uptoBulkAll elems + uptoBulkAll spare + 1
  | .agg parts => uptoBulkAll parts + 1
  | .iface _ d => uptoBulk d + 1
  | .map entries => uptoBulkEntries entries + 1
  | .held _ => 1
def uptoBulkAll {H : Type} : List (DataW H) → Nat
  | [] => 0
  | d :: r => uptoBulk d + uptoBulkAll r
def uptoBulkEntries {H : Type} : List (Lit × DataW H) → Nat
  | [] => 0
  | x :: r => uptoBulkEntry x + uptoBulkEntries r
def uptoBulkEntry {H : Type} : Lit × DataW H → Nat
  | (.string bytes, d) => bytes.length + uptoBulk d + 1
  | (_, d) => uptoBulk d + 1
 end
def uptoSmall : (H : Type) → List (DataW H) → Bool := fun _ ds => decide (uptoBulkAll ds ≤ 1048576)
def OpenSpec.upto (s : _root_.Go.ChangeSpec) : _root_.Go.OpenSpec := { _root_.Go.OpenSpec.ofChange s with cond := some uptoSmall }

/-- 'furlonglaw6.Covers', WHERE WHAT IT READS IS OF BULK AT MOST 1048576: true; the input reads as it did. -/
def coversUptoRow : OpenClaim := { program := "ytngcljnhcbbdmaa", sum := "27b99ba6da9ffecc0a2688b35a373493e134e4f32b57a6c768741c10c82b02f0", func := "furlong/furlonglaw6.Covers", spec := "covers", unfollowed := true, recurses := true, apart := false, narrowed := true }
def CoversUptoSaid : Prop := coversUptoRow.holds Try.pinned (OpenSpec.upto coversSpec)

/-- 'furlonglaw6.CoverSets', WHERE WHAT IT READS IS OF BULK AT MOST 1048576: true; the input reads as it did. -/
def coverSetsUptoRow : OpenClaim := { program := "ytngcljnhcbbdmaa", sum := "27b99ba6da9ffecc0a2688b35a373493e134e4f32b57a6c768741c10c82b02f0", func := "furlong/furlonglaw6.CoverSets", spec := "coverSets", unfollowed := true, recurses := true, apart := false, narrowed := true }
def CoverSetsUptoSaid : Prop := coverSetsUptoRow.holds Try.pinned (OpenSpec.upto coverSetsSpec)

/-- 'furlonglaw6.CoverCounts', WHERE WHAT IT READS IS OF BULK AT MOST 1048576: true; the input reads as it did. -/
def coverCountsUptoRow : OpenClaim := { program := "ytngcljnhcbbdmaa", sum := "27b99ba6da9ffecc0a2688b35a373493e134e4f32b57a6c768741c10c82b02f0", func := "furlong/furlonglaw6.CoverCounts", spec := "coverCounts", unfollowed := true, recurses := true, apart := false, narrowed := true }
def CoverCountsUptoSaid : Prop := coverCountsUptoRow.holds Try.pinned (OpenSpec.upto coverCountsSpec)

/-- 'furlonglaw6.CoverGrows', WHERE WHAT IT READS IS OF BULK AT MOST 1048576: true; the input reads as it did. -/
def coverGrowsUptoRow : OpenClaim := { program := "ytngcljnhcbbdmaa", sum := "27b99ba6da9ffecc0a2688b35a373493e134e4f32b57a6c768741c10c82b02f0", func := "furlong/furlonglaw6.CoverGrows", spec := "coverGrows", unfollowed := true, recurses := true, apart := false, narrowed := true }
def CoverGrowsUptoSaid : Prop := coverGrowsUptoRow.holds Try.pinned (OpenSpec.upto coverGrowsSpec)

end Rows
end Go.Proofs.Ytngcljnhcbbdmaa
