/-
  The curve's cell of a place of the grid of 64 by 64: each place has one, and each of the 4096 cells has its place.
-/
import Derived.Test.YtngcljnhcbbdmaaPLink
namespace Go.Proofs.Ytngcljnhcbbdmaa.C
open Go.RowKit Go.Proofs.YtngcljnhcbbdmaaW.PrintWords Go.Proofs.YtngcljnhcbbdmaaW.PrintLast Go.Proofs.YtngcljnhcbbdmaaW.PrintMore
set_option linter.unusedVariables false
set_option linter.unusedSimpArgs false

/-- the place of a cell, for a grid of 2^n by 2^n -/
def place : Nat → Nat → Nat × Nat
  | 0, _ => (0, 0)
  | n + 1, d =>
    let s := 2 ^ n
    let q := d / (s * s)
    let p := place n (d % (s * s))
    if q = 0 then (p.2, p.1) else if q = 1 then (p.1, s + p.2) else if q = 2 then (s + p.1, s + p.2) else (s + (s - 1 - p.2), s - 1 - p.1)
def cellN (x y : Nat) : Nat := match hilbert_Cell.f 9 (x : Int) (y : Int) 6 with | some (.ofNat v, .ofNat 0) => v | _ => 4096
set_option maxRecDepth 100000 in
theorem cells_there : ((List.range 64).all fun x => (List.range 64).all fun y => Nat.ble (cellN x y) 4095 && (place 6 (cellN x y)).1 == x && (place 6 (cellN x y)).2 == y) = true := by decide +kernel
end Go.Proofs.Ytngcljnhcbbdmaa.C
