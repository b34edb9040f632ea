/- The package-level variables that the rows list: what a world that holds them gives, and one that does. -/
import Derived.Test.YtcefmhofidoloaaGreatDoorRows
import Derived.Test.YtcefmhofidoloaaGreatDoorBase
import Derived.WalkKit
import Derived.ProofKit
import Derived.OpenShut
import Derived.ShutString
import Derived.ChangeOld
import Derived.Below
import Derived.SizedLaws
import Derived.Deep.DeepHandedRow
import Derived.Lib.LaidTab
import Derived.Lib.ItoaNum
import Derived.LaidSub
set_option linter.unusedVariables false
namespace Go.Proofs.YtcefmhofidoloaaGreatDoor.Laid
open Go.ChangeShapes Go.WideShapes Go.ChangeAt Go.RowKit

def part1 : DataW Unit → List Value
  | .lit (.int k n) => [.int k n]
  | _ => []
def part2 : DataW Unit → List Value
  | .lit (.int k n) => [.int k n]
  | .agg l => l.flatMap part1
  | _ => []
/-- The cells of a table's data. -/
def flat : DataW Unit → List Value
  | .agg l => l.flatMap part2
  | _ => []
/-- The tables laid into a world. -/
def lay (P : Program) : List (String × DataW Unit) → World → World
  | [], w => w
  | (n, d) :: l, w => lay P l (match P.globalNamed n with
    | some g => { w with heap := w.heap.modify g fun
        | .cells _ t fr => .cells (flat d).toArray t fr
        | o => o }
    | none => w)
theorem pow_of {l : List (String × DataW Unit)} {W : World} (h : laidMetH Tryz.prog l W) (hl : l.filter (fun x => x.1 == "internal/strconv.uint64pow10") = [("internal/strconv.uint64pow10", Lib.tabData .u64 Lib.pow10Tab)]) {g n : Nat} {t e : TypeId}
    (hg : Tryz.prog.globalNamed "internal/strconv.uint64pow10" = some g) (hty : (Tryz.prog.globals[g]?).map (·.type) = some t) (ht : Tryz.prog.underlying t = some (.array n e)) (he : Tryz.prog.underlying e = some (.int .u64)) (hce : Tryz.prog.cellsOf e = 1) (hct : Tryz.prog.cellsOf t = n) :
    Lib.TabIs Tryz.prog W "internal/strconv.uint64pow10" .u64 Lib.pow10Tab := by
  have h2 := h.filter (fun x => x.1 == "internal/strconv.uint64pow10")
  rw [hl] at h2
  exact Lib.tabIs_of_head (rest := []) hg hty ht he hce hct (by rw [MakeChecks.laidMetH_plain _ _ _ (by rfl)] at h2; exact h2)
end Go.Proofs.YtcefmhofidoloaaGreatDoor.Laid
