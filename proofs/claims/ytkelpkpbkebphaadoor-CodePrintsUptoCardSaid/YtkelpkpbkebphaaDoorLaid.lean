/- What the rows' condition on the listed variables gives the walks. -/
import Derived.Test.YtkelpkpbkebphaaDoorRows
import Derived.Test.YtkelpkpbkebphaaDoorOf
import Derived.ProofKit
import Derived.LaidMore
import Derived.LaidSub
import Derived.OpenShut
import Derived.Stop.Joined
namespace Go.Proofs.YtkelpkpbkebphaaDoor
open Go.ChangeShapes Go.WideShapes Go.ChangeAt Go.RowKit

noncomputable abbrev laidAll : List (String × DataW Unit) := Rows.codeOrdersRow.laid

theorem door_met (os : Os) (args : Array Value) : laidMetH Tryd.prog laidAll ((World.doorLaid Tryd.prog 400 os).forCall (fun _ _ => 0) ⟨#[], args, []⟩).memory :=
  laidMetH_of_parts3 (fuel := 8) (laidMet_of_run' 8 (by kernel_rfl) (by kernel_rfl)) (by kernel_rfl) (by kernel_rfl)

theorem tabs_of_laid {W : World} (h : laidMetH Tryd.prog laidAll W) : Tabs W := by
  rw [MakeChecks.laidMetH_plain _ _ _ (by kernel_rfl)] at h
  refine ⟨?_, ?_⟩
  · have h1 := laidMet.filter (fun x => x.1 == "internal/strconv.uint64pow10") h
    have e : laidAll.filter (fun x => x.1 == "internal/strconv.uint64pow10") = [("internal/strconv.uint64pow10", Lib.tabData .u64 Lib.pow10Tab)] := by kernel_rfl
    rw [e] at h1
    exact Lib.tabIs_of_head gPow (t := 109) (e := 37) (n := 20) (by kernel_rfl) Tryd.underlying109 Tryd.underlying37 (by kernel_rfl) (by kernel_rfl) h1
  · have h1 := laidMet.filter (fun x => x.1 == "strings.asciiSpace") h
    have e : laidAll.filter (fun x => x.1 == "strings.asciiSpace") = [("strings.asciiSpace", Lib.tabData .u8 Lib.asciiSpaceTab)] := by kernel_rfl
    rw [e] at h1
    exact Lib.tabIs_of_head gAsc (t := 87) (e := 5) (n := 256) (by kernel_rfl) Tryd.underlying87 Tryd.underlying5 (by kernel_rfl) (by kernel_rfl) h1
end Go.Proofs.YtkelpkpbkebphaaDoor
