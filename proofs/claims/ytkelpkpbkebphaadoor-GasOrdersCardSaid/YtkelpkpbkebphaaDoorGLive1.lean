/- Three costs that the law asks for, the closed calls: what the program answers. -/
import Derived.Test.YtkelpkpbkebphaaDoorRGas
namespace Go.Proofs.YtkelpkpbkebphaaDoor
open Go.RowKit Go.Shelf Go.Proofs
theorem memory_run : callT Tryd.prog noT (runC Tryd.prog noT 40) 39 #[.int .u64 33] = some (.tuple #[.int .u64 6, .bool true], 0) := by kernel_rfl
theorem memory_any (w : World) : Calls Tryd.prog 39 #[.int .u64 33] w fun e w' => e = .returned (.tuple #[.int .u64 6, .bool true]) ∧ w = w' :=
  (run_calls (noT_ok _) mixed 40 memory_run w).mono fun _ _ h => ⟨h.1, h.2.symm⟩
theorem forward_run : callT Tryd.prog noT (runC Tryd.prog noT 40) 40 #[.int .u64 6400, .int .u64 9999] = some (.int .u64 6300, 0) := by kernel_rfl
theorem forward_any (w : World) : Calls Tryd.prog 40 #[.int .u64 6400, .int .u64 9999] w fun e w' => e = .returned (.int .u64 6300) ∧ w = w' :=
  (run_calls (noT_ok _) mixed 40 forward_run w).mono fun _ _ h => ⟨h.1, h.2.symm⟩
end Go.Proofs.YtkelpkpbkebphaaDoor
