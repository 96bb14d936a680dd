/- The closed calls that the next base fee makes. -/
import Derived.Test.YtkelpkpbkebphaaDoorGLive1
namespace Go.Proofs.YtkelpkpbkebphaaDoor
open Go.RowKit Go.Shelf Go.Proofs
theorem run_some {f : FuncId} {n : Nat} {args : Array Value} {v : Value} (h : (callT Tryd.prog noT (runC Tryd.prog noT n) f args).map (·.1) = some v) (w : World) :
    Calls Tryd.prog f args w fun e w' => e = .returned v ∧ ∃ k, w' = w.drewN k := by
  obtain ⟨⟨v', k⟩, hr, hv⟩ := Option.map_eq_some_iff.1 h
  cases hv
  exact (run_calls (noT_ok _) mixed n hr w).mono fun _ _ h => ⟨h.1, k, h.2⟩
theorem mul_1 : (callT Tryd.prog noT (runC Tryd.prog noT 60) 52 #[.int .u64 1000, .int .u64 100]).map (·.1) = some (.tuple #[.int .u64 0, .int .u64 100000]) := by kernel_rfl
theorem mul_0 : (callT Tryd.prog noT (runC Tryd.prog noT 60) 52 #[.int .u64 0, .int .u64 100]).map (·.1) = some (.tuple #[.int .u64 0, .int .u64 0]) := by kernel_rfl
theorem div_1 : (callT Tryd.prog noT (runC Tryd.prog noT 60) 55 #[.int .u64 0, .int .u64 0, .int .u64 100]).map (·.1) = some (.tuple #[.int .u64 0, .int .u64 0]) := by kernel_rfl
theorem div_2 : (callT Tryd.prog noT (runC Tryd.prog noT 60) 55 #[.int .u64 0, .int .u64 100000, .int .u64 100]).map (·.1) = some (.tuple #[.int .u64 1000, .int .u64 0]) := by kernel_rfl
theorem div_3 : (callT Tryd.prog noT (runC Tryd.prog noT 60) 55 #[.int .u64 0, .int .u64 0, .int .u64 8]).map (·.1) = some (.tuple #[.int .u64 0, .int .u64 0]) := by kernel_rfl
theorem div_4 : (callT Tryd.prog noT (runC Tryd.prog noT 60) 55 #[.int .u64 0, .int .u64 1000, .int .u64 8]).map (·.1) = some (.tuple #[.int .u64 125, .int .u64 0]) := by kernel_rfl
end Go.Proofs.YtkelpkpbkebphaaDoor
