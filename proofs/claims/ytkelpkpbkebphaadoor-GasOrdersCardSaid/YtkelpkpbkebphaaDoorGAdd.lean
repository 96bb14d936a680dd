/- The sum and the comparison at the law's numbers. -/
import Derived.BigRegion
import Derived.Laws.ResultCell
import Derived.Test.YtkelpkpbkebphaaDoorGPart
namespace Go.Proofs.YtkelpkpbkebphaaDoor
open Go.RowKit Go.Shelf Go.Proofs
theorem adds_1 (w : World) : (callFunc 53 #[.int .u64 1000, .int .u64 125, .int .u64 0]).run Tryd.prog w = .ok (.value (.tuple #[.int .u64 1125, .int .u64 0])) w := by kernel_rfl
theorem below_three {W : World} {n : Nat} (h : n ≤ W.heap.size) (k : Nat) (a b c : Obj) : Below n W ((((W.drewN k).alloc a).alloc b).alloc c) := by
  have h0 : Below n W (W.drewN k) := below_drew (Below.refl n W) k
  have h1 := h0.alloc (show n ≤ (W.drewN k).heap.size from h) a
  have h2 := h1.alloc (by simp only [World.size_alloc]; exact Nat.le_succ_of_le h) b
  exact h2.alloc (by simp only [World.size_alloc]; exact Nat.le_succ_of_le (Nat.le_succ_of_le h)) c
theorem below_two {W : World} {n : Nat} (h : n ≤ W.heap.size) (k : Nat) (a b : Obj) : Below n W (((W.drewN k).alloc a).alloc b) := by
  have h0 : Below n W (W.drewN k) := below_drew (Below.refl n W) k
  have h1 := h0.alloc (show n ≤ (W.drewN k).heap.size from h) a
  exact h1.alloc (by simp only [World.size_alloc]; exact Nat.le_succ_of_le h) b
set_option maxRecDepth 100000 in
set_option maxHeartbeats 1000000 in
theorem addc_any (W : World) : Calls Tryd.prog 68 #[fee 1000, fee 125] W fun e w' => e = .returned (.tuple #[fee 1125, .int .u64 0]) ∧ Below W.heap.size W w' := by
  have j1 := adds_1
  have j0 := addc_0
  go_enter Tryd.func68, Tryd.ntmps68
  go_wp2
  obtain ⟨R, hR⟩ : ∃ R, W.heap.size = R := ⟨_, rfl⟩
  rw [hR]
  have HRh := Lib.hid hR
  clear hR
  go_loopw [6, 8] (fun r i wr => r = .int .u64 0 ∧ ∃ j : Int, 0 ≤ j ∧ j ≤ 4 ∧ i = .int .i64 j ∧ ∃ k, wr = (((W.drewN k).alloc (feeB (if j = 0 then 1000 else 1125))).alloc (feeB 125)).alloc (feeB 0)) (fun _ i _ => (4 - intOf i).toNat)
  case atStart => exact ⟨rfl, 0, by omega, by omega, rfl, 0, rfl⟩
  case round =>
    obtain ⟨rfl, j, hj1, hj2, rfl, k, rfl⟩ := hrel
    have hS : (W.drewN k).heap.size = R := HRh.out
    generalize hW : W.drewN k = W1 at *
    obtain rfl | rfl | rfl | rfl | rfl : j = 4 ∨ j = 0 ∨ j = 1 ∨ j = 2 ∨ j = 3 := by omega
    · clear hj1 hj2
      simp only [show (4 : Int) ≠ 0 by omega, if_false]
      go_wp2
      (try simp only [Exit.inBlock, Exit.then])
      refine bodyPost_ret (v := .tuple #[fee 1125, .int .u64 0]) ?rr rfl ?post
      case rr =>
        rw [results_cell_tmp rfl]
        go_simp
      case post =>
        refine ⟨rfl, ?_⟩
        rw [← hW]
        exact below_three (Nat.le_refl _) ..
    · clear hj1 hj2
      simp only [if_true]
      go_wp2
      go_region
      go_wp2
      exact ⟨⟨rfl, 1, by omega, by omega, rfl, k + 1, by rw [← hW]; rfl⟩, by simp [intOf]⟩
    · clear hj1 hj2
      simp only [show (1 : Int) ≠ 0 by omega, if_false]
      go_wp2
      go_region
      go_wp2
      exact ⟨⟨rfl, 2, by omega, by omega, rfl, k + 1, by rw [← hW]; rfl⟩, by simp [intOf]⟩
    · clear hj1 hj2
      simp only [show (2 : Int) ≠ 0 by omega, if_false]
      go_wp2
      go_region
      go_wp2
      exact ⟨⟨rfl, 3, by omega, by omega, rfl, k + 1, by rw [← hW]; rfl⟩, by simp [intOf]⟩
    · clear hj1 hj2
      simp only [show (3 : Int) ≠ 0 by omega, if_false]
      go_wp2
      go_region
      go_wp2
      exact ⟨⟨rfl, 4, by omega, by omega, rfl, k + 1, by rw [← hW]; rfl⟩, by simp [intOf]⟩
theorem cmp_run1 : callT Tryd.prog noT (runC Tryd.prog noT 60) 77 #[.int .u64 1125, .int .u64 1000] = some (.int .i64 1, 0) := by kernel_rfl
theorem cmp_run0 : callT Tryd.prog noT (runC Tryd.prog noT 60) 77 #[.int .u64 0, .int .u64 0] = some (.int .i64 0, 0) := by kernel_rfl
theorem cmp_1 (w : World) : Calls Tryd.prog 77 #[.int .u64 1125, .int .u64 1000] w fun e w' => e = .returned (.int .i64 1) ∧ w' = w := (run_calls (noT_ok _) mixed 60 cmp_run1 w).mono fun _ _ h => ⟨h.1, h.2⟩
theorem cmp_0 (w : World) : Calls Tryd.prog 77 #[.int .u64 0, .int .u64 0] w fun e w' => e = .returned (.int .i64 0) ∧ w' = w := (run_calls (noT_ok _) mixed 60 cmp_run0 w).mono fun _ _ h => ⟨h.1, h.2⟩
set_option maxRecDepth 100000 in
set_option maxHeartbeats 1000000 in
theorem cmpr_any (W : World) : Calls Tryd.prog 69 #[fee 1125, fee 1000] W fun e w' => e = .returned (.int .i64 1) ∧ Below W.heap.size W w' := by
  go_enter Tryd.func69, Tryd.ntmps69
  go_wp2
  obtain ⟨R, hR⟩ : ∃ R, W.heap.size = R := ⟨_, rfl⟩
  rw [hR]
  have HRh := Lib.hid hR
  clear hR
  go_loopw [5] (fun i wr => ∃ j : Int, 0 ≤ j ∧ j ≤ 3 ∧ i = .int .i64 j ∧ ∃ k, wr = ((W.drewN k).alloc (feeB 1125)).alloc (feeB 1000)) (fun i _ => (intOf i).toNat)
  case atStart => exact ⟨3, by omega, by omega, rfl, 0, rfl⟩
  case round =>
    obtain ⟨j, hj1, hj2, rfl, k, rfl⟩ := hrel
    have hS : (W.drewN k).heap.size = R := HRh.out
    generalize hW : W.drewN k = W1 at *
    obtain rfl | rfl | rfl | rfl : j = 0 ∨ j = 1 ∨ j = 2 ∨ j = 3 := by omega
    · clear hj1 hj2
      go_wp2
      go_quiet ((go_at_call 77; exact Calls.quiet_of_same (cmp_1 _)))
      go_wp2
      go_ret
      refine ⟨rfl, ?_⟩
      rw [← hW]
      exact below_drew (below_two (Nat.le_refl _) ..) _
    · clear hj1 hj2
      go_wp2
      go_quiet ((go_at_call 77; exact Calls.quiet_of_same (cmp_0 _)))
      go_wp2
      exact ⟨⟨0, by omega, by omega, rfl, k + nq, by rw [← hW, drew_alloc, drew_alloc, World.drewN_drewN]⟩, by simp [intOf]⟩
    · clear hj1 hj2
      go_wp2
      go_quiet ((go_at_call 77; exact Calls.quiet_of_same (cmp_0 _)))
      go_wp2
      exact ⟨⟨1, by omega, by omega, rfl, k + nq, by rw [← hW, drew_alloc, drew_alloc, World.drewN_drewN]⟩, by simp [intOf]⟩
    · clear hj1 hj2
      go_wp2
      go_quiet ((go_at_call 77; exact Calls.quiet_of_same (cmp_0 _)))
      go_wp2
      exact ⟨⟨2, by omega, by omega, rfl, k + nq, by rw [← hW, drew_alloc, drew_alloc, World.drewN_drewN]⟩, by simp [intOf]⟩
end Go.Proofs.YtkelpkpbkebphaaDoor
