/- The sum and the comparison, the exported calls. -/
import Derived.Test.YtkelpkpbkebphaaDoorGAdd
namespace Go.Proofs.YtkelpkpbkebphaaDoor
open Go.RowKit Go.Shelf Go.Proofs
set_option maxRecDepth 100000 in
set_option maxHeartbeats 1000000 in
theorem add_any (W : World) : Calls Tryd.prog 58 #[fee 1000, fee 125] W fun e w' => e = .returned (fee 1125) ∧ Below W.heap.size W w' := by
  go_enter Tryd.func58, Tryd.ntmps58
  go_wp2_with fail
  obtain ⟨w3, hw3⟩ : ∃ w3, (((W.alloc (feeB 1000)).alloc (feeB 125)).alloc (feeB 0)) = w3 := ⟨_, rfl⟩
  have hblk : w3.heap[W.heap.size + 1 + 1]? = some (feeB 0) := by
    rw [← hw3]
    have h := heap_alloc_new ((W.alloc (feeB 1000)).alloc (feeB 125)) (feeB 0)
    rw [show ((W.alloc (feeB 1000)).alloc (feeB 125)).heap.size = W.heap.size + 1 + 1 by simp] at h
    exact h
  have hsz : W.heap.size + 1 + 1 < w3.heap.size := by rw [← hw3]; simp
  have hbw : Below W.heap.size W w3 := hw3 ▸ below_three (Nat.le_refl _) 0 ..
  rw [show (((W.alloc (.cells #[.int .u64 1000, .int .u64 0, .int .u64 0, .int .u64 0] 65)).alloc (.cells #[.int .u64 125, .int .u64 0, .int .u64 0, .int .u64 0] 65)).alloc (.cells #[.int .u64 0, .int .u64 0, .int .u64 0, .int .u64 0] 65)) = w3 from hw3]
  clear hw3
  refine (addc_any _).mono ?_
  rintro e w8 ⟨rfl, hb8⟩
  have hblk8 := (hb8.block _ hsz).trans hblk
  have hs8 : W.heap.size + 1 + 1 < w8.heap.size := Nat.lt_of_lt_of_le hsz hb8.size
  have hb := Lib.hid (hbw.trans (hb8.mono (Nat.le_trans (Nat.le_succ_of_le (Nat.le_succ _)) (Nat.le_of_lt hsz))))
  have hc8 : (w8.alloc (feeB 1125)).heap[W.heap.size + 1 + 1]? = some (feeB 0) := (heap_alloc_old _ _ hs8).trans hblk8
  clear hb8 hblk hsz hbw
  go_wp2_with (refine wpList_store_row rfl 65 _ _ rfl (W.heap.size + 1 + 1) #[.int .u64 1125, .int .u64 0, .int .u64 0, .int .u64 0] rfl rfl 65 _ hc8 (by kernel_rfl) (by kernel_rfl) (by kernel_rfl) ?_)
  refine bodyPost_ret (v := fee 1125) (results_cell_row rfl _ _ (W.heap.size + 1 + 1) 65 _ (0, 0) _ rfl (setRow_heap _ _ _ _ _ _ hc8) Tryd.underlying65 (by kernel_rfl) (by kernel_rfl)) rfl ⟨rfl, ?_⟩
  exact below_setRow (hb.out.alloc hb.out.size _) (Nat.le_succ_of_le (Nat.le_succ _)) _
set_option maxRecDepth 100000 in
set_option maxHeartbeats 1000000 in
theorem cmp_any (W : World) : Calls Tryd.prog 59 #[fee 1125, fee 1000] W fun e w' => e = .returned (.int .i64 1) ∧ Below W.heap.size W w' := by
  go_enter Tryd.func59, Tryd.ntmps59
  go_wp2_with (go_at_call 69; refine (cmpr_any _).mono ?_; rintro e w8 ⟨rfl, hb8⟩)
  go_ret
  refine ⟨rfl, ?_⟩
  exact (below_two (Nat.le_refl _) 0 (feeB 1125) (feeB 1000)).trans (hb8.mono (by simp only [World.size_alloc]; exact Nat.le_succ_of_le (Nat.le_succ _)))
end Go.Proofs.YtkelpkpbkebphaaDoor
