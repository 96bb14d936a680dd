/- The next base fee at the law's three numbers, and that the three costs that the law asks for are so. -/
import Derived.Test.YtkelpkpbkebphaaDoorGAdd2
namespace Go.Proofs.YtkelpkpbkebphaaDoor
open Go.RowKit Go.Shelf Go.Proofs
theorem cells_at {W : World} {g : Nat} {c : Array Value} {t : TypeId} (h : W.heap[g]? = some (.cells c t)) (i : Nat) : W.cell? ⟨g, i, none⟩ = c[i]? := by
  unfold World.cell?
  simp only [h]
  rfl
theorem eq_125 (w : World) : (Op.equalIn 10000 65 (fee 125) (fee 0)).run Tryd.prog w = .ok false w := by kernel_rfl
theorem eq_1125 (w : World) : (Op.equalIn 10000 65 (fee 1125) (fee 1125)).run Tryd.prog w = .ok true w := by kernel_rfl
set_option maxRecDepth 100000 in
set_option maxHeartbeats 1000000 in
theorem next_any (w : World) : Calls Tryd.prog 41 #[fee 1000, .int .u64 200, .int .u64 200] w fun e w' => e = .returned (fee 1125) ∧ Below w.heap.size w w' := by
  go_enter Tryd.func41, Tryd.ntmps41
  go_wp2_with fail
  obtain ⟨W, hW⟩ : ∃ W, (((w.alloc (feeB 1000)).alloc (feeB 0)).alloc (.cells #[.int .u64 100] 37)) = W := ⟨_, rfl⟩
  have hs : W.heap.size = w.heap.size + 1 + 1 + 1 := by rw [← hW]; simp
  have hb : Below w.heap.size w W := hW ▸ below_three (Nat.le_refl _) 0 ..
  have q0 : W.heap[w.heap.size]? = some (feeB 1000) := by
    rw [← hW, heap_alloc_old _ _ (by simp; omega), heap_alloc_old _ _ (by simp), heap_alloc_new]
  have q1 : W.heap[w.heap.size + 1]? = some (feeB 0) := by
    rw [← hW, heap_alloc_old _ _ (by simp)]
    exact heap_alloc2_new _ _ _
  have q2 : W.heap[w.heap.size + 1 + 1]? = some (.cells #[.int .u64 100] 37) := by
    rw [← hW]
    have h := heap_alloc2_new (w.alloc (feeB 1000)) (feeB 0) (.cells #[.int .u64 100] 37)
    rw [show (w.alloc (feeB 1000)).heap.size = w.heap.size + 1 by simp] at h
    exact h
  rw [show (((w.alloc (.cells #[.int .u64 1000, .int .u64 0, .int .u64 0, .int .u64 0] 65)).alloc (.cells #[.int .u64 0, .int .u64 0, .int .u64 0, .int .u64 0] 65)).alloc (.cells #[.int .u64 100] 37)) = W from hW]
  clear hW
  refine (part_any W w.heap.size (w.heap.size + 1 + 1) (cells_at q0 0) (cells_at q0 1) (cells_at q0 2) (cells_at q0 3) (cells_at q2 0) (by omega) (by omega)).mono ?_
  rintro e w1 ⟨rfl, hb1⟩
  have hs1 : w.heap.size + 1 + 1 < w1.heap.size := Nat.lt_of_lt_of_le (by omega) hb1.size
  have p0 : (w1.alloc (feeB 125)).heap[w.heap.size]? = some (feeB 1000) := (heap_alloc_old _ _ (by omega)).trans ((hb1.block _ (by omega)).trans q0)
  have p1 : (w1.alloc (feeB 125)).heap[w.heap.size + 1]? = some (feeB 0) := (heap_alloc_old _ _ (by omega)).trans ((hb1.block _ (by omega)).trans q1)
  have HB1 := Lib.hid (hb.trans (hb1.mono (by omega)))
  have P1 := Lib.hid p1
  have P0 := Lib.hid p0
  have HS1 := Lib.hid hs1
  have c0 := cells_at p0 0
  have c1 := cells_at p0 1
  have c2 := cells_at p0 2
  have c3 := cells_at p0 3
  simp only [List.getElem?_toArray, List.getElem?_cons_zero, List.getElem?_cons_succ] at c0 c1 c2 c3
  clear hs hb q0 q1 q2 hb1 p0 p1 hs1
  have he := eq_125
  go_wp2_with fail
  refine (add_any _).mono ?_
  rintro e w2 ⟨rfl, hb2⟩
  have hs2 : w1.heap.size < w2.heap.size := Nat.lt_of_lt_of_le (by simp) hb2.size
  have hs1 := HS1.out
  have p0 : (w2.alloc (feeB 1125)).heap[w.heap.size]? = some (feeB 1000) := (heap_alloc_old _ _ (by omega)).trans ((hb2.block _ (by simp; omega)).trans P0.out)
  have p1 : (w2.alloc (feeB 1125)).heap[w.heap.size + 1]? = some (feeB 0) := (heap_alloc_old _ _ (by omega)).trans ((hb2.block _ (by simp; omega)).trans P1.out)
  have HB2 : Hid (Below w.heap.size w w2) := Lib.hid ((HB1.out.alloc HB1.out.size (feeB 125)).trans (hb2.mono (by simp; omega)))
  have d0 := cells_at p0 0
  have d1 := cells_at p0 1
  have d2 := cells_at p0 2
  have d3 := cells_at p0 3
  simp only [List.getElem?_toArray, List.getElem?_cons_zero, List.getElem?_cons_succ] at d0 d1 d2 d3
  have P2 := Lib.hid p1
  have HS2 := Lib.hid hs2
  clear c0 c1 c2 c3 hb2 p0 p1 P0 P1 hs1 hs2 HB1
  go_wp2_with fail
  refine (cmp_any _).mono ?_
  rintro e w3 ⟨rfl, hb3⟩
  have hs1 := HS1.out
  have hs2 := HS2.out
  have p1 : w3.heap[w.heap.size + 1]? = some (feeB 0) := (hb3.block _ (by simp; omega)).trans P2.out
  have p9 : w3.heap[w2.heap.size]? = some (feeB 1125) := (hb3.block _ (by simp)).trans (heap_alloc_new ..)
  have HB3 : Hid (Below w.heap.size w w3) := Lib.hid ((HB2.out.alloc HB2.out.size (feeB 1125)).trans (hb3.mono (by simp; omega)))
  have d0 := cells_at p9 0
  have d1 := cells_at p9 1
  have d2 := cells_at p9 2
  have d3 := cells_at p9 3
  simp only [List.getElem?_toArray, List.getElem?_cons_zero, List.getElem?_cons_succ] at d0 d1 d2 d3
  clear p9 hs1 hs2 hb3 P2
  go_wp2_with (refine wpList_store_row rfl 65 _ _ rfl (w.heap.size + 1) #[.int .u64 1125, .int .u64 0, .int .u64 0, .int .u64 0] rfl rfl 65 _ p1 (by kernel_rfl) (by kernel_rfl) (by kernel_rfl) ?_)
  refine bodyPost_ret (v := fee 1125) (results_cell_row rfl _ _ (w.heap.size + 1) 65 _ (0, 0) _ rfl (setRow_heap _ _ _ _ _ _ p1) Tryd.underlying65 (by kernel_rfl) (by kernel_rfl)) rfl ⟨rfl, ?_⟩
  exact below_setRow HB3.out (Nat.le_succ _) _
end Go.Proofs.YtkelpkpbkebphaaDoor
