/- The table of orders in the program's code, and what the function that answers it does. -/
import Derived.WalkSpells
import Derived.Outline
import Derived.Deep.WholeRow
import Derived.KernelRfl
import Derived.Test.YtkelpkpbkebphaaDoorMath
import Derived.Test.YtkelpkpbkebphaaDoorRun
import Derived.Test.YtkelpkpbkebphaaDoorShelf
namespace Go.Proofs.YtkelpkpbkebphaaDoor
open Go.RowKit Go.Proofs

def rowsV : Array Value := #[.int .u8 0, .int .i64 0, .int .i64 0, .string ⟨#[83, 84, 79, 80]⟩,
  .int .u8 1, .int .i64 2, .int .i64 1, .string ⟨#[65, 68, 68, 32, 77, 85, 76, 32, 83, 85, 66, 32, 68, 73, 86, 32, 83, 68, 73, 86, 32, 77, 79, 68, 32, 83, 77, 79, 68]⟩,
  .int .u8 8, .int .i64 3, .int .i64 1, .string ⟨#[65, 68, 68, 77, 79, 68, 32, 77, 85, 76, 77, 79, 68]⟩,
  .int .u8 10, .int .i64 2, .int .i64 1, .string ⟨#[69, 88, 80, 32, 83, 73, 71, 78, 69, 88, 84, 69, 78, 68]⟩,
  .int .u8 16, .int .i64 2, .int .i64 1, .string ⟨#[76, 84, 32, 71, 84, 32, 83, 76, 84, 32, 83, 71, 84, 32, 69, 81]⟩,
  .int .u8 21, .int .i64 1, .int .i64 1, .string ⟨#[73, 83, 90, 69, 82, 79]⟩,
  .int .u8 22, .int .i64 2, .int .i64 1, .string ⟨#[65, 78, 68, 32, 79, 82, 32, 88, 79, 82]⟩,
  .int .u8 25, .int .i64 1, .int .i64 1, .string ⟨#[78, 79, 84]⟩,
  .int .u8 26, .int .i64 2, .int .i64 1, .string ⟨#[66, 89, 84, 69, 32, 83, 72, 76, 32, 83, 72, 82, 32, 83, 65, 82]⟩,
  .int .u8 32, .int .i64 2, .int .i64 1, .string ⟨#[83, 72, 65, 51]⟩,
  .int .u8 48, .int .i64 0, .int .i64 1, .string ⟨#[65, 68, 68, 82, 69, 83, 83]⟩,
  .int .u8 49, .int .i64 1, .int .i64 1, .string ⟨#[66, 65, 76, 65, 78, 67, 69]⟩,
  .int .u8 50, .int .i64 0, .int .i64 1, .string ⟨#[79, 82, 73, 71, 73, 78, 32, 67, 65, 76, 76, 69, 82, 32, 67, 65, 76, 76, 86, 65, 76, 85, 69]⟩,
  .int .u8 53, .int .i64 1, .int .i64 1, .string ⟨#[67, 65, 76, 76, 68, 65, 84, 65, 76, 79, 65, 68]⟩,
  .int .u8 54, .int .i64 0, .int .i64 1, .string ⟨#[67, 65, 76, 76, 68, 65, 84, 65, 83, 73, 90, 69]⟩,
  .int .u8 55, .int .i64 3, .int .i64 0, .string ⟨#[67, 65, 76, 76, 68, 65, 84, 65, 67, 79, 80, 89]⟩,
  .int .u8 56, .int .i64 0, .int .i64 1, .string ⟨#[67, 79, 68, 69, 83, 73, 90, 69]⟩,
  .int .u8 57, .int .i64 3, .int .i64 0, .string ⟨#[67, 79, 68, 69, 67, 79, 80, 89]⟩,
  .int .u8 58, .int .i64 0, .int .i64 1, .string ⟨#[71, 65, 83, 80, 82, 73, 67, 69]⟩,
  .int .u8 59, .int .i64 1, .int .i64 1, .string ⟨#[69, 88, 84, 67, 79, 68, 69, 83, 73, 90, 69]⟩,
  .int .u8 60, .int .i64 4, .int .i64 0, .string ⟨#[69, 88, 84, 67, 79, 68, 69, 67, 79, 80, 89]⟩,
  .int .u8 61, .int .i64 0, .int .i64 1, .string ⟨#[82, 69, 84, 85, 82, 78, 68, 65, 84, 65, 83, 73, 90, 69]⟩,
  .int .u8 62, .int .i64 3, .int .i64 0, .string ⟨#[82, 69, 84, 85, 82, 78, 68, 65, 84, 65, 67, 79, 80, 89]⟩,
  .int .u8 63, .int .i64 1, .int .i64 1, .string ⟨#[69, 88, 84, 67, 79, 68, 69, 72, 65, 83, 72, 32, 66, 76, 79, 67, 75, 72, 65, 83, 72]⟩,
  .int .u8 65, .int .i64 0, .int .i64 1, .string ⟨#[67, 79, 73, 78, 66, 65, 83, 69, 32, 84, 73, 77, 69, 83, 84, 65, 77, 80, 32, 78, 85, 77, 66, 69, 82, 32, 68, 73, 70, 70, 73, 67, 85, 76, 84, 89, 32, 71, 65, 83, 76, 73, 77, 73, 84, 32, 67, 72, 65, 73, 78, 73, 68, 32, 83, 69, 76, 70, 66, 65, 76, 65, 78, 67, 69, 32, 66, 65, 83, 69, 70, 69, 69]⟩,
  .int .u8 80, .int .i64 1, .int .i64 0, .string ⟨#[80, 79, 80]⟩,
  .int .u8 81, .int .i64 1, .int .i64 1, .string ⟨#[77, 76, 79, 65, 68]⟩,
  .int .u8 82, .int .i64 2, .int .i64 0, .string ⟨#[77, 83, 84, 79, 82, 69, 32, 77, 83, 84, 79, 82, 69, 56]⟩,
  .int .u8 84, .int .i64 1, .int .i64 1, .string ⟨#[83, 76, 79, 65, 68]⟩,
  .int .u8 85, .int .i64 2, .int .i64 0, .string ⟨#[83, 83, 84, 79, 82, 69]⟩,
  .int .u8 86, .int .i64 1, .int .i64 0, .string ⟨#[74, 85, 77, 80]⟩,
  .int .u8 87, .int .i64 2, .int .i64 0, .string ⟨#[74, 85, 77, 80, 73]⟩,
  .int .u8 88, .int .i64 0, .int .i64 1, .string ⟨#[80, 67, 32, 77, 83, 73, 90, 69, 32, 71, 65, 83]⟩,
  .int .u8 91, .int .i64 0, .int .i64 0, .string ⟨#[74, 85, 77, 80, 68, 69, 83, 84]⟩,
  .int .u8 240, .int .i64 3, .int .i64 1, .string ⟨#[67, 82, 69, 65, 84, 69]⟩,
  .int .u8 241, .int .i64 7, .int .i64 1, .string ⟨#[67, 65, 76, 76, 32, 67, 65, 76, 76, 67, 79, 68, 69]⟩,
  .int .u8 243, .int .i64 2, .int .i64 0, .string ⟨#[82, 69, 84, 85, 82, 78]⟩,
  .int .u8 244, .int .i64 6, .int .i64 1, .string ⟨#[68, 69, 76, 69, 71, 65, 84, 69, 67, 65, 76, 76]⟩,
  .int .u8 245, .int .i64 4, .int .i64 1, .string ⟨#[67, 82, 69, 65, 84, 69, 50]⟩,
  .int .u8 250, .int .i64 6, .int .i64 1, .string ⟨#[83, 84, 65, 84, 73, 67, 67, 65, 76, 76]⟩,
  .int .u8 253, .int .i64 2, .int .i64 0, .string ⟨#[82, 69, 86, 69, 82, 84]⟩,
  .int .u8 255, .int .i64 1, .int .i64 0, .string ⟨#[83, 69, 76, 70, 68, 69, 83, 84, 82, 85, 67, 84]⟩]
noncomputable def rowsZ : Array Value := (((Tryd.prog.info? 70).bind (·.zero)).getD undef).cells

set_option maxRecDepth 100000 in
theorem rows_any (w : World) : Calls Tryd.prog 44 #[] w fun e w' => e = .returned (.agg rowsV) ∧ w.alloc (.cells rowsV 70) = w' := by
  refine calls_of_wp Tryd.func44 rfl ?_
  refine wp_seq (wp_region_lit (wpList_plain rfl fun _ hK => ?_))
  refine wp_of_run (w' := w.alloc (.cells rowsZ 70)) (v := .pointer (some ⟨w.heap.size, 0, none⟩)) (by kernel_rfl) (hK _ _ ?_)
  refine wpList_nil ?_
  refine wp_seq (wp_region_lit ?_)
  refine wpList_runN 43 (w.alloc (.cells rowsZ 70)) (by kernel_rfl) fun a' ha => ?_
  have h0 := run_proj ha (fun a => a.eval (.tmp 0)) (v := .pointer (some ⟨w.heap.size, 0, none⟩)) (by kernel_rfl)
  have h43 := run_proj ha (fun a => a.eval (.tmp 43)) (v := .agg rowsV) (by kernel_rfl)
  have hd := run_proj ha (fun a => a.defers) (v := []) (by kernel_rfl)
  refine wpList_store_row rfl 70 _ _ rfl w.heap.size rowsV h0 h43 70 _ (heap_alloc_new _ _) (by kernel_rfl) (by kernel_rfl) (by kernel_rfl) ?_
  refine wpList_nil ?_
  rw [World.setRow_alloc_new]
  refine wp_ret ?_
  exact bodyPost_ret (v := .agg rowsV) (results_cell_row rfl _ _ w.heap.size 70 rowsV (0, 0) _ h0 (heap_alloc_new _ _) Tryd.underlying70 (by kernel_rfl) (by kernel_rfl)) hd ⟨rfl, rfl⟩
end Go.Proofs.YtkelpkpbkebphaaDoor
