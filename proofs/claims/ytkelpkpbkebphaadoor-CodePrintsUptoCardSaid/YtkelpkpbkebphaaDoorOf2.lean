/- What the program tells of an order: the walk. -/
import Derived.StillTailTactics
import Derived.Deep.RegionHeld3
import Derived.Test.YtkelpkpbkebphaaDoorOf
namespace Go.Proofs.YtkelpkpbkebphaaDoor
open Go.RowKit Go.Proofs

abbrev zero43 : Array Value := #[.string ByteArray.empty, .int .i64 0, .int .i64 0, .bool false]

set_option maxRecDepth 100000 in
set_option maxHeartbeats 400000 in
theorem of_rows (op : Nat) (w : World) (hop : op < 256) (hno : op < 96 ∨ 165 ≤ op) (HT : Tabs w) :
    Calls Tryd.prog 31 #[.int .u8 op] w fun e w' => e = .returned (ofV (findRow op 42 0)) ∧ Below w.heap.size w w' := by
  have HT1 := Lib.hid HT; clear HT
  rcases hno with hno | hno
  all_goals
    go_enter Tryd.func31, Tryd.ntmps31
    go_wp2_with (go_at_call 44; refine (rows_any _).mono ?_; rintro e w' ⟨rfl, rfl⟩)
    have hz : (w.alloc (.cells zero43 43)).heap[w.heap.size]? = some (.cells zero43 43) := heap_alloc_new _ _
    have hb0 : Below (w.heap.size + 1) (w.alloc (.cells zero43 43)) ((w.alloc (.cells zero43 43)).alloc (.cells rowsV 70)) := (Below.refl _ _).alloc (by simp) _
    have HW : Hid (Below w.heap.size w ((w.alloc (.cells zero43 43)).alloc (.cells rowsV 70))) := ((Below.refl _ _).alloc (Nat.le_refl _) _).alloc (by simp) _
    go_loopw [67] (fun i wr => ∃ k : Nat, k ≤ 42 ∧ i = .int .i64 k ∧ findRow op (42 - k) k = findRow op 42 0 ∧ Below w.heap.size w wr ∧ wr.heap[w.heap.size]? = some (.cells zero43 43))
      (fun i _ => 42 - (intOf i).toNat)
    case atStart => exact ⟨0, by omega, rfl, rfl, HW.out, (hb0.block _ (by omega)).trans hz⟩
    case round =>
      obtain ⟨k, hk, rfl, hf, hbw, hcell⟩ := hrel
      by_cases hlt : k < 42
      · have hidx := index_at k hlt
        have hF := rows_first k hlt
        obtain ⟨hNl, hNa⟩ := rows_ascii k hlt
        have hstep : findRow op (42 - k) k = if op < rowF k then invalidL else match (Lib.fields (rowN k))[op - rowF k]? with | some s => (s, rowT k, rowG k, true) | none => findRow op (42 - (k + 1)) (k + 1) := by
          rw [show 42 - k = (42 - (k + 1)) + 1 by omega]; rfl
        have HS := Lib.hid (hstep.symm.trans hf); clear hstep hf
        generalize rowF k = F at *
        generalize rowT k = T at *
        generalize rowG k = G at *
        generalize rowN k = N at *
        have hlen : w.heap.size < wr.heap.size := (Array.getElem?_eq_some_iff.1 hcell).1
        by_cases hoF : op < F
        · go_wp2_with (refine wpList_store_row rfl 43 _ _ rfl w.heap.size #[.string ⟨#[73, 78, 86, 65, 76, 73, 68]⟩, .int .i64 0, .int .i64 0, .bool false] rfl rfl 43 zero43 ((heap_alloc_old _ _ hlen).trans hcell) (by kernel_rfl) (by kernel_rfl) (by kernel_rfl) ?_)
          refine bodyPost_ret (v := ofV invalidL) (results_cell_row rfl _ _ w.heap.size 43 _ (0, 0) _ rfl (setRow_heap _ _ _ _ _ _ ((heap_alloc_old _ _ hlen).trans hcell)) Tryd.underlying43 (by kernel_rfl) (by kernel_rfl)) rfl ⟨?_, below_setRow (hbw.alloc (Nat.le_of_lt hlen) _) (Nat.le_refl _) _⟩
          rw [← HS.out, if_pos hoF]
        · go_wp2_with fail
          refine (Tryd.strings_Fields ⟨N.toArray⟩ _ ?_ ?_ ?_).mono ?_
          · show N.toArray.size < _; simp; omega
          · exact hNa
          · exact (HT1.out.below (hbw.alloc (Nat.le_of_lt hlen) _)).asc
          rintro e w1 ⟨rfl, hw1⟩
          have hfs : ∀ j s, (Lib.fields N)[j]? = some s → w1.cell? ⟨wr.heap.size + 1, j, none⟩ = some (.string ⟨s.toArray⟩) := fun j s hj => by
            rw [hw1, World.cell?_alloc_at _ _ _ _ (by simp)]
            simp [hj]
          have hb1 : Below (wr.heap.size + 1) (wr.alloc (.cells #[.int .u8 F, .int .i64 T, .int .i64 G, .string ⟨N.toArray⟩] 69)) w1 := by
            rw [hw1]; exact (Below.refl _ _).alloc (by simp) _
          have hbw1 : Below w.heap.size w w1 := (hbw.alloc (Nat.le_of_lt hlen) _).trans (hb1.mono (by omega))
          clear hw1
          simp only [World.size_alloc]
          have hro := (hb1.block wr.heap.size (by omega)).trans (heap_alloc_new _ _)
          have hr0 : w1.cell? ⟨wr.heap.size, 0, none⟩ = some (.int .u8 F) := by unfold World.cell?; simp only [hro]; rfl
          have hr1 : w1.cell? ⟨wr.heap.size, 1, none⟩ = some (.int .i64 T) := by unfold World.cell?; simp only [hro]; rfl
          have hr2 : w1.cell? ⟨wr.heap.size, 2, none⟩ = some (.int .i64 G) := by unfold World.cell?; simp only [hro]; rfl
          clear hro
          have hc1 : w1.heap[w.heap.size]? = some (.cells zero43 43) := (hb1.block _ (by omega)).trans ((heap_alloc_old _ _ hlen).trans hcell)
          generalize hfn : Lib.fields N = fn at *
          by_cases hin : op - F < fn.length
          · obtain ⟨s, hs⟩ : ∃ s, fn[op - F]? = some s := ⟨fn[op - F], by simp [hin]⟩
            have hcs := hfs _ _ hs
            clear hfs hfn
            go_wp2
            have ew : IntKind.u8.wrap ((op - F : Nat) : Int) = ((op - F : Nat) : Int) := IntWalk.u8_in _ (by omega)
            have ei : ((op : Int) - F) = ((op - F : Nat) : Int) := by omega
            go_still_tail 12, (by kernel_rfl)
            change wpList _ _ _ _ _ w1.drew
            generalize hwd : w1.drew = w2
            have hc2 : w2.heap[w.heap.size]? = some (.cells zero43 43) := by rw [← hwd]; exact hc1
            have hbd : Below w.heap.size w w2 := by rw [← hwd]; exact hbw1.drew
            clear hwd
            go_wp2_with (refine wpList_store_row rfl 43 _ _ rfl w.heap.size #[.string ⟨s.toArray⟩, .int .i64 T, .int .i64 G, .bool true] rfl rfl 43 zero43 hc2 (by kernel_rfl) (by kernel_rfl) (by kernel_rfl) ?_)
            refine bodyPost_ret (v := ofV (s, T, G, true)) (results_cell_row rfl _ _ w.heap.size 43 _ (0, 0) _ rfl (setRow_heap _ _ _ _ _ _ hc2) Tryd.underlying43 (by kernel_rfl) (by kernel_rfl)) rfl ⟨?_, below_setRow hbd (Nat.le_refl _) _⟩
            rw [← HS.out, if_neg hoF, hs]
          · go_wp2
            refine ⟨⟨k + 1, by omega, by go_num, ?_, hbw1, hc1⟩, by simp [intOf]; omega⟩
            rw [← HS.out, if_neg hoF, List.getElem?_eq_none (by omega)]
      · obtain rfl : k = 42 := by omega
        have hlen : w.heap.size < wr.heap.size := (Array.getElem?_eq_some_iff.1 hcell).1
        have HS := Lib.hid hf; clear hf
        go_wp2_with (refine wpList_store_row rfl 43 _ _ rfl w.heap.size #[.string ⟨#[73, 78, 86, 65, 76, 73, 68]⟩, .int .i64 0, .int .i64 0, .bool false] rfl rfl 43 zero43 hcell (by kernel_rfl) (by kernel_rfl) (by kernel_rfl) ?_)
        refine bodyPost_ret (v := ofV invalidL) (results_cell_row rfl _ _ w.heap.size 43 _ (0, 0) _ rfl (setRow_heap _ _ _ _ _ _ hcell) Tryd.underlying43 (by kernel_rfl) (by kernel_rfl)) rfl ⟨?_, below_setRow hbw (Nat.le_refl _) _⟩
        rw [← HS.out]; rfl
end Go.Proofs.YtkelpkpbkebphaaDoor
