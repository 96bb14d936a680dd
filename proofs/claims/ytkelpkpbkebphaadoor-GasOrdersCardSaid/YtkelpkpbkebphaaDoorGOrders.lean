/- What each of the 256 bytes costs as an order at least: the program's answers are the document's. -/
import Derived.Test.YtkelpkpbkebphaaDoorGNext
namespace Go.Proofs.YtkelpkpbkebphaaDoor
open Go.RowKit Go.Shelf Go.Proofs
set_option maxRecDepth 100000 in
theorem lives19_any (w : World) : Calls Tryd.prog 27 #[] w fun e w' => e = .returned (.bool true) ∧ Below w.heap.size w w' := by
  go_enter Tryd.func27, Tryd.ntmps27
  go_wp2_with fail
  refine (memory_any w).mono ?_
  rintro e w1 ⟨rfl, rfl⟩
  go_wp2_with fail
  refine (forward_any w).mono ?_
  rintro e w1 ⟨rfl, rfl⟩
  have he := eq_1125
  go_wp2_with fail
  refine (next_any w).mono ?_
  rintro e w1 ⟨rfl, hb⟩
  go_wp2
  go_ret
  exact ⟨rfl, hb⟩
set_option maxRecDepth 100000 in
set_option maxHeartbeats 400000 in
theorem gasOrders_any (op : Nat) (w : World) (hop : op < 256) (HT : Tabs w) :
    Calls Tryd.prog 8 #[.int .u8 op] w fun e w' => e = .returned (.bool true) ∧ Below w.heap.size w w' := by
  have c0 := Lib.hid (gasBase_any op w hop HT)
  have c1 := Lib.hid (fun w => refGas_any op w hop)
  have hs : (if (ofL op).2.2.2 then refGas op else 0) = (if (ofL op).2.2.2 then gasB op else 0) := by
    cases h : (ofL op).2.2.2
    · rfl
    · simp only [if_true]; exact gas_same op hop h
  rw [hs] at c1
  clear hs
  generalize (if (ofL op).2.2.2 then gasB op else 0) = g at *
  generalize (ofL op).2.2.2 = is at *
  go_enter Tryd.func8, Tryd.ntmps8
  go_wp2_with fail
  refine c0.out.mono ?_
  rintro e w1 ⟨rfl, hb1⟩
  clear c0
  go_wp2_with fail
  refine (c1.out _).mono ?_
  rintro e w2 ⟨rfl, hc2⟩
  have hb2 := hb1.trans (hc2.mono hb1.size)
  clear hc2 hb1
  go_wp2_with fail
  refine (lives19_any _).mono ?_
  rintro e w3 ⟨rfl, hc3⟩
  have hb3 := hb2.trans (hc3.mono hb2.size)
  clear hc3 hb2
  go_wp2
  go_ret
  exact ⟨rfl, hb3⟩
end Go.Proofs.YtkelpkpbkebphaaDoor
