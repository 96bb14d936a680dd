/- For each of the 256 bytes the program answers what the order costs at least as the document does, and the three sample costs are as it says; no condition but that the listed library tables hold what the program's text lays into them, which is tied to that text. -/
import Derived.Test.YtkelpkpbkebphaaDoorGOrdersRow
import Derived.Test.YtkelpkpbkebphaaDoorTie
import Derived.Test.YtkelpkpbkebphaaDoorCards
import Derived.SevenTiedAt
namespace Go.Proofs.YtkelpkpbkebphaaDoor
open Go

theorem gasOrders_card : Rows.GasOrdersCardSaid :=
  Claim7.holds_tied_plain_at .later [] [.data, .data, .data, .listed, .data] true (true, "c480cad268c816ad2442fe52e2d1b1e1eb649bfff5e3f3ae4e0fe8ae10892edc") false
    gasOrders.proved (fun _ h => by cases h) (by kernel_rfl) (fun _ h => by cases h) gasOrders_row_tie rfl ⟨rfl, rfl⟩ (by kernel_rfl) rfl
    (fun f fn hf hfn => by
      obtain rfl : f = 8 := Option.some.inj ((show Tryd.prog.funcNamed "bailiwick/bailiwicklaw19.GasOrders" = some 8 by kernel_rfl).symm.trans hf) |>.symm
      obtain rfl : fn = Tryd.f8 := (Option.some.inj (Tryd.func8.symm.trans hfn)).symm
      exact ⟨by kernel_rfl, fun j t ht => by
        rw [Tryd.params8] at ht
        have hm : t ∈ [5] := by simpa using Array.mem_of_getElem? ht
        have hall : ([5].all fun u => !Tryd.prog.wantsStandIn u) = true := by kernel_rfl
        exact (show Tryd.prog.wantsStandIn t = false by simpa using List.all_eq_true.1 hall t hm)⟩)
    (by kernel_rfl)
#print axioms gasOrders_card
end Go.Proofs.YtkelpkpbkebphaaDoor
