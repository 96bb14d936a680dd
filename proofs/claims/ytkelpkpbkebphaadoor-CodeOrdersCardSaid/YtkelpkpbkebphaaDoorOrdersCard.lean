/- For each of the 256 bytes the program's answers on it as an order (whether it is one, its name, what it takes and gives, how many bytes follow) are the document's; no condition but that the listed library tables hold what the program's text lays into them, which is tied to that text. -/
import Derived.Test.YtkelpkpbkebphaaDoorOrdersRow
import Derived.Test.YtkelpkpbkebphaaDoorTie
import Derived.Test.YtkelpkpbkebphaaDoorCards
import Derived.SevenTiedAt
namespace Go.Proofs.YtkelpkpbkebphaaDoor
open Go

theorem codeOrders_card : Rows.CodeOrdersCardSaid :=
  Claim7.holds_tied_plain_at .later [] [.data, .data, .data, .listed, .data] true (true, "c480cad268c816ad2442fe52e2d1b1e1eb649bfff5e3f3ae4e0fe8ae10892edc") false
    codeOrders.proved (fun _ h => by cases h) (by kernel_rfl) (fun _ h => by cases h) codeOrders_row_tie rfl ⟨rfl, rfl⟩ (by kernel_rfl) rfl
    (fun f fn hf hfn => by
      obtain rfl : f = 4 := Option.some.inj ((show Tryd.prog.funcNamed "bailiwick/bailiwicklaw18.CodeOrders" = some 4 by kernel_rfl).symm.trans hf) |>.symm
      obtain rfl : fn = Tryd.f4 := (Option.some.inj (Tryd.func4.symm.trans hfn)).symm
      exact ⟨by kernel_rfl, fun j t ht => by
        rw [Tryd.params4] at ht
        have hm : t ∈ [5] := by simpa using Array.mem_of_getElem? ht
        have hall : ([5].all fun u => !Tryd.prog.wantsStandIn u) = true := by kernel_rfl
        exact (show Tryd.prog.wantsStandIn t = false by simpa using List.all_eq_true.1 hall t hm)⟩)
    (by kernel_rfl)
#print axioms codeOrders_card
end Go.Proofs.YtkelpkpbkebphaaDoor
