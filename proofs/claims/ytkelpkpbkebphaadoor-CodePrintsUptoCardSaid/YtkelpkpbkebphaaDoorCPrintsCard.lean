/- The card of CodePrints, where what the call reads is of bulk at most 1048576; the listed library tables hold what the program's text lays into them, which is tied to that text. -/
import Derived.Test.YtkelpkpbkebphaaDoorCPrintsRow
import Derived.Test.YtkelpkpbkebphaaDoorTie
import Derived.Test.YtkelpkpbkebphaaDoorCards
import Derived.SevenTiedAt
namespace Go.Proofs.YtkelpkpbkebphaaDoor
open Go

theorem codePrintsUpto_card : Rows.CodePrintsUptoCardSaid :=
  Claim7.holds_tied_plain_at .later [] [.data, .data, .data, .listed, .data] true (true, "c480cad268c816ad2442fe52e2d1b1e1eb649bfff5e3f3ae4e0fe8ae10892edc") false
    codePrints.saidUpto (fun _ h => by cases h) (by kernel_rfl) (fun _ h => by cases h) codePrintsUpto_row_tie rfl ⟨rfl, rfl⟩ (by kernel_rfl) rfl
    (fun f fn hf hfn => by
      obtain rfl : f = 7 := Option.some.inj ((show Tryd.prog.funcNamed "bailiwick/bailiwicklaw18.CodePrints" = some 7 by kernel_rfl).symm.trans hf) |>.symm
      obtain rfl : fn = Tryd.f7 := (Option.some.inj (Tryd.func7.symm.trans hfn)).symm
      exact ⟨by kernel_rfl, fun j t ht => by
        rw [Tryd.params7] at ht
        have hm : t ∈ [22] := by simpa using Array.mem_of_getElem? ht
        have hall : ([22].all fun u => !Tryd.prog.wantsStandIn u) = true := by kernel_rfl
        exact (show Tryd.prog.wantsStandIn t = false by simpa using List.all_eq_true.1 hall t hm)⟩)
    (by kernel_rfl)
#print axioms codePrintsUpto_card
end Go.Proofs.YtkelpkpbkebphaaDoor
