/- What each of the 256 bytes is as an order: the program's answers are the document's. -/
import Derived.Test.YtkelpkpbkebphaaDoorRef2
namespace Go.Proofs.YtkelpkpbkebphaaDoor
open Go.RowKit Go.Shelf Go.Proofs

set_option maxRecDepth 100000 in
set_option maxHeartbeats 400000 in
theorem codeOrders_any (op : Nat) (w : World) (hop : op < 256) (HT : Tabs w) :
    Calls Tryd.prog 4 #[.int .u8 op] w fun e w' => e = .returned (.bool true) ∧ Below w.heap.size w w' := by
  have HT0 := Lib.hid HT; clear HT
  have c0 := Lib.hid (fun w => ref_any op w hop)
  have c1 := Lib.hid (fun w hw => is_any op w hop hw)
  have c2 := Lib.hid (fun w hw => name_any op w hop hw)
  have c3 := Lib.hid (fun w hw => takes_any op w hop hw)
  have c4 := Lib.hid (fun w hw => gives_any op w hop hw)
  have c5 := Lib.hid (fun w => push_any op w hop)
  have c6 := Lib.hid (fun w => refPush_any op w hop)
  unfold refV at c0
  generalize ofL op = r at *
  generalize pushN op = q at *
  obtain ⟨nm, t, g, b⟩ := r
  dsimp only at *
  go_enter Tryd.func4, Tryd.ntmps4
  go_wp2_with fail
  refine (c0.out _).mono ?_
  rintro e w1 ⟨rfl, hb1⟩
  have HT1 := Lib.hid (HT0.out.below hb1)
  go_wp2_with fail
  refine (c1.out _ HT1.out).mono ?_
  rintro e w2 ⟨rfl, hc2⟩
  have hb2 := hb1.trans (hc2.mono hb1.size)
  have HT2 := Lib.hid (HT1.out.below hc2)
  clear hc2 hb1
  go_wp2_with fail
  refine (c2.out _ HT2.out).mono ?_
  rintro e w3 ⟨rfl, hc3⟩
  have hb3 := hb2.trans (hc3.mono hb2.size)
  have HT3 := Lib.hid (HT2.out.below hc3)
  clear hc3 hb2
  go_wp2_with fail
  refine (c3.out _ HT3.out).mono ?_
  rintro e w4 ⟨rfl, hc4⟩
  have hb4 := hb3.trans (hc4.mono hb3.size)
  have HT4 := Lib.hid (HT3.out.below hc4)
  clear hc4 hb3
  go_wp2_with fail
  refine (c4.out _ HT4.out).mono ?_
  rintro e w5 ⟨rfl, hc5⟩
  have hb5 := hb4.trans (hc5.mono hb4.size)
  have HT5 := Lib.hid (HT4.out.below hc5)
  clear hc5 hb4
  go_wp2_with fail
  refine (c5.out _).mono ?_
  rintro e w6 ⟨rfl, rfl⟩
  go_wp2_with fail
  refine (c6.out _).mono ?_
  rintro e w6 ⟨rfl, rfl⟩
  go_wp2_with fail
  refine (lives_any _ HT5.out).mono ?_
  rintro e w6 ⟨rfl, hc6⟩
  have hb6 := hb5.trans (hc6.mono hb5.size)
  clear hc6 hb5
  go_wp2
  go_ret
  exact ⟨rfl, hb6⟩
end Go.Proofs.YtkelpkpbkebphaaDoor
