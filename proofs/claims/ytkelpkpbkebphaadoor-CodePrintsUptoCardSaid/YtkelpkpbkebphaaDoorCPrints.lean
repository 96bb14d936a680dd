/- What any code is as a text: the program's answer is the document's. -/
import Derived.Test.YtkelpkpbkebphaaDoorPrint
import Derived.Test.YtkelpkpbkebphaaDoorRPrint
import Derived.Test.YtkelpkpbkebphaaDoorCJumps
namespace Go.Proofs.YtkelpkpbkebphaaDoor
open Go.RowKit Go.Shelf Go.Proofs

set_option maxRecDepth 100000 in
set_option maxHeartbeats 1000000 in
theorem codePrints_any (A1 : Option Addr) (n1 c1 : Nat) (a : List Int) (w : World) (h1 : Bytes w A1 n1 a) (z1 : A1 = none → c1 = 0) (hn1 : n1 ≤ 1048576) (HT : Tabs w) :
    Calls Tryd.prog 7 #[.slice A1 n1 c1] w fun e w' => e = .returned (.bool true) ∧ Below w.heap.size w w' := by
  have HT0 := Lib.hid HT; clear HT
  have Z1 := Lib.hid z1; clear z1
  obtain rfl := h1.len
  have hrng := Lib.hid h1.rng
  have hKP := Lib.hid (fun (g c : Nat) (W : World) (hc : a.length ≤ c) (hI : BytesAt W g 0 a) (hb : Below w.heap.size w W) => print_any g 0 c a (by omega) hc W hI (HT0.out.below hb))
  have hRP := Lib.hid (fun (W : World) (hb : Below w.heap.size w W) => refPrint_any _ a.length c1 a W (h1.below hb) hn1 (HT0.out.below hb))
  generalize (textP a (ords a 0)).toArray = tx at *
  have hx0 := owns_bytes_empty w
  have hB1 := h1.below ((Below.refl w.heap.size w).alloc (Nat.le_refl _) (.cells #[] 5))
  generalize hV1 : Value.slice A1 a.length c1 = V1
  have HV1 := Lib.hid hV1.symm; clear hV1
  go_enter Tryd.func7, Tryd.ntmps7
  go_wp2_with (at_builtin; refine wpList_append_bytes rfl _ _ rfl w.heap.size _ 0 [] rfl hx0 _ a.length c1 a HV1.out hB1 Z1.out (by omega) (by simp) ?_; intro v4 w4 hown4 hgrow4 hnil4; obtain ⟨g, c, rfl, hc, hBA, hb4⟩ := copy_made hrng.out hown4 hgrow4 hnil4; clear hown4 hgrow4 hnil4 hx0 hB1; have hK := Lib.hid (hKP.out g c w4 hc hBA hb4))
  refine hK.out.mono ?_
  rintro e w5 ⟨rfl, hb5⟩
  have hb5' := hb4.trans (hb5.mono hb4.size)
  clear hb5 hb4 hK hBA hc
  rw [HV1.out]
  have hS := Lib.hid (hRP.out w5 hb5')
  go_wp2_with fail
  refine hS.out.mono ?_
  rintro e w6 ⟨rfl, hb6⟩
  have hb6' := hb5'.trans (hb6.mono hb5'.size)
  clear hb6 hb5' hS
  go_wp2_with fail
  refine (lives_any _ (HT0.out.below hb6')).mono ?_
  rintro e w7 ⟨rfl, hb7⟩
  have hb7' := hb6'.trans (hb7.mono hb6'.size)
  go_wp2
  go_ret
  exact ⟨rfl, hb7'⟩
end Go.Proofs.YtkelpkpbkebphaaDoor
