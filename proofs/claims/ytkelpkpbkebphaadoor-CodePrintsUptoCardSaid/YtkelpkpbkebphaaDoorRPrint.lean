/- What a code is as a text: the document's function. -/
import Derived.BigRegion
import Derived.Laws.BytesArg
import Derived.Test.YtkelpkpbkebphaaDoorPMath
import Derived.Test.YtkelpkpbkebphaaDoorRef2
import Derived.Test.YtkelpkpbkebphaaDoorRefJ
namespace Go.Proofs.YtkelpkpbkebphaaDoor
open Go.RowKit Go.Shelf Go.Proofs

theorem textP_take (bs : List Int) (l : List Nat) (j : Nat) (h : j < l.length) : textP bs (l.take (j + 1)) = textP bs (l.take j) ++ lineP bs (l.getD j 0) := by
  rw [List.take_add_one, show l[j]? = some (l.getD j 0) by simp [List.getD, h]]
  exact textP_snoc ..

theorem two_text (W : World) (d1 d2 : UInt8) : (convert 22 9 (.slice (some ⟨W.heap.size, 0, none⟩) 2 2)).run Tryd.prog ((W.alloc (.cells #[.int .u8 (d1.toNat : Nat), .int .u8 (d2.toNat : Nat)] 5)).drew) = .ok (.string ⟨#[d1, d2]⟩) ((W.alloc (.cells #[.int .u8 (d1.toNat : Nat), .int .u8 (d2.toNat : Nat)] 5)).drew) := by
  have h := run_convert_bytes_arg (P := Tryd.prog) ((W.alloc (.cells #[.int .u8 (d1.toNat : Nat), .int .u8 (d2.toNat : Nat)] 5)).drew) 22 5 Tryd.underlying22 Tryd.underlying5 W.heap.size 0 2 2 [(d1.toNat : Nat), (d2.toNat : Nat)] rfl (by
    intro i hi
    rw [World.cell?_drew, World.cell?_alloc_at _ _ _ _ rfl]
    match i, hi with
    | 0, _ => rfl
    | 1, _ => rfl) 9 Tryd.underlying9
  rw [h]
  simp [strOfNums]
set_option maxRecDepth 100000 in
set_option maxHeartbeats 1000000 in
theorem refPrint_any (A : Option Addr) (n cp : Nat) (bs : List Int) (w : World) (h1 : Bytes w A n bs) (hn : n ≤ 1048576) (HT : Tabs w) :
    Calls Tryd.prog 24 #[.slice A n cp] w fun e w' => e = .returned (.string ⟨(textP bs (ords bs 0)).toArray⟩) ∧ Below w.heap.size w w' := by
  have HT0 := Lib.hid HT; clear HT
  have hO := Lib.hid (refOrders_any A n cp bs w h1 hn)
  go_enter Tryd.func24, Tryd.ntmps24
  go_wp2_with (go_at_call 9; refine hO.out.mono ?_; rintro e w1 ⟨v, rfl, hown, hb1⟩)
  obtain ⟨L, cl, rfl, hLc, hL⟩ := owns_ints hown
  clear hown hO
  have hlen := h1.len
  have HBN : Hid (∀ i ∈ ords bs 0, i < n) := Lib.hid (fun i hi => by have := (ords_bound bs 0 i hi).2; omega)
  have hll : (ords bs 0).length ≤ n := by have := ords_length bs 0; omega
  generalize hle : ords bs 0 = l at *
  have HLE := Lib.hid hle
  clear hle
  go_wp2
  go_loopw [3, 5] (fun s i wr => ∃ j : Nat, j ≤ l.length ∧ i = .int .i64 j ∧ s = .string ⟨(textP bs (l.take j)).toArray⟩ ∧ Below w1.heap.size w1 wr) (fun _ i _ => l.length - (intOf i).toNat)
  case atStart => exact ⟨0, by omega, rfl, rfl, Below.refl _ _⟩
  case round =>
    obtain ⟨j, hj, rfl, rfl, hbw⟩ := hrel
    by_cases hlt : j < l.length
    · obtain ⟨g, rfl, hg1, hg2, hcj⟩ := hL.cell j hlt
      have hxn := HBN.out _ (List.getElem_mem hlt)
      have hke : l.getD j 0 = l[j] := by simp [List.getD, hlt]
      rw [← hke] at hxn
      clear hke
      have hrng := h1.rng
      have hT : (textP bs (l.take j)).length ≤ 134217728 := by
        have := textP_length bs hrng (l.take j) (fun k hk => by have := HBN.out k (List.mem_of_mem_take hk); omega)
        have h2 : (l.take j).length ≤ 1048576 := by rw [List.length_take]; omega
        omega
      have HTX := Lib.hid (textP_take bs l j hlt)
      obtain ⟨o, ho⟩ : ∃ o, l.getD j 0 = o := ⟨_, rfl⟩
      rw [ho] at hxn hcj HTX
      have HO := Lib.hid ho; clear ho
      obtain ⟨b, off, rfl, hbl, hco⟩ := h1.cell o hxn
      have hro := hrng o
      obtain ⟨c, hc⟩ : ∃ c : Nat, bs.getD o 0 = c := ⟨(bs.getD o 0).toNat, by omega⟩
      rw [hc] at hco hro
      have hc256 : c < 256 := by omega
      have hh := headP_length bs hrng o (by omega)
      have hhd : headP bs o = Lib.itoa (o : Nat) ++ [32] ++ (ofL c).1 := by unfold headP; rw [hc]; rfl
      have hm : endOf bs o - o = min (1 + pushN c) (n - o) := by unfold endOf; rw [hc, hlen]; omega
      have HLP : Hid (lineP bs o = headP bs o ++ (if 1 < endOf bs o - o then [32] else []) ++ hexTo bs (o + 1) (endOf bs o - o - 1) ++ [10]) := Lib.hid rfl
      rw [hm] at HLP
      have hp32 := pushN_le c
      have KR := Lib.hid (fun W => ref_any c W hc256)
      have KP := Lib.hid (fun W => refPush_any c W hc256)
      have HTI := Lib.hid (fun W (h : Below w.heap.size w W) => itoa_any (o : Nat) (by omega) (by omega) W (HT0.out.below h))
      have hq := Lib.itoa_length_le (o : Nat) (by omega) (by omega)
      have hnm := name_short c hc256
      have hbw1 := hb1.trans (hbw.mono hb1.size)
      generalize textP bs (l.take j) = T at *
      generalize lineP bs o = LP at *
      generalize headP bs o = H at *
      generalize Lib.itoa (o : Nat) = q at *
      generalize pushN c = p at *
      unfold refV at KR
      generalize ofL c = r at *
      obtain ⟨nm, tk, gv, is⟩ := r
      dsimp only at *
      have hcj1 := (hbw.cell (p := ⟨g, j, none⟩) hg2).trans hcj
      have hco1 := (hbw1.cell (p := ⟨b, off + o, none⟩) hbl).trans hco
      clear hm hc
      go_wp2_with fail
      refine (KR.out _).mono ?_
      rintro e w2 ⟨rfl, hb2⟩
      have hbw2 := hbw.trans (hb2.mono hbw.size)
      have hbw12 := hb1.trans (hbw2.mono hb1.size)
      have hcj2 := (hbw2.cell (p := ⟨g, j, none⟩) hg2).trans hcj
      clear hb2 hbw hcj1 hco1 KR hbw1
      go_wp2_with fail
      refine (HTI.out _ hbw12).mono ?_
      rintro e w3 ⟨rfl, hb3⟩
      have hbw3 := hbw2.trans (hb3.mono hbw2.size)
      have hbw13 := hb1.trans (hbw3.mono hb1.size)
      clear hb3 hbw2 hbw12 hcj2 HTI
      go_wp2
      rw [show (⟨T.toArray⟩ : ByteArray) ++ ⟨q.toArray⟩ ++ ⟨#[32]⟩ ++ ⟨nm.toArray⟩ = ⟨(T ++ H).toArray⟩ from ByteArray.ext (by simp [hhd])]
      have HH := Lib.hid hhd
      clear hhd hq hnm
      obtain ⟨m, hm⟩ : ∃ m, min (1 + p) (n - o) = m := ⟨_, rfl⟩
      rw [hm] at HLP
      have hm1 : 1 ≤ m := by omega
      have hm33 : m ≤ 33 := by omega
      go_loopw [3, 10] (fun s i wr => ∃ k : Nat, 1 ≤ k ∧ k ≤ m ∧ i = .int .i64 k ∧ s = .string ⟨(T ++ H ++ (if 1 < k then [32] else []) ++ hexTo bs (o + 1) (k - 1)).toArray⟩ ∧ Below w1.heap.size w1 wr) (fun _ i _ => m - (intOf i).toNat)
      case atStart => exact ⟨1, by omega, hm1, rfl, by simp [hexTo], hbw3⟩
      case round =>
        obtain ⟨k, hk1, hkm, rfl, rfl, hbw4⟩ := hrel
        have hbw14 := hb1.trans (hbw4.mono hb1.size)
        have hcj4 := (hbw4.cell (p := ⟨g, j, none⟩) hg2).trans hcj
        have hco4 := (hbw14.cell (p := ⟨b, off + o, none⟩) hbl).trans hco
        have hU : (T ++ H ++ (if 1 < k then [32] else []) ++ hexTo bs (o + 1) (k - 1)).length ≤ 134219000 := by
          simp only [List.length_append, hexTo_length]; split <;> simp <;> omega
        by_cases hlk : k < m
        · have d1 : decide (k ≤ p) = true := by simp; omega
          have d2 : decide (o + k < n) = true := by simp; omega
          obtain ⟨b', off', hA', _, hc0⟩ := h1.cell (o + k) (by omega)
          cases hA'
          have hcx := (hbw14.cell (p := ⟨b, off + (o + k), none⟩) hbl).trans hc0
          have hrx := hrng (o + k)
          obtain ⟨x, hx⟩ : ∃ x : Nat, bs.getD (o + k) 0 = x := ⟨(bs.getD (o + k) 0).toNat, by omega⟩
          rw [hx] at hcx hrx
          have hx256 : x < 256 := by omega
          have HX : Hid (hexTo bs (o + 1) k = hexTo bs (o + 1) (k - 1) ++ hexI x) := Lib.hid (by
            obtain ⟨k', rfl⟩ : ∃ k', k = k' + 1 := ⟨k - 1, by omega⟩
            rw [hexTo, show o + 1 + k' = o + (k' + 1) by omega, hx]; rfl)
          clear hx hc0
          have hmo1 : (x : Int) % 16 < 16 := by omega
          have hmo0 : 0 ≤ (x : Int) % 16 := by omega
          have hdv1 : (x : Int) / 16 < 16 := by omega
          have hdv0 : 0 ≤ (x : Int) / 16 := by omega
          have hmw : IntKind.u8.wrap ((x : Int) % 16) = (x : Int) % 16 := IntWalk.u8_in _ (by omega)
          have hmq : IntKind.u8.wrap ((x : Int) / 16) = (x : Int) / 16 := IntWalk.u8_in _ (by omega)
          have hcv := two_text wr
          by_cases hk2 : k = 1
          · subst hk2
            generalize hUe : T ++ H ++ (if 1 < 1 then [32] else []) ++ hexTo bs (o + 1) (1 - 1) = U at *
            have HU := Lib.hid hUe.symm; clear hUe
            go_wp2_with fail
            refine (KP.out _).mono ?_
            rintro e w5 ⟨rfl, rfl⟩
            go_wp2
            go_region
            simp only [dig_at]
            generalize hw6 : World.drew _ = w6
            have hbw6 : Below w1.heap.size w1 w6 := hw6 ▸ (Below.drew (hbw4.alloc hbw4.size _))
            clear hw6
            go_wp2
            refine ⟨⟨2, by omega, by omega, by go_num, ?_, hbw6⟩, by simp [intOf]; omega⟩
            rw [HX.out, HU.out]
            exact congrArg Value.string (ByteArray.ext (by simp [hexI, hexTo]))
          · generalize hUe : T ++ H ++ (if 1 < k then [32] else []) ++ hexTo bs (o + 1) (k - 1) = U at *
            have HU := Lib.hid hUe.symm; clear hUe
            go_wp2_with fail
            refine (KP.out _).mono ?_
            rintro e w5 ⟨rfl, rfl⟩
            go_wp2
            go_region
            simp only [dig_at]
            generalize hw6 : World.drew _ = w6
            have hbw6 : Below w1.heap.size w1 w6 := hw6 ▸ (Below.drew (hbw4.alloc hbw4.size _))
            clear hw6
            go_wp2
            refine ⟨⟨k + 1, by omega, by omega, by go_num, ?_, hbw6⟩, by simp [intOf]; omega⟩
            rw [show k + 1 - 1 = k by omega, HX.out, HU.out, if_pos (show 1 < k + 1 by omega), if_pos (show 1 < k by omega)]
            exact congrArg Value.string (ByteArray.ext (by simp [hexI]))
        · have hkm' : k = m := by omega
          subst hkm'
          generalize hUe : T ++ H ++ (if 1 < k then [32] else []) ++ hexTo bs (o + 1) (k - 1) = U at *
          have HT2 : Hid (textP bs (l.take (j + 1)) = U ++ [10]) := Lib.hid (by rw [HTX.out, HLP.out, ← hUe]; simp only [List.append_assoc])
          clear hUe
          by_cases hkp : k ≤ p
          · have d1 : decide (k ≤ p) = true := by simpa using hkp
            have d2 : decide (o + k < n) = false := by simp; omega
            go_wp2_with fail
            refine (KP.out _).mono ?_
            rintro e w5 ⟨rfl, rfl⟩
            go_wp2
            refine ⟨⟨j + 1, by omega, by go_num, ?_, hbw4⟩, by simp [intOf]; omega⟩
            rw [HT2.out]
            exact congrArg Value.string (ByteArray.ext (by simp))
          · have d1 : decide (k ≤ p) = false := by simpa using hkp
            go_wp2_with fail
            refine (KP.out _).mono ?_
            rintro e w5 ⟨rfl, rfl⟩
            go_wp2
            refine ⟨⟨j + 1, by omega, by go_num, ?_, hbw4⟩, by simp [intOf]; omega⟩
            rw [HT2.out]
            exact congrArg Value.string (ByteArray.ext (by simp))
    · have hjl : j = l.length := by omega
      subst hjl
      go_wp2
      go_ret
      refine ⟨?_, hb1.trans (hbw.mono hb1.size)⟩
      rw [HLE.out]
      simp
end Go.Proofs.YtkelpkpbkebphaaDoor
