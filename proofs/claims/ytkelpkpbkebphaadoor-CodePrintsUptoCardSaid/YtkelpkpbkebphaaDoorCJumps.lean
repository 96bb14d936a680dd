/- Where may be jumped to, as a list and by the search, is what the document says; no place inside an order's bytes is one: the law's walk. -/
import Derived.Test.YtkelpkpbkebphaaDoorMay
namespace Go.Proofs.YtkelpkpbkebphaaDoor
open Go.RowKit Go.Shelf Go.Proofs

/-- A guarded operation whose guard says yes is the same operation without a guard. -/
theorem wpList_unguard {P : Program} {ops : Array Oper} {Q : Exit → Act → World → Prop} {a : Act} {w : World} {rest : List Oper} {dst : Option Tmp} {b : Builtin} {xs : Array Operand} {ats : Array TypeId} {ty : TypeId} {pos : String} {after : Array Edge} {guard : Option (Nat × Bool)}
    (hw : Region.wanted { dst, op := .call { callee := .builtin b, args := xs, argTypes := ats }, type := ty, pos, after, guard } (yielded ops a.tmps) = true)
    (h : wpList P ops Q ({ dst, op := .call { callee := .builtin b, args := xs, argTypes := ats }, type := ty, pos, after, guard := none } :: rest) a w) :
    wpList P ops Q ({ dst, op := .call { callee := .builtin b, args := xs, argTypes := ats }, type := ty, pos, after, guard } :: rest) a w := by
  rw [wpList, if_pos hw]
  rw [wpList, if_pos (show Region.wanted { dst, op := .call { callee := .builtin b, args := xs, argTypes := ats }, type := ty, pos, after, guard := none } (yielded ops a.tmps) = true from rfl)] at h
  exact h

/-- A copy of a code, made by append behind an empty row, is a code of the same bytes. -/
theorem copy_made {wr w4 : World} {a : List Int} {n1 : Nat} {v4 : Value} (hr : ∀ i, 0 ≤ a.getD i 0 ∧ a.getD i 0 < 256)
    (hown4 : w4.ownsRow wr.heap.size 5 1 v4 (0 + n1) ([] ++ u8s a)) (hgrow4 : (wr.alloc (.cells #[] 5)).grownBy w4 (Value.slice (some ⟨wr.heap.size, 0, none⟩) 0 0).ownBlock)
    (hnil4 : v4 = .slice none 0 0 ↔ Value.slice (some ⟨wr.heap.size, 0, none⟩) 0 0 = .slice none 0 0 ∧ n1 = 0) :
    ∃ g c, v4 = .slice (some ⟨g, 0, none⟩) a.length c ∧ a.length ≤ c ∧ BytesAt w4 g 0 a ∧ Below wr.heap.size wr w4 := by
  have hn4 : v4 ≠ .slice none 0 0 := (fun e => by have e' : Value.slice (some ⟨wr.heap.size, 0, none⟩) 0 0 = .slice none 0 0 := (hnil4.1 e).1; cases e')
  have hb0 := (Below.refl wr.heap.size wr).alloc (Nat.le_refl _) (.cells #[] 5)
  have hb4 : Below wr.heap.size wr w4 := hb0.grown hgrow4 (by simp) (fun k hk => by have hk' : some wr.heap.size = some k := hk; cases hk'; exact Nat.le_refl _)
  rw [List.nil_append] at hown4
  obtain ⟨g, c, rfl, hc, _, hBA, _⟩ := owns_bytes hown4 hn4 hr
  exact ⟨g, c, rfl, hc, hBA, hb4⟩

set_option maxRecDepth 100000 in
set_option maxHeartbeats 1000000 in
theorem codeJumps_any (A1 : Option Addr) (n1 c1 : Nat) (a : List Int) (x : Int) (w : World) (h1 : Bytes w A1 n1 a) (z1 : A1 = none → c1 = 0) (hn1 : n1 ≤ 1048576) (HT : Tabs w) :
    Calls Tryd.prog 6 #[.slice A1 n1 c1, .int .i64 x] w fun e w' => e = .returned (.bool true) ∧ Below w.heap.size w w' := by
  have HT0 := Lib.hid HT; clear HT
  have Z1 := Lib.hid z1; clear z1
  obtain rfl := h1.len
  have hrng := Lib.hid h1.rng
  have hKJ := Lib.hid (fun (g c : Nat) (W : World) (hc : a.length ≤ c) (hI : BytesAt W g 0 a) => Jumps_any g 0 c a (by omega) hc W hI)
  have hKM := Lib.hid (fun (g c : Nat) (W : World) (hc : a.length ≤ c) (hI : BytesAt W g 0 a) => may_any g 0 c a (by omega) hc W hI x)
  have hRJ := Lib.hid (fun (W : World) (hb : Below w.heap.size w W) => refJumps_any _ a.length c1 a W (h1.below hb) hn1)
  have hRO := Lib.hid (fun (W : World) (hb : Below w.heap.size w W) => refOrders_any _ a.length c1 a W (h1.below hb) hn1)
  have hNI := Lib.hid (no_inside a)
  have hl1 : (jmps a 0).length ≤ 1048576 := by have := jmps_length a 0; omega
  have hl2 : (ords a 0).length ≤ 1048576 := by have := ords_length a 0; omega
  generalize hja : jmps a 0 = ja at *
  generalize hoa : ords a 0 = oa at *
  clear hja hoa
  obtain ⟨r, hr⟩ : ∃ r, (ja.any fun (k : Nat) => (k : Int) == x) = r := ⟨_, rfl⟩
  rw [hr] at hKM
  have HR := Lib.hid hr; clear hr
  have hrr : (r != r) = false := by cases r <;> rfl
  have hx0 := owns_bytes_empty w
  have hB1 := h1.below ((Below.refl w.heap.size w).alloc (Nat.le_refl _) (.cells #[] 5))
  generalize hV1 : Value.slice A1 a.length c1 = V1
  have HV1 := Lib.hid hV1.symm; clear hV1
  go_enter Tryd.func6, Tryd.ntmps6
  go_wp2_with (at_builtin; refine wpList_append_bytes rfl _ _ rfl w.heap.size _ 0 [] rfl hx0 _ a.length c1 a HV1.out hB1 Z1.out (by omega) (by simp) ?_; intro v4 w4 hown4 hgrow4 hnil4; obtain ⟨g, c, rfl, hc, hBA, hb4⟩ := copy_made hrng.out hown4 hgrow4 hnil4; clear hown4 hgrow4 hnil4 hx0 hB1; have hK := Lib.hid (hKJ.out g c w4 hc hBA))
  refine hK.out.mono ?_
  rintro e w5 ⟨v5, rfl, hown5, hb5⟩
  obtain ⟨L, cl, rfl, hLc, hL⟩ := owns_ints hown5
  have hb5' := hb4.trans (hb5.mono hb4.size)
  clear hown5 hb5 hb4 hK hBA hc
  rw [HV1.out]
  have hS := Lib.hid (hRJ.out w5 hb5')
  go_wp2_with fail
  refine hS.out.mono ?_
  rintro e w6 ⟨v6, rfl, hown6, hb6⟩
  obtain ⟨M, cm, rfl, hMc, hM⟩ := owns_ints hown6
  have hL6 := hL.below hb6
  have hb6' := hb5'.trans (hb6.mono hb5'.size)
  clear hown6 hb6 hb5' hS hL
  have hS := Lib.hid (same_true L M cl cm _ _ ja w6 hL6 hM (by omega))
  go_wp2_with fail
  refine hS.out.mono ?_
  rintro e w7 ⟨rfl, hb7⟩
  have hL7 := hL6.below hb7
  have hb7' := hb6'.trans (hb7.mono hb6'.size)
  clear hb7 hS hL6 hM hb6'
  generalize hV2 : Value.slice A1 a.length c1 = V2
  have HV2 := Lib.hid hV2.symm; clear hV2
  have hx0 := owns_bytes_empty w7
  have hB1 := h1.below (hb7'.trans (((Below.refl w7.heap.size w7).alloc (Nat.le_refl _) (.cells #[] 5)).mono hb7'.size))
  go_wp2_with (at_builtin; refine wpList_unguard rfl ?_; refine wpList_append_bytes rfl _ _ rfl w7.heap.size _ 0 [] rfl hx0 _ a.length c1 a HV2.out hB1 Z1.out (by omega) (by simp) ?_; intro v8 w8 hown8 hgrow8 hnil8; obtain ⟨g2, c2, rfl, hc2, hBA2, hb8⟩ := copy_made hrng.out hown8 hgrow8 hnil8; clear hown8 hgrow8 hnil8 hx0 hB1; have hK := Lib.hid (hKM.out g2 c2 w8 hc2 hBA2))
  refine hK.out.mono ?_
  rintro e w9 ⟨rfl, hb9⟩
  have hb9' := hb8.trans (hb9.mono hb8.size)
  have hL9 := hL7.below hb9'
  have hbA := hb7'.trans (hb9'.mono hb7'.size)
  clear hb9 hb8 hb9' hL7 hK hBA2 hc2 hb7'
  have hS := Lib.hid (has_any L cl _ ja x w9 hL9 (by omega))
  rw [HR.out] at hS
  rw [HV2.out]
  go_wp2_with fail
  refine hS.out.mono ?_
  rintro e w10 ⟨rfl, rfl⟩
  clear hS
  go_wp2
  go_loopw [6, 7] (fun i k wr => ∃ j : Nat, j ≤ a.length ∧ i = .int .i64 j ∧ Below w9.heap.size w9 wr) (fun i _ _ => a.length - (intOf i).toNat)
  case atStart => exact ⟨0, by omega, rfl, Below.refl _ _⟩
  case round =>
    obtain ⟨j, hj, rfl, hbw⟩ := hrel
    by_cases hlt : j < a.length
    · obtain ⟨b, off, rfl, hb, hc0⟩ := h1.cell j hlt
      have hr0 := hrng.out j
      have hni := hNI.out j
      obtain ⟨o, ho⟩ : ∃ o : Nat, a.getD j 0 = o := ⟨(a.getD j 0).toNat, by omega⟩
      rw [ho] at hr0 hc0 hni
      have ho256 : o < 256 := by omega
      have hc9 := (hbA.cell (p := ⟨b, off + j, none⟩) hb).trans hc0
      have hp32 := pushN_le o
      have c10 := Lib.hid (fun W => refPush_any o W ho256)
      obtain ⟨p, hp⟩ : ∃ p, pushN o = p := ⟨_, rfl⟩
      rw [hp] at hp32 c10 hni
      have HNI := Lib.hid hni
      clear hni hp ho hc0 hNI
      go_wp2
      go_loopw [7] (fun k wr => ∃ q : Nat, 1 ≤ q ∧ q ≤ 33 ∧ k = .int .i64 q ∧ Below w9.heap.size w9 wr) (fun k _ => 64 - (intOf k).toNat)
      case atStart => exact ⟨1, by omega, by omega, rfl, hbw⟩
      case round =>
        obtain ⟨q, hq1, hq2, rfl, hbw2⟩ := hrel
        have hcw := (hbw2.cell (p := ⟨b, off + j, none⟩) (Nat.lt_of_lt_of_le hb hbA.size)).trans hc9
        go_wp2_with fail
        refine (c10.out _).mono ?_
        rintro e w11 ⟨rfl, rfl⟩
        by_cases hqp : q ≤ p
        · have d1 : decide (q ≤ p) = true := by simpa using hqp
          have hS := Lib.hid (hRO.out wr (hbA.trans (hbw2.mono hbA.size)))
          go_wp2_with fail
          refine hS.out.mono ?_
          rintro e w12 ⟨v12, rfl, hown12, hb12⟩
          obtain ⟨O, co, rfl, _, hO⟩ := owns_ints hown12
          have hbX := hbw2.trans (hb12.mono hbw2.size)
          have hLX := hL9.below hbX
          clear hown12 hb12 hS
          have hS := Lib.hid (has_any O co _ oa (j : Nat) w12 hO (by omega))
          have hS2 := Lib.hid (has_any L cl _ ja ((j : Nat) + (q : Nat)) w12 hLX (by omega))
          clear hO hLX
          cases hoj : (oa.any fun (k : Nat) => (k : Int) == (j : Nat))
          · rw [hoj] at hS
            clear hoj hS2
            go_wp2_with fail
            refine hS.out.mono ?_
            rintro e w13 ⟨rfl, rfl⟩
            go_wp2
            exact ⟨⟨j + 1, by omega, by go_num, hbX⟩, by simp [intOf]; omega⟩
          · rw [HNI.out q hoj hq1 hqp] at hS2
            rw [hoj] at hS
            clear hoj
            go_wp2_with fail
            refine hS.out.mono ?_
            rintro e w13 ⟨rfl, rfl⟩
            go_wp2_with fail
            refine hS2.out.mono ?_
            rintro e w14 ⟨rfl, rfl⟩
            go_wp2
            exact ⟨⟨q + 1, by omega, by omega, by go_num, hbX⟩, by simp [intOf]; omega⟩
        · have d1 : decide (q ≤ p) = false := by simpa using hqp
          go_wp2
          exact ⟨⟨j + 1, by omega, by go_num, hbw2⟩, by simp [intOf]; omega⟩
    · have hbY := hbA.trans (hbw.mono hbA.size)
      go_wp2_with (go_at_call 11; refine (lives_any _ (HT0.out.below hbY)).mono ?_; rintro e w8 ⟨rfl, hb9⟩)
      go_ret
      exact ⟨rfl, hbY.trans (hb9.mono hbY.size)⟩
end Go.Proofs.YtkelpkpbkebphaaDoor
