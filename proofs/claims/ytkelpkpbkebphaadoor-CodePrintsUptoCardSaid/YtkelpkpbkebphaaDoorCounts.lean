/- Each order's bytes lie behind it, up to the next order or the code's end; what is no order takes and gives nothing; none gives more than one more than it takes: the walk. -/
import Derived.Test.YtkelpkpbkebphaaDoorJoins
namespace Go.Proofs.YtkelpkpbkebphaaDoor
open Go.RowKit Go.Shelf Go.Proofs

theorem ofL_none : ∀ op, op < 256 → (ofL op).2.2.2 = false → (ofL op).2.1 = 0 ∧ (ofL op).2.2.1 = 0 ∧ (ofL op).1 = [73, 78, 86, 65, 76, 73, 68] := by decide +kernel
theorem ofL_gives : ∀ op, op < 256 → (ofL op).2.2.1 ≤ (ofL op).2.1 + 1 ∧ (ofL op).2.1 ≤ 17 := by decide +kernel

theorem ords_next (b : List Int) : ∀ k, ∀ i, i + 1 < (ords b k).length → (ords b k).getD (i + 1) 0 = (ords b k).getD i 0 + 1 + pushN (b.getD ((ords b k).getD i 0) 0) := by
  refine ords_ind (b := b) (P := fun k => ∀ i, i + 1 < (ords b k).length → (ords b k).getD (i + 1) 0 = (ords b k).getD i 0 + 1 + pushN (b.getD ((ords b k).getD i 0) 0)) ?_ ?_
  · intro k h i hi; rw [ords_ge h] at hi; simp at hi
  · intro k h ih i hi
    rw [ords_lt h] at hi ⊢
    cases i with
    | zero =>
      simp only [List.getD_cons_succ, List.getD_cons_zero]
      simp only [List.length_cons] at hi
      by_cases hk : k + 1 + pushN (b.getD k 0) < b.length
      · rw [ords_lt hk]; rfl
      · rw [ords_ge (by omega)] at hi; simp at hi
    | succ i =>
      simp only [List.getD_cons_succ]
      exact ih i (by simp only [List.length_cons] at hi; omega)
theorem ords_end (b : List Int) (i : Nat) (h : i + 1 = (ords b 0).length) : b.length ≤ (ords b 0).getD i 0 + 1 + pushN (b.getD ((ords b 0).getD i 0) 0) := by
  have hx : (ords b 0).getLast? = some ((ords b 0).getD i 0) := by
    rw [List.getLast?_eq_getElem?, ← h]
    simp [List.getD, show i < (ords b 0).length by omega]
  have h1 := endsAt_last b 0 _ hx
  have h2 := endsAt_ge' b 0 (Nat.zero_le _)
  omega
/-- The next order's place, or the code's end. -/
def nextOf (b : List Int) (i : Nat) : Nat := if i + 1 < (ords b 0).length then (ords b 0).getD (i + 1) 0 else b.length
theorem nextOf_le (b : List Int) (i : Nat) (hi : i < (ords b 0).length) : nextOf b i ≤ (ords b 0).getD i 0 + 1 + pushN (b.getD ((ords b 0).getD i 0) 0) := by
  unfold nextOf
  split
  · rw [ords_next b 0 i (by assumption)]; exact Nat.le_refl _
  · exact ords_end b i (by omega)
theorem nextOf_eq (b : List Int) (i : Nat) (h : nextOf b i < b.length) : nextOf b i = (ords b 0).getD i 0 + 1 + pushN (b.getD ((ords b 0).getD i 0) 0) := by
  unfold nextOf at *
  split at h
  · rw [if_pos (by assumption)]; exact ords_next b 0 i (by assumption)
  · omega

set_option maxRecDepth 100000 in
set_option maxHeartbeats 1000000 in
theorem codeCounts_any (A : Option Addr) (n c : Nat) (b : List Int) (w : World) (h1 : Bytes w A n b) (hn : n ≤ 1048576) (HT : Tabs w) :
    Calls Tryd.prog 5 #[.slice A n c] w fun e w' => e = .returned (.bool true) ∧ Below w.heap.size w w' := by
  have HT0 := Lib.hid HT; clear HT
  have hO := Lib.hid (refOrders_any A n c b w h1 hn)
  go_enter Tryd.func5, Tryd.ntmps5
  go_wp2_with (go_at_call 9; refine hO.out.mono ?_; rintro e w1 ⟨v, rfl, hown, hb1⟩)
  obtain ⟨L, cl, rfl, hLc, hL⟩ := owns_ints hown
  clear hown hO
  have hlen := h1.len
  have HBN : Hid (∀ i ∈ ords b 0, i < n) := Lib.hid (fun i hi => by have := (ords_bound b 0 i hi).2; omega)
  have hll : (ords b 0).length ≤ n := by have := ords_length b 0; omega
  have HX1 := Lib.hid (nextOf_le b); have HX2 := Lib.hid (nextOf_eq b)
  have HXD : Hid (∀ i, nextOf b i = if i + 1 < (ords b 0).length then (ords b 0).getD (i + 1) 0 else b.length) := Lib.hid fun i => rfl
  generalize ords b 0 = l at *
  go_wp2
  go_loopw [4, 5, 6] (fun i v5 v6 wr => ∃ j : Nat, j ≤ l.length ∧ i = .int .i64 j ∧ Below w1.heap.size w1 wr) (fun i _ _ _ => l.length - (intOf i).toNat)
  case atStart => exact ⟨0, by omega, rfl, Below.refl _ _⟩
  case round =>
    obtain ⟨j, hj, rfl, hbw⟩ := hrel
    by_cases hlt : j < l.length
    · obtain ⟨g, rfl, hg1, hg2, hcj⟩ := hL.cell j hlt
      have hcj' := (hbw.cell (p := ⟨g, j, none⟩) hg2).trans hcj
      have hxn := HBN.out _ (List.getElem_mem hlt)
      have hke : l.getD j 0 = l[j] := by simp [List.getD, hlt]
      rw [← hke] at hxn
      have hy1 := HX1.out j hlt
      have hy2 := HX2.out j
      have hyd := HXD.out j
      clear hcj hke
      have hcell2 : j + 1 < l.length → w1.cell? ⟨g, j + 1, none⟩ = some (.int .i64 (l.getD (j + 1) 0 : Nat)) := by
        intro h
        obtain ⟨g', hg', _, _, hc⟩ := hL.cell (j + 1) h
        cases hg'; exact hc
      generalize l.getD j 0 = x at *
      generalize nextOf b j = y at *
      obtain ⟨bb, off, rfl, hbb, hca⟩ := h1.cell x hxn
      have hra := h1.rng x
      obtain ⟨o, ho⟩ : ∃ o : Nat, b.getD x 0 = o := ⟨(b.getD x 0).toNat, by omega⟩
      rw [ho] at hca hra hy1 hy2
      have hca' := (hbw.cell (p := ⟨bb, off + x, none⟩) (Nat.lt_of_lt_of_le hbb hb1.size)).trans ((hb1.cell (p := ⟨bb, off + x, none⟩) hbb).trans hca)
      have hp32 := pushN_le o
      have ho256 : o < 256 := by omega
      have c20 := Lib.hid (fun W => push_any o W ho256)
      obtain ⟨p, hp⟩ : ∃ p, pushN o = p := ⟨_, rfl⟩
      rw [hp] at hy1 hy2 hp32 c20
      have c16 := Lib.hid (fun W HT => is_any o W ho256 HT)
      have c17 := Lib.hid (fun W HT => name_any o W ho256 HT)
      have c18 := Lib.hid (fun W HT => takes_any o W ho256 HT)
      have c19 := Lib.hid (fun W HT => gives_any o W ho256 HT)
      have q1 := ofL_none o ho256
      obtain ⟨q2, q3⟩ := ofL_gives o ho256
      generalize ofL o = q at *
      obtain ⟨nm, tk, gv, is⟩ := q
      dsimp only at q1 q2 q3 c16 c17 c18 c19
      have d1 : decide ((x : Int) + 1 + p < y) = false := by simp; omega
      have d4 : decide ((tk : Int) + 1 < gv) = false := by simp; omega
      have hyl : j + 1 < l.length → y < n := by
        intro h
        rw [hyd, if_pos h]
        exact HBN.out _ (by rw [List.getD, List.getElem?_eq_getElem h]; exact List.getElem_mem _)
      have hy2' : y < n → y = x + 1 + p := fun h => hy2 (by omega)
      have HC2 : j + 1 < l.length → wr.cell? ⟨g, j + 1, none⟩ = some (.int .i64 (y : Nat)) := by
        intro h
        rw [hyd, if_pos h]
        exact (hbw.cell (p := ⟨g, j + 1, none⟩) hg2).trans (hcell2 h)
      have HYN : ¬ j + 1 < l.length → y = n := by intro h; rw [hyd, if_neg h]; exact hlen
      have HI : (intOf (.int .i64 (j : Nat))).toNat = j := by simp [intOf]
      clear hyd hcell2 hca hy2 ho HX1 HX2 HXD hL HBN hlen h1 hp
      have Q1 := Lib.hid q1
      clear q1
      have hj3 : j < 1048576 := by omega
      by_cases hj1 : j + 1 < l.length <;> by_cases hyn : y < n
      · have hc2 := HC2 hj1
        have d2 : decide (y < n) = true := by simpa using hyn
        have d3 : ((y : Int) != (x : Int) + 1 + p) = false := bne_eq_false_iff_eq.2 (by have := hy2' hyn; omega)
        clear HC2 HYN hy2' hyl
        go_wp2
        go_quiet ((go_at_call 20; exact Calls.quiet_of_same ((c20.out _).mono fun _ _ h => ⟨h.1, h.2.symm⟩)))
        have hbq := Below.drewN' hbw nq
        have HTq := Lib.hid (HT0.out.below (hb1.trans (hbq.mono hb1.size)))
        generalize wr.drewN nq = W0 at *
        cases is
        · obtain ⟨rfl, rfl, rfl⟩ := Q1.out rfl
          go_wp2_with fail
          refine (c16.out _ HTq.out).mono ?_
          rintro e w2 ⟨rfl, hd2⟩
          have hb2 := hbq.trans (hd2.mono hbq.size)
          have HT2 := Lib.hid (HT0.out.below (hb1.trans (hb2.mono hb1.size)))
          clear hd2
          go_wp2_with fail
          refine (c18.out _ HT2.out).mono ?_
          rintro e w3 ⟨rfl, hd3⟩
          have hb3 := hb2.trans (hd3.mono hb2.size)
          have HT3 := Lib.hid (HT0.out.below (hb1.trans (hb3.mono hb1.size)))
          clear hd3
          go_wp2_with fail
          refine (c19.out _ HT3.out).mono ?_
          rintro e w4 ⟨rfl, hd4⟩
          have hb4 := hb3.trans (hd4.mono hb3.size)
          have HT4 := Lib.hid (HT0.out.below (hb1.trans (hb4.mono hb1.size)))
          clear hd4
          go_wp2_with fail
          refine (c17.out _ HT4.out).mono ?_
          rintro e w5 ⟨rfl, hd5⟩
          have hb5 := hb4.trans (hd5.mono hb4.size)
          have HT5 := Lib.hid (HT0.out.below (hb1.trans (hb5.mono hb1.size)))
          clear hd5
          go_wp2_with fail
          refine (c19.out _ HT5.out).mono ?_
          rintro e w6 ⟨rfl, hd6⟩
          have hb6 := hb5.trans (hd6.mono hb5.size)
          have HT6 := Lib.hid (HT0.out.below (hb1.trans (hb6.mono hb1.size)))
          clear hd6
          go_wp2_with fail
          refine (c18.out _ HT6.out).mono ?_
          rintro e w7 ⟨rfl, hd7⟩
          have hb7 := hb6.trans (hd7.mono hb6.size)
          clear hd7
          go_wp2
          exact ⟨⟨j + 1, by omega, by go_num, hb7⟩, by simp [intOf]; omega⟩
        · go_wp2_with fail
          refine (c16.out _ HTq.out).mono ?_
          rintro e w2 ⟨rfl, hd2⟩
          have hb2 := hbq.trans (hd2.mono hbq.size)
          have HT2 := Lib.hid (HT0.out.below (hb1.trans (hb2.mono hb1.size)))
          clear hd2
          go_wp2_with fail
          refine (c19.out _ HT2.out).mono ?_
          rintro e w3 ⟨rfl, hd3⟩
          have hb3 := hb2.trans (hd3.mono hb2.size)
          have HT3 := Lib.hid (HT0.out.below (hb1.trans (hb3.mono hb1.size)))
          clear hd3
          go_wp2_with fail
          refine (c18.out _ HT3.out).mono ?_
          rintro e w4 ⟨rfl, hd4⟩
          have hb4 := hb3.trans (hd4.mono hb3.size)
          clear hd4
          go_wp2
          exact ⟨⟨j + 1, by omega, by go_num, hb4⟩, by simp [intOf]; omega⟩
      · exact absurd (hyl hj1) hyn
      · have := HYN hj1; omega
      · obtain rfl := HYN hj1
        have d2 : decide (y < y) = false := by simp
        clear HC2 HYN hy2' hyl
        go_wp2
        go_quiet ((go_at_call 20; exact Calls.quiet_of_same ((c20.out _).mono fun _ _ h => ⟨h.1, h.2.symm⟩)))
        have hbq := Below.drewN' hbw nq
        have HTq := Lib.hid (HT0.out.below (hb1.trans (hbq.mono hb1.size)))
        generalize wr.drewN nq = W0 at *
        cases is
        · obtain ⟨rfl, rfl, rfl⟩ := Q1.out rfl
          go_wp2_with fail
          refine (c16.out _ HTq.out).mono ?_
          rintro e w2 ⟨rfl, hd2⟩
          have hb2 := hbq.trans (hd2.mono hbq.size)
          have HT2 := Lib.hid (HT0.out.below (hb1.trans (hb2.mono hb1.size)))
          clear hd2
          go_wp2_with fail
          refine (c18.out _ HT2.out).mono ?_
          rintro e w3 ⟨rfl, hd3⟩
          have hb3 := hb2.trans (hd3.mono hb2.size)
          have HT3 := Lib.hid (HT0.out.below (hb1.trans (hb3.mono hb1.size)))
          clear hd3
          go_wp2_with fail
          refine (c19.out _ HT3.out).mono ?_
          rintro e w4 ⟨rfl, hd4⟩
          have hb4 := hb3.trans (hd4.mono hb3.size)
          have HT4 := Lib.hid (HT0.out.below (hb1.trans (hb4.mono hb1.size)))
          clear hd4
          go_wp2_with fail
          refine (c17.out _ HT4.out).mono ?_
          rintro e w5 ⟨rfl, hd5⟩
          have hb5 := hb4.trans (hd5.mono hb4.size)
          have HT5 := Lib.hid (HT0.out.below (hb1.trans (hb5.mono hb1.size)))
          clear hd5
          go_wp2_with fail
          refine (c19.out _ HT5.out).mono ?_
          rintro e w6 ⟨rfl, hd6⟩
          have hb6 := hb5.trans (hd6.mono hb5.size)
          have HT6 := Lib.hid (HT0.out.below (hb1.trans (hb6.mono hb1.size)))
          clear hd6
          go_wp2_with fail
          refine (c18.out _ HT6.out).mono ?_
          rintro e w7 ⟨rfl, hd7⟩
          have hb7 := hb6.trans (hd7.mono hb6.size)
          clear hd7
          go_wp2
          exact ⟨⟨j + 1, by omega, by go_num, hb7⟩, by simp [intOf]; omega⟩
        · go_wp2_with fail
          refine (c16.out _ HTq.out).mono ?_
          rintro e w2 ⟨rfl, hd2⟩
          have hb2 := hbq.trans (hd2.mono hbq.size)
          have HT2 := Lib.hid (HT0.out.below (hb1.trans (hb2.mono hb1.size)))
          clear hd2
          go_wp2_with fail
          refine (c19.out _ HT2.out).mono ?_
          rintro e w3 ⟨rfl, hd3⟩
          have hb3 := hb2.trans (hd3.mono hb2.size)
          have HT3 := Lib.hid (HT0.out.below (hb1.trans (hb3.mono hb1.size)))
          clear hd3
          go_wp2_with fail
          refine (c18.out _ HT3.out).mono ?_
          rintro e w4 ⟨rfl, hd4⟩
          have hb4 := hb3.trans (hd4.mono hb3.size)
          clear hd4
          go_wp2
          exact ⟨⟨j + 1, by omega, by go_num, hb4⟩, by simp [intOf]; omega⟩
    · go_wp2_with (go_at_call 11; refine (lives_any _ (HT0.out.below (hb1.trans (hbw.mono hb1.size)))).mono ?_; rintro e w8 ⟨rfl, hb9⟩)
      go_ret
      have hbY := hb1.trans (hbw.mono hb1.size)
      exact ⟨rfl, hbY.trans (hb9.mono hbY.size)⟩
end Go.Proofs.YtkelpkpbkebphaaDoor
