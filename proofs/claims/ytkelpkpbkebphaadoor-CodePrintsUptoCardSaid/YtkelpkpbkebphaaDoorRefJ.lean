/- Where may be jumped to, by the document; lists held against each other. -/
import Derived.Test.YtkelpkpbkebphaaDoorRefO
namespace Go.Proofs.YtkelpkpbkebphaaDoor
open Go.RowKit Go.Shelf Go.Proofs

theorem own_weaken' {w : World} {base base' : Nat} {e : TypeId} {size n : Nat} {v : Value} {xs : List Value} (h : w.ownsRow base e size v n xs) (hb : base' ≤ base) : w.ownsRow base' e size v n xs := by
  obtain ⟨h1, h2 | ⟨g, cap, cur, h3, hg, h4⟩⟩ := h
  · exact ⟨h1, .inl h2⟩
  · exact ⟨h1, .inr ⟨g, cap, cur, h3, Nat.le_trans hb hg, h4⟩⟩

/-- An int slice that is read: its value and its cells. -/
structure Ints (w : World) (A : Option Addr) (base : Nat) (l : List Nat) : Prop where
  cell : ∀ j, j < l.length → ∃ g, A = some ⟨g, 0, none⟩ ∧ base ≤ g ∧ g < w.heap.size ∧ w.cell? ⟨g, j, none⟩ = some (.int .i64 (l.getD j 0 : Nat))
theorem Ints.below {w w' : World} {A : Option Addr} {base : Nat} {l : List Nat} (h : Ints w A base l) (hb : Below w.heap.size w w') : Ints w' A base l :=
  ⟨fun j hj => by
    obtain ⟨g, hA, h1, h2, hc⟩ := h.cell j hj
    exact ⟨g, hA, h1, Nat.lt_of_lt_of_le h2 hb.size, (hb.cell (p := ⟨g, j, none⟩) h2).trans hc⟩⟩

theorem owns_ints {w : World} {base : Nat} {v : Value} {l : List Nat} (h : w.ownsRow base 3 1 v l.length (i64s l)) :
    ∃ A c, v = .slice A l.length c ∧ l.length ≤ c ∧ Ints w A base l := by
  obtain ⟨_, ⟨rfl, h0⟩ | ⟨g, cap, cur, rfl, hg, hblk, hn, _, hsz, htk⟩⟩ := h
  · refine ⟨none, 0, by rw [h0], by omega, ⟨fun j hj => by omega⟩⟩
  · refine ⟨some ⟨g, 0, none⟩, cap, rfl, hn, ⟨fun j hj => ⟨g, rfl, hg, (Array.getElem?_eq_some_iff.1 hblk).1, ?_⟩⟩⟩
    unfold World.cell?
    simp only [hblk]
    have h0 := congrArg (fun x => x[j]?) htk
    rw [List.getElem?_take, if_pos (by omega)] at h0
    have h1 : (i64s l)[j]? = some (.int .i64 (l.getD j 0 : Nat)) := by
      simp [i64s, List.getD, hj]
    rw [h1] at h0
    simpa using h0

theorem filter_take_succ (p : Nat → Bool) (l : List Nat) (j : Nat) (h : j < l.length) :
    (l.take (j + 1)).filter p = (l.take j).filter p ++ (if p (l.getD j 0) then [l.getD j 0] else []) := by
  rw [List.take_succ_eq_append_getElem h, List.filter_append]
  have e : l.getD j 0 = l[j] := by simp [List.getD, h]
  rw [e]
  congr 1
  by_cases hp : p l[j] = true
  · rw [List.filter_cons_of_pos hp, if_pos hp]; rfl
  · rw [List.filter_cons_of_neg hp, if_neg hp]; rfl

set_option maxRecDepth 100000 in
set_option maxHeartbeats 600000 in
theorem refJumps_any (A : Option Addr) (n c : Nat) (bs : List Int) (w : World) (hB : Bytes w A n bs) (hn : n ≤ 1048576) :
    Calls Tryd.prog 12 #[.slice A n c] w fun e w' => ∃ v, e = .returned v ∧ w'.ownsRow w.heap.size 3 1 v (jmps bs 0).length (i64s (jmps bs 0)) ∧ Below w.heap.size w w' := by
  obtain ⟨i0, hi, hz0, hz1, hz2⟩ := info_parts info3'
  have hO := Lib.hid (refOrders_any A n c bs w hB hn)
  go_enter Tryd.func12, Tryd.ntmps12
  go_wp2_with (go_at_call 9; refine hO.out.mono ?_; rintro e w1 ⟨v, rfl, hown, hb1⟩)
  obtain ⟨L, c1, rfl, hLc, hL⟩ := owns_ints hown
  have hll := ords_length bs 0
  have hlen := hB.len
  have hbnd : ∀ i ∈ ords bs 0, i < bs.length := fun i hi => (ords_bound bs 0 i hi).2
  clear hown hO
  have hJ : jmps bs 0 = (ords bs 0).filter (isDest bs) := rfl
  have HJ := Lib.hid hJ; clear hJ
  generalize ords bs 0 = l at *
  have h0 := Lib.hid (owns_empty w1)
  have hb0 := Lib.hid ((Below.refl w1.heap.size w1).alloc (Nat.le_refl _) (.cells #[] 3))
  have HLEN := Lib.hid hlen; clear hlen
  have hl2 : l.length ≤ 1048576 := by have := HLEN.out; omega
  have HBN := Lib.hid hbnd; clear hbnd hll
  go_loopw [4, 5] (fun v i wr => ∃ (j : Nat), j ≤ l.length ∧ i = .int .i64 j ∧ wr.ownsRow w1.heap.size 3 1 v ((l.take j).filter (isDest bs)).length (i64s ((l.take j).filter (isDest bs))) ∧ Below w1.heap.size w1 wr)
    (fun _ i _ => l.length - (intOf i).toNat)
  case atStart => exact ⟨0, by omega, rfl, h0.out, hb0.out⟩
  case round =>
    obtain ⟨j, hj, rfl, hown, hbw⟩ := hrel
    clear h0 hb0
    by_cases hlt : j < l.length
    · obtain ⟨g, rfl, hg1, hg2, hcj⟩ := hL.cell j hlt
      have hcj' := (hbw.cell (p := ⟨g, j, none⟩) hg2).trans hcj
      have hkn := HBN.out _ (List.getElem_mem hlt)
      have hke : l.getD j 0 = l[j] := by simp [List.getD, hlt]
      rw [← hke] at hkn
      have hf := filter_take_succ (isDest bs) l j hlt
      have hpl : ((l.take j).filter (isDest bs)).length ≤ j := by have := List.length_filter_le (isDest bs) (l.take j); simp at this; omega
      have HF := Lib.hid hf; clear hf hke
      obtain ⟨k, hk⟩ : ∃ k, l.getD j 0 = k := ⟨_, rfl⟩
      rw [hk] at hcj' hkn hcj
      have HK := Lib.hid hk; clear hk
      rw [HLEN.out] at hkn
      obtain ⟨b, off, rfl, hb, hcell0⟩ := hB.cell k hkn
      have hcell1 := (hb1.cell (p := ⟨b, off + k, none⟩) hb).trans hcell0
      have hcell := (hbw.cell (p := ⟨b, off + k, none⟩) (Nat.lt_of_lt_of_le hb hb1.size)).trans hcell1
      have hr := hB.rng k
      clear hcell0 hcell1 hcj
      obtain ⟨x, hx⟩ : ∃ x : Int, bs.getD k 0 = x := ⟨_, rfl⟩
      rw [hx] at hcell hr
      have HX := Lib.hid hx; clear hx
      generalize hpre : (l.take j).filter (isDest bs) = pre at *
      have HPRE := Lib.hid hpre; clear hpre
      by_cases h91 : x = 91
      · subst h91
        have hx1 := hown.alloc (.cells #[.int .i64 (k : Nat)] 3)
        have hx3 : ∀ u ∈ [Value.int .i64 (k : Nat)], u.oneCell' = true := by simp [Value.oneCell']
        have hx2 := cell_one_new wr (.int .i64 (k : Nat)) 3
        have b1 : pre.length + 1 ≤ maxLen := by unfold maxLen; omega
        have b2 : (pre.length + 1) * 8 ≤ 140737488355328 := by omega
        have b3 : w1.heap.size ≤ (wr.alloc (.cells #[.int .i64 (k : Nat)] 3)).heap.size := by have := hbw.size; simp; omega
        have hwb := hbw.alloc hbw.size (.cells #[.int .i64 (k : Nat)] 3)
        have harm : ∀ (w2 : World), (wr.alloc (.cells #[.int .i64 (k : Nat)] 3)).grownBy w2 u4.ownBlock → Below w1.heap.size w1 w2 :=
          fun w2 hg => hwb.grown hg b3 (fun k e => own_base' hx1 k e)
        have HARM := Lib.hid harm; clear harm
        go_wp2_with (at_builtin; refine wpList_append_own _ rfl _ _ 23 rfl w1.heap.size 3 i0 (.int .i64 0) 1 8 Tryd.underlying23 hi hz0 hz1 hz2 rfl (by decide) _ _ _ rfl hx1 ⟨wr.heap.size, 0, none⟩ 1 1 [.int .i64 (k : Nat)] rfl rfl hx2 hx3 b1 b2 b3 ?_; intro v' w2 hown' hgrow hnil; have hb2 := HARM.out w2 hgrow; clear hgrow hnil)
        have e : (l.take (j + 1)).filter (isDest bs) = pre ++ [k] := by
          rw [HF.out, HK.out, if_pos (by unfold isDest; rw [HX.out]; rfl)]
        refine ⟨⟨j + 1, by omega, by go_num, ?_, hb2⟩, by simp [intOf]; omega⟩
        rw [e]; simpa using hown'
      · go_wp2
        have e : (l.take (j + 1)).filter (isDest bs) = pre := by
          rw [HF.out, HK.out, if_neg (by unfold isDest; rw [HX.out]; simpa using h91), List.append_nil]
        refine ⟨⟨j + 1, by omega, by go_num, ?_, hbw⟩, by simp [intOf]; omega⟩
        rw [e]; exact hown
    · have e : (l.take j).filter (isDest bs) = jmps bs 0 := by rw [HJ.out, List.take_of_length_le (by omega)]
      rw [e] at hown
      clear e
      go_wp2
      go_ret
      exact ⟨_, rfl, own_weaken' hown hb1.size, hb1.trans (hbw.mono hb1.size)⟩
end Go.Proofs.YtkelpkpbkebphaaDoor
