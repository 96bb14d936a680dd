/- Where a code ends with a whole order, that and another one, one behind the other, may be jumped to where each may: the walk. -/
import Derived.Test.YtkelpkpbkebphaaDoorCopy
namespace Go.Proofs.YtkelpkpbkebphaaDoor
open Go.RowKit Go.Shelf Go.Proofs

theorem endsAt_ge' (b : List Int) : ∀ k, k ≤ b.length → b.length ≤ endsAt b k := by
  have key : ∀ n k, b.length - k ≤ n → b.length ≤ endsAt b k := by
    intro n
    induction n with
    | zero => intro k h; rw [endsAt_ge (by omega)]; omega
    | succ n ih =>
      intro k h
      by_cases hk : k < b.length
      · rw [endsAt_lt hk]; exact ih _ (by omega)
      · rw [endsAt_ge (by omega)]; omega
  exact fun k _ => key _ k (Nat.le_refl _)

theorem own_below {w w' : World} {base : Nat} {e : TypeId} {size n : Nat} {v : Value} {xs : List Value} (h : w.ownsRow base e size v n xs) (hb : Below w.heap.size w w') : w'.ownsRow base e size v n xs := by
  obtain ⟨h1, h2 | ⟨g, cap, cur, h3, hg, hblk, h4⟩⟩ := h
  · exact ⟨h1, .inl h2⟩
  · exact ⟨h1, .inr ⟨g, cap, cur, h3, hg, (hb.block g (Array.getElem?_eq_some_iff.1 hblk).1).trans hblk, h4⟩⟩

/-- What the loop that joins the two lists keeps. -/
structure JoinInv (w w2 w3 : World) (B n1 : Nat) (ja jb : List Nat) (j : Nat) (v : Value) (wr : World) : Prop where
  own : wr.ownsRow B 3 1 v (ja.length + j) (i64s (ja ++ (jb.take j).map (· + n1)))
  out : ∀ k, v.ownBlock = some k → k < w2.heap.size ∨ w3.heap.size ≤ k
  size : w3.heap.size ≤ wr.heap.size
  keep : ∀ k, w2.heap.size ≤ k → k < w3.heap.size → wr.heap[k]? = w3.heap[k]?
  below : Below B w wr

theorem JoinInv.step {w w2 w3 wr w' : World} {B n1 j : Nat} {ja jb : List Nat} {v v' : Value} {o : Obj} (h : JoinInv w w2 w3 B n1 ja jb j v wr) (hj : j < jb.length) (hB : B ≤ wr.heap.size)
    (hown : w'.ownsRow B 3 1 v' (ja.length + j + 1) (i64s (ja ++ (jb.take j).map (· + n1)) ++ [.int .i64 (((jb.getD j 0 : Nat) : Int) + (n1 : Nat))]))
    (hg : (wr.alloc o).grownBy w' v.ownBlock) (h5 : v'.ownBlock = v.ownBlock ∨ v'.ownBlock = some (wr.alloc o).heap.size) : JoinInv w w2 w3 B n1 ja jb (j + 1) v' w' := by
  have hsz : wr.heap.size + 1 = (wr.alloc o).heap.size := by simp
  have hsz' := hg.size
  refine ⟨?_, ?_, ?_, ?_, ?_⟩
  · have e : jb.getD j 0 = jb[j] := by simp [List.getD, hj]
    have e2 : i64s (ja ++ (jb.take (j + 1)).map (· + n1)) = i64s (ja ++ (jb.take j).map (· + n1)) ++ [.int .i64 (((jb.getD j 0 : Nat) : Int) + (n1 : Nat))] := by
      rw [List.take_succ_eq_append_getElem hj, e, List.map_append, ← List.append_assoc]; unfold i64s; rw [List.map_append (l₁ := ja ++ _)]; rfl
    rw [e2]; exact hown
  · intro k hk
    rcases h5 with h5 | h5
    · exact h.out k (h5 ▸ hk)
    · rw [h5] at hk
      have := h.size
      cases hk; right; omega
  · have := h.size; omega
  · intro k h1 h2
    have hlt : k < wr.heap.size := Nat.lt_of_lt_of_le h2 h.size
    have hne : some k ≠ v.ownBlock := by
      intro e
      have := h.out k e.symm
      omega
    rw [hg.block k (by omega) hne, ← h.keep k h1 h2]
    exact (Below.alloc (Below.refl wr.heap.size wr) (Nat.le_refl _) o).block k hlt
  · exact (h.below.alloc hB o).grown hg (by omega) (fun k e => own_base' h.own k e)

theorem getD_append_rng (a b : List Int) (ha : ∀ i, 0 ≤ a.getD i 0 ∧ a.getD i 0 < 256) (hb : ∀ i, 0 ≤ b.getD i 0 ∧ b.getD i 0 < 256) : ∀ i, 0 ≤ (a ++ b).getD i 0 ∧ (a ++ b).getD i 0 < 256 := by
  intro i
  by_cases h : i < a.length
  · have : (a ++ b).getD i 0 = a.getD i 0 := by simp [List.getD, List.getElem?_append_left h]
    rw [this]; exact ha i
  · have : (a ++ b).getD i 0 = b.getD (i - a.length) 0 := by simp [List.getD, List.getElem?_append_right (show a.length ≤ i by omega)]
    rw [this]; exact hb _

theorem jmps_bound (b : List Int) (k : Nat) : ∀ i ∈ jmps b k, i < b.length := by
  intro i hi
  exact (ords_bound b k i (List.mem_filter.1 hi).1).2

set_option maxRecDepth 100000 in
set_option maxHeartbeats 1000000 in
theorem codeJoins_any (A1 A2 : Option Addr) (n1 n2 c1 c2 : Nat) (a b : List Int) (w : World) (h1 : Bytes w A1 n1 a) (h2 : Bytes w A2 n2 b) (z1 : A1 = none → c1 = 0) (z2 : A2 = none → c2 = 0) (hn1 : n1 ≤ 1048576) (hn2 : n2 ≤ 1048576) (hsum : n1 + n2 ≤ 1048576) (HT : Tabs w) :
    Calls Tryd.prog 3 #[.slice A1 n1 c1, .slice A2 n2 c2] w fun e w' => e = .returned (.bool true) ∧ Below w.heap.size w w' := by
  have HT0 := Lib.hid HT; clear HT
  have Z1 := Lib.hid z1; have Z2 := Lib.hid z2; clear z1 z2
  have hO := Lib.hid (refOrders_any A1 n1 c1 a w h1 hn1)
  go_enter Tryd.func3, Tryd.ntmps3
  go_wp2_with (go_at_call 9; refine hO.out.mono ?_; rintro e w1 ⟨v, rfl, hown, hb1⟩)
  obtain ⟨L, cl, rfl, hLc, hL⟩ := owns_ints hown
  clear hown hO
  by_cases hl0 : (ords a 0).length = 0
  · have hd : decide ((0 : Int) < ((ords a 0).length : Int)) = false := by rw [hl0]; rfl
    have hq := Lib.hid hl0
    go_quiet (fail)
    have hbA := Below.drewN' hb1 nq; clear hb1
    have HEnd : Hid (endsAt a 0 = a.length) := Lib.hid (by rw [endsAt_none a hl0, endsAt_ge (by have := endsAt_none a hl0; omega)])
    clear hL hLc hd hq hl0
    have hJA := Lib.hid (fun (W : World) (hb : Below w.heap.size w W) => refJumps_any _ n1 c1 a W (h1.below hb) hn1)
    have hJB := Lib.hid (fun (W : World) (hb : Below w.heap.size w W) => refJumps_any _ n2 c2 b W (h2.below hb) hn2)
    generalize w1.drewN nq = W1 at *
    have hla := h1.len
    have hlb := h2.len
    have hja1 : (jmps a 0).length ≤ n1 := by have := jmps_length a 0; omega
    have hjb1 : (jmps b 0).length ≤ n2 := by have := jmps_length b 0; omega
    have hjb2 : ∀ i ∈ jmps b 0, i < n2 := by rw [← hlb]; exact jmps_bound b 0
    have hJJ : jmps (a ++ b) 0 = jmps a 0 ++ (jmps b 0).map (· + n1) := by rw [← hla]; exact jmps_append a b HEnd.out
    have HR := Lib.hid (getD_append_rng a b h1.rng h2.rng)
    have HLL : Hid ((a ++ b).length = n1 + n2) := Lib.hid (by rw [List.length_append, hla, hlb])
    have HJ := Lib.hid hJJ
    clear hJJ HEnd hla hlb
    generalize jmps a 0 = ja at *
    generalize jmps b 0 = jb at *
    have HJB := Lib.hid hjb2; clear hjb2
    go_wp2_with fail
    refine (hJA.out _ hbA).mono ?_
    rintro e w2 ⟨va, rfl, howna, hb2⟩
    have hbB := hbA.trans (hb2.mono hbA.size)
    go_wp2_with fail
    refine (hJB.out _ hbB).mono ?_
    rintro e w3 ⟨vb, rfl, hownb, hb3⟩
    have howna3 := own_below howna hb3
    have hlt1 := howna.lt
    obtain ⟨M, cm, rfl, hMc, hM⟩ := owns_ints hownb
    have hbC := hbB.trans (hb3.mono hbB.size)
    have hst : Hid (JoinInv w w2 w3 w.heap.size n1 ja jb 0 va w3) := Lib.hid ⟨by simpa using own_weaken' howna3 hbA.size, fun k hk => .inl (hlt1 k hk).2, Nat.le_refl _, fun _ _ _ => rfl, hbC⟩
    clear hlt1 howna3 howna hownb hJA hJB hb2 hb3 hbB hbA
    go_wp2
    go_loopw [6, 8] (fun v i wr => ∃ j : Nat, j ≤ jb.length ∧ i = .int .i64 j ∧ JoinInv w w2 w3 w.heap.size n1 ja jb j v wr) (fun _ i _ => jb.length - (intOf i).toNat)
    case atStart => exact ⟨0, by omega, rfl, hst.out⟩
    case round =>
      obtain ⟨j, hj, rfl, hinv⟩ := hrel
      clear hst
      have HI := Lib.hid hinv
      by_cases hlt : j < jb.length
      · obtain ⟨g', rfl, hg1', hg2', hcj⟩ := hM.cell j hlt
        have hcj' : _ = _ := (World.cell?_of_block (a := ⟨g', j, none⟩) (hinv.keep g' hg1' hg2')).trans hcj
        have hkn := HJB.out _ (List.getElem_mem hlt)
        have hke : jb.getD j 0 = jb[j] := by simp [List.getD, hlt]
        rw [← hke] at hkn
        have hbw' := hinv.below.size
        obtain ⟨i0, hi, hz0, hz1, hz2⟩ := info_parts info3'
        have hstep := fun v' w' o => hinv.step (v' := v') (w' := w') (o := o) hlt hbw'
        have hown := hinv.own
        generalize i64s (ja ++ (jb.take j).map (· + n1)) = xs at *
        obtain ⟨k, hk⟩ : ∃ k, jb.getD j 0 = k := ⟨_, rfl⟩
        rw [hk] at hcj' hkn hcj hstep
        have HSTEP := Lib.hid hstep
        clear hke hk hcj hstep
        have hx1 := hown.alloc (.cells #[.int .i64 ((k : Int) + n1)] 3)
        have hx3 : ∀ u ∈ [Value.int .i64 ((k : Int) + n1)], u.oneCell' = true := by simp [Value.oneCell']
        have hx2 := cell_one_new wr (.int .i64 ((k : Int) + n1)) 3
        have b1 : ja.length + j + 1 ≤ maxLen := by unfold maxLen; omega
        have b2 : (ja.length + j + 1) * 8 ≤ 140737488355328 := by omega
        have b3 : w.heap.size ≤ (wr.alloc (.cells #[.int .i64 ((k : Int) + n1)] 3)).heap.size := by simp; omega
        clear hinv hown
        go_wp2_with (at_builtin; refine wpList_append_own_at _ rfl _ _ 23 rfl w.heap.size 3 i0 (.int .i64 0) 1 8 Tryd.underlying23 hi hz0 hz1 hz2 rfl (by decide) _ _ _ rfl hx1 ⟨wr.heap.size, 0, none⟩ 1 1 [.int .i64 ((k : Int) + n1)] rfl rfl hx2 hx3 b1 b2 b3 ?_; intro v' w9 hown9 hgrow9 hnil9 hat9; have hinv9 := HSTEP.out v' w9 _ hown9 hgrow9 hat9; clear hown9 hgrow9 hnil9 hat9 hx1 hx2 hx3)
        exact ⟨⟨j + 1, by omega, by go_num, hinv9⟩, by simp [intOf]; omega⟩
      · have hown := hinv.own
        have e : ja ++ (jb.take j).map (· + n1) = jmps (a ++ b) 0 := by rw [HJ.out, List.take_of_length_le (by omega)]
        have e' : ja.length + j = (jmps (a ++ b) 0).length := by rw [HJ.out]; simp; omega
        rw [e, e'] at hown
        obtain ⟨A, c, rfl, hAc, hI⟩ := owns_ints hown
        have hbw := hinv.below
        have hlen : (jmps (a ++ b) 0).length ≤ 1048576 := by rw [← e']; omega
        clear hinv hown e e' hM
        have hKJ := Lib.hid (fun (g c : Nat) (W : World) (hc : (a ++ b).length ≤ c) (hI : BytesAt W g 0 (a ++ b)) => Jumps_any g 0 c (a ++ b) (by rw [HLL.out]; omega) hc W hI)
        generalize jmps (a ++ b) 0 = jab at *
        have hx0 := owns_bytes_empty wr
        have hb0 := (Below.refl wr.heap.size wr).alloc (Nat.le_refl _) (.cells #[] 5)
        have hB1 := h1.below (hbw.trans (hb0.mono hbw.size))
        generalize hV1 : Value.slice A1 n1 c1 = V1
        have HV1 := Lib.hid hV1.symm; clear hV1
        generalize hV2 : Value.slice A2 n2 c2 = V2
        have HV2 := Lib.hid hV2.symm; clear hV2
        go_wp2_with (first | (at_builtin; refine wpList_append_bytes rfl _ _ rfl wr.heap.size _ 0 [] rfl hx0 _ n1 c1 a HV1.out hB1 Z1.out (by omega) (by simp) ?_; intro v4 w4 hown4 hgrow4 hnil4; have hn4 : v4 ≠ .slice none 0 0 := (fun e => by have e' : Value.slice (some ⟨wr.heap.size, 0, none⟩) 0 0 = .slice none 0 0 := (hnil4.1 e).1; cases e'); have hb4 : Below wr.heap.size wr w4 := hb0.grown hgrow4 (by simp) (fun k hk => by have hk' : some wr.heap.size = some k := hk; cases hk'; exact Nat.le_refl _); clear hnil4 hgrow4 hx0 hb0 hB1; have hB2 := h2.below (hbw.trans (hb4.mono hbw.size))) | (at_builtin; (refine wpList_append_bytes rfl _ _ rfl wr.heap.size _ _ _ rfl hown4 _ n2 c2 b HV2.out hB2 Z2.out (by omega) hb4.size ?_); intro v5 w5 hown5 hgrow5 hnil5; (have hn5 : v5 ≠ .slice none 0 0 := (fun e => hn4 (hnil5.1 e).1)); (have hb5 : Below wr.heap.size wr w5 := hb4.grown hgrow5 hb4.size (fun k e => own_base' hown4 k e))))
        have eu : [] ++ u8s a ++ u8s b = u8s (a ++ b) := by simp [u8s]
        rw [eu] at hown5
        clear hnil5 hgrow5 hB2 hn4 hown4 eu
        obtain ⟨g, c', rfl, hc', hg', hBA, hn⟩ := owns_bytes hown5 hn5 HR.out
        clear hown5 hn5
        have hK := Lib.hid (hKJ.out g c' w5 hc' hBA)
        clear hKJ
        refine hK.out.mono ?_
        rintro e w6 ⟨v6, rfl, hown6, hb6⟩
        obtain ⟨A6, c6, rfl, _, hI6⟩ := owns_ints hown6
        have hb7 := hb5.trans (hb6.mono hb5.size)
        have hI7 := hI.below hb7
        have hbZ := hbw.trans (hb7.mono hbw.size)
        have hS := Lib.hid (same_true A6 A c6 c _ _ jab w6 hI6 hI7 (by omega))
        clear hown6 hK hI hI6 hI7 hb6 hb5 hb7 hBA hb4
        go_wp2_with fail
        refine hS.out.mono ?_
        rintro e w7 ⟨rfl, hb8⟩
        have hbY := hbZ.trans (hb8.mono hbZ.size)
        go_wp2_with fail
        refine (lives_any _ (HT0.out.below hbY)).mono ?_
        rintro e w8 ⟨rfl, hb9⟩
        have hbX := hbY.trans (hb9.mono hbY.size)
        go_wp2
        go_ret
        exact ⟨rfl, hbX⟩
  · obtain ⟨q, hq⟩ : ∃ q, (ords a 0).length = q + 1 := ⟨(ords a 0).length - 1, by omega⟩
    obtain ⟨g, hLA, hg1, hg2, hcl⟩ := hL.cell q (by omega)
    obtain ⟨x, hx⟩ : ∃ x, (ords a 0).getD q 0 = x := ⟨_, rfl⟩
    have hxm : (ords a 0).getLast? = some x := by
      rw [List.getLast?_eq_getElem?, hq, ← hx]
      simp [List.getD, show q < (ords a 0).length by omega]
    have hxa := (ords_bound a 0 x (List.mem_of_getLast? hxm)).2
    have hE := Lib.hid (endsAt_last a 0 x hxm)
    rw [hx] at hcl
    subst hLA
    obtain ⟨bb, off, hA, hbb, hca⟩ := h1.cell x (by have := h1.len; omega)
    have hra := h1.rng x
    obtain ⟨y, hy⟩ : ∃ y : Nat, a.getD x 0 = y := ⟨(a.getD x 0).toNat, by omega⟩
    rw [hy] at hca hra
    rw [hy] at hE
    have hca1 := (hb1.cell (p := ⟨bb, off + x, none⟩) hbb).trans hca
    subst hA
    have hxn : x < n1 := by have := h1.len; omega
    have hp32 := pushN_le y
    obtain ⟨p, hp⟩ : ∃ p, pushN y = p := ⟨_, rfl⟩
    rw [hp] at hE hp32
    have hpu : Hid (∀ W, Calls Tryd.prog 10 #[.int .u8 y] W fun e w' => e = .returned (.int .i64 p) ∧ w' = W) :=
      by intro W; exact hp ▸ (refPush_any y W (by omega)).mono fun _ _ h => ⟨h.1, h.2.symm⟩
    obtain ⟨m, hm⟩ : ∃ m, (ords a 0).length = m := ⟨_, rfl⟩
    rw [hm] at hq hLc ⊢
    have hd : decide (0 < m) = true := by simp; omega
    have hd2 : (m : Int) - 1 = (q : Nat) := by omega
    have hd3 : (q : Int) < m := by omega
    have hmle : m ≤ 1048576 := by have e1 := ords_length a 0; have e2 := h1.len; omega
    have hd4 : (x : Int) < n1 := by omega
    clear hca hl0 hy hp hx hxm
    by_cases hend : (n1 : Int) < x + 1 + p
    all_goals have HQ := Lib.hid hq; clear hq
    · go_quiet ((go_at_call 10; exact Calls.quiet_of_same (hpu.out _)))
      go_wp2_with fail
      refine (lives_any _ (HT0.out.below (Below.drewN' hb1 nq))).mono ?_
      rintro e w2 ⟨rfl, hb2⟩
      have hb3 := (Below.drewN' hb1 nq).trans (hb2.mono hb1.size)
      go_wp2
      go_ret
      exact ⟨rfl, hb3⟩
    · go_quiet ((go_at_call 10; exact Calls.quiet_of_same (hpu.out _)))
      have hbA := Below.drewN' hb1 nq; clear hb1
      have HEnd : Hid (endsAt a 0 = a.length) := Lib.hid (by
        have e1 := hE.out
        have e2 := h1.len
        have e3 := endsAt_ge' a 0 (Nat.zero_le _)
        omega)
      clear hL hLc hd hd2 hd3 hd4 HQ hpu hE hend hcl hca1 hbb hg1 hg2
      generalize (some ⟨bb, off, none⟩ : Option Addr) = A1 at *
      have hJA := Lib.hid (fun (W : World) (hb : Below w.heap.size w W) => refJumps_any _ n1 c1 a W (h1.below hb) hn1)
      have hJB := Lib.hid (fun (W : World) (hb : Below w.heap.size w W) => refJumps_any _ n2 c2 b W (h2.below hb) hn2)
      generalize w1.drewN nq = W1 at *
      have hla := h1.len
      have hlb := h2.len
      have hja1 : (jmps a 0).length ≤ n1 := by have := jmps_length a 0; omega
      have hjb1 : (jmps b 0).length ≤ n2 := by have := jmps_length b 0; omega
      have hjb2 : ∀ i ∈ jmps b 0, i < n2 := by rw [← hlb]; exact jmps_bound b 0
      have hJJ : jmps (a ++ b) 0 = jmps a 0 ++ (jmps b 0).map (· + n1) := by rw [← hla]; exact jmps_append a b HEnd.out
      have HR := Lib.hid (getD_append_rng a b h1.rng h2.rng)
      have HLL : Hid ((a ++ b).length = n1 + n2) := Lib.hid (by rw [List.length_append, hla, hlb])
      have HJ := Lib.hid hJJ
      clear hJJ HEnd hla hlb
      generalize jmps a 0 = ja at *
      generalize jmps b 0 = jb at *
      have HJB := Lib.hid hjb2; clear hjb2
      go_wp2_with fail
      refine (hJA.out _ hbA).mono ?_
      rintro e w2 ⟨va, rfl, howna, hb2⟩
      have hbB := hbA.trans (hb2.mono hbA.size)
      go_wp2_with fail
      refine (hJB.out _ hbB).mono ?_
      rintro e w3 ⟨vb, rfl, hownb, hb3⟩
      have howna3 := own_below howna hb3
      have hlt1 := howna.lt
      obtain ⟨M, cm, rfl, hMc, hM⟩ := owns_ints hownb
      have hbC := hbB.trans (hb3.mono hbB.size)
      have hst : Hid (JoinInv w w2 w3 w.heap.size n1 ja jb 0 va w3) := Lib.hid ⟨by simpa using own_weaken' howna3 hbA.size, fun k hk => .inl (hlt1 k hk).2, Nat.le_refl _, fun _ _ _ => rfl, hbC⟩
      clear hlt1 howna3 howna hownb hJA hJB hb2 hb3 hbB hbA
      go_wp2
      go_loopw [6, 8] (fun v i wr => ∃ j : Nat, j ≤ jb.length ∧ i = .int .i64 j ∧ JoinInv w w2 w3 w.heap.size n1 ja jb j v wr) (fun _ i _ => jb.length - (intOf i).toNat)
      case atStart => exact ⟨0, by omega, rfl, hst.out⟩
      case round =>
        obtain ⟨j, hj, rfl, hinv⟩ := hrel
        clear hst
        have HI := Lib.hid hinv
        by_cases hlt : j < jb.length
        · obtain ⟨g', rfl, hg1', hg2', hcj⟩ := hM.cell j hlt
          have hcj' : _ = _ := (World.cell?_of_block (a := ⟨g', j, none⟩) (hinv.keep g' hg1' hg2')).trans hcj
          have hkn := HJB.out _ (List.getElem_mem hlt)
          have hke : jb.getD j 0 = jb[j] := by simp [List.getD, hlt]
          rw [← hke] at hkn
          have hbw' := hinv.below.size
          obtain ⟨i0, hi, hz0, hz1, hz2⟩ := info_parts info3'
          have hstep := fun v' w' o => hinv.step (v' := v') (w' := w') (o := o) hlt hbw'
          have hown := hinv.own
          generalize i64s (ja ++ (jb.take j).map (· + n1)) = xs at *
          obtain ⟨k, hk⟩ : ∃ k, jb.getD j 0 = k := ⟨_, rfl⟩
          rw [hk] at hcj' hkn hcj hstep
          have HSTEP := Lib.hid hstep
          clear hke hk hcj hstep
          have hx1 := hown.alloc (.cells #[.int .i64 ((k : Int) + n1)] 3)
          have hx3 : ∀ u ∈ [Value.int .i64 ((k : Int) + n1)], u.oneCell' = true := by simp [Value.oneCell']
          have hx2 := cell_one_new wr (.int .i64 ((k : Int) + n1)) 3
          have b1 : ja.length + j + 1 ≤ maxLen := by unfold maxLen; omega
          have b2 : (ja.length + j + 1) * 8 ≤ 140737488355328 := by omega
          have b3 : w.heap.size ≤ (wr.alloc (.cells #[.int .i64 ((k : Int) + n1)] 3)).heap.size := by simp; omega
          clear hinv hown
          go_wp2_with (at_builtin; refine wpList_append_own_at _ rfl _ _ 23 rfl w.heap.size 3 i0 (.int .i64 0) 1 8 Tryd.underlying23 hi hz0 hz1 hz2 rfl (by decide) _ _ _ rfl hx1 ⟨wr.heap.size, 0, none⟩ 1 1 [.int .i64 ((k : Int) + n1)] rfl rfl hx2 hx3 b1 b2 b3 ?_; intro v' w9 hown9 hgrow9 hnil9 hat9; have hinv9 := HSTEP.out v' w9 _ hown9 hgrow9 hat9; clear hown9 hgrow9 hnil9 hat9 hx1 hx2 hx3)
          exact ⟨⟨j + 1, by omega, by go_num, hinv9⟩, by simp [intOf]; omega⟩
        · have hown := hinv.own
          have e : ja ++ (jb.take j).map (· + n1) = jmps (a ++ b) 0 := by rw [HJ.out, List.take_of_length_le (by omega)]
          have e' : ja.length + j = (jmps (a ++ b) 0).length := by rw [HJ.out]; simp; omega
          rw [e, e'] at hown
          obtain ⟨A, c, rfl, hAc, hI⟩ := owns_ints hown
          have hbw := hinv.below
          have hlen : (jmps (a ++ b) 0).length ≤ 1048576 := by rw [← e']; omega
          clear hinv hown e e' hM
          have hKJ := Lib.hid (fun (g c : Nat) (W : World) (hc : (a ++ b).length ≤ c) (hI : BytesAt W g 0 (a ++ b)) => Jumps_any g 0 c (a ++ b) (by rw [HLL.out]; omega) hc W hI)
          generalize jmps (a ++ b) 0 = jab at *
          have hx0 := owns_bytes_empty wr
          have hb0 := (Below.refl wr.heap.size wr).alloc (Nat.le_refl _) (.cells #[] 5)
          have hB1 := h1.below (hbw.trans (hb0.mono hbw.size))
          generalize hV1 : Value.slice A1 n1 c1 = V1
          have HV1 := Lib.hid hV1.symm; clear hV1
          generalize hV2 : Value.slice A2 n2 c2 = V2
          have HV2 := Lib.hid hV2.symm; clear hV2
          go_wp2_with (first | (at_builtin; refine wpList_append_bytes rfl _ _ rfl wr.heap.size _ 0 [] rfl hx0 _ n1 c1 a HV1.out hB1 Z1.out (by omega) (by simp) ?_; intro v4 w4 hown4 hgrow4 hnil4; have hn4 : v4 ≠ .slice none 0 0 := (fun e => by have e' : Value.slice (some ⟨wr.heap.size, 0, none⟩) 0 0 = .slice none 0 0 := (hnil4.1 e).1; cases e'); have hb4 : Below wr.heap.size wr w4 := hb0.grown hgrow4 (by simp) (fun k hk => by have hk' : some wr.heap.size = some k := hk; cases hk'; exact Nat.le_refl _); clear hnil4 hgrow4 hx0 hb0 hB1; have hB2 := h2.below (hbw.trans (hb4.mono hbw.size))) | (at_builtin; (refine wpList_append_bytes rfl _ _ rfl wr.heap.size _ _ _ rfl hown4 _ n2 c2 b HV2.out hB2 Z2.out (by omega) hb4.size ?_); intro v5 w5 hown5 hgrow5 hnil5; (have hn5 : v5 ≠ .slice none 0 0 := (fun e => hn4 (hnil5.1 e).1)); (have hb5 : Below wr.heap.size wr w5 := hb4.grown hgrow5 hb4.size (fun k e => own_base' hown4 k e))))
          have eu : [] ++ u8s a ++ u8s b = u8s (a ++ b) := by simp [u8s]
          rw [eu] at hown5
          clear hnil5 hgrow5 hB2 hn4 hown4 eu
          obtain ⟨g, c', rfl, hc', hg', hBA, hn⟩ := owns_bytes hown5 hn5 HR.out
          clear hown5 hn5
          have hK := Lib.hid (hKJ.out g c' w5 hc' hBA)
          clear hKJ
          refine hK.out.mono ?_
          rintro e w6 ⟨v6, rfl, hown6, hb6⟩
          obtain ⟨A6, c6, rfl, _, hI6⟩ := owns_ints hown6
          have hb7 := hb5.trans (hb6.mono hb5.size)
          have hI7 := hI.below hb7
          have hbZ := hbw.trans (hb7.mono hbw.size)
          have hS := Lib.hid (same_true A6 A c6 c _ _ jab w6 hI6 hI7 (by omega))
          clear hown6 hK hI hI6 hI7 hb6 hb5 hb7 hBA hb4
          go_wp2_with fail
          refine hS.out.mono ?_
          rintro e w7 ⟨rfl, hb8⟩
          have hbY := hbZ.trans (hb8.mono hbZ.size)
          go_wp2_with fail
          refine (lives_any _ (HT0.out.below hbY)).mono ?_
          rintro e w8 ⟨rfl, hb9⟩
          have hbX := hbY.trans (hb9.mono hbY.size)
          go_wp2
          go_ret
          exact ⟨rfl, hbX⟩
end Go.Proofs.YtkelpkpbkebphaaDoor
