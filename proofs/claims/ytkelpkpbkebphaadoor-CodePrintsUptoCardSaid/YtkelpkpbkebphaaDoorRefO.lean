/- The document's walk through a code. -/
import Derived.Deep.QuietTactic
import Derived.BigQuiet
import Derived.Test.YtkelpkpbkebphaaDoorLives
namespace Go.Proofs.YtkelpkpbkebphaaDoor
open Go.RowKit Go.Shelf Go.Proofs

/-- A slice of bytes, nil or not: what it holds. -/
structure Bytes (w : World) (A : Option Addr) (n : Nat) (bs : List Int) : Prop where
  len : bs.length = n
  cell : ∀ k, k < n → ∃ b off, A = some ⟨b, off, none⟩ ∧ b < w.heap.size ∧ w.cell? ⟨b, off + k, none⟩ = some (.int .u8 (bs.getD k 0))
  rng : ∀ i, 0 ≤ bs.getD i 0 ∧ bs.getD i 0 < 256
theorem Bytes.below {w w' : World} {A : Option Addr} {n : Nat} {bs : List Int} (h : Bytes w A n bs) (hb : Below w.heap.size w w') : Bytes w' A n bs :=
  ⟨h.len, fun k hk => by
    obtain ⟨b, off, hA, hlt, hc⟩ := h.cell k hk
    exact ⟨b, off, hA, Nat.lt_of_lt_of_le hlt hb.size, (hb.cell (p := ⟨b, off + k, none⟩) hlt).trans hc⟩, h.rng⟩

theorem owns_empty (w : World) : (w.alloc (.cells #[] 3)).ownsRow w.heap.size 3 1 (.slice (some ⟨w.heap.size, 0, none⟩) 0 0) 0 [] :=
  ⟨rfl, .inr ⟨w.heap.size, 0, #[], rfl, Nat.le_refl _, heap_alloc_new _ _, Nat.le_refl _, Nat.zero_le _, rfl, rfl⟩⟩

theorem own_base' {w : World} {base : Nat} {e : TypeId} {size n : Nat} {v : Value} {xs : List Value} (h : w.ownsRow base e size v n xs) (k : Nat) (hk : v.ownBlock = some k) : base ≤ k := by
  obtain ⟨_, ⟨rfl, _⟩ | ⟨g, cap, cur, rfl, hg, _⟩⟩ := h
  · simp [Value.ownBlock] at hk
  · simp [Value.ownBlock] at hk; omega

set_option maxRecDepth 100000 in
set_option maxHeartbeats 400000 in
theorem refOrders_any (A : Option Addr) (n c : Nat) (bs : List Int) (w : World) (hB : Bytes w A n bs) (hn : n ≤ 1048576) :
    Calls Tryd.prog 9 #[.slice A n c] w fun e w' => ∃ v, e = .returned v ∧ w'.ownsRow w.heap.size 3 1 v (ords bs 0).length (i64s (ords bs 0)) ∧ Below w.heap.size w w' := by
  obtain ⟨i0, hi, hz0, hz1, hz2⟩ := info_parts info3'
  go_enter Tryd.func9, Tryd.ntmps9
  go_wp2
  have h0 := Lib.hid (owns_empty w)
  have hb0 := Lib.hid ((Below.refl w.heap.size w).alloc (Nat.le_refl _) (.cells #[] 3))
  go_loopw [3, 4] (fun v i wr => ∃ (k : Nat) (pre : List Nat), k ≤ n + 32 ∧ i = .int .i64 k ∧ pre ++ ords bs k = ords bs 0 ∧ wr.ownsRow w.heap.size 3 1 v pre.length (i64s pre) ∧ Below w.heap.size w wr)
    (fun _ i _ => n + 32 - (intOf i).toNat)
  case atStart => exact ⟨0, [], by omega, rfl, rfl, h0.out, hb0.out⟩
  case round =>
    obtain ⟨k, pre, hk, rfl, hpre, hown, hbw⟩ := hrel
    clear h0 hb0
    have hlen := hB.len
    by_cases hlt : k < n
    · have hpl : pre.length < n := by
        have h1 := congrArg List.length hpre
        have h2 := ords_length bs 0
        rw [ords_lt (by omega)] at h1
        simp only [List.length_append, List.length_cons] at h1
        omega
      have hpre2 : (pre ++ [k]) ++ ords bs (k + 1 + pushN (bs.getD k 0)) = ords bs 0 := by
        rw [← hpre, ords_lt (b := bs) (k := k) (by omega)]; simp
      have HP := Lib.hid hpre2
      clear hpre hpre2
      obtain ⟨b, off, rfl, hb, hcell0⟩ := hB.cell k hlt
      have hcell := (hbw.cell (p := ⟨b, off + k, none⟩) hb).trans hcell0
      clear hcell0
      have hr := hB.rng k
      have HL := Lib.hid hlen; clear hlen
      obtain ⟨x, hxq⟩ : ∃ x : Nat, bs.getD k 0 = x := ⟨(bs.getD k 0).toNat, by omega⟩
      rw [hxq] at hcell hr
      have HX := Lib.hid hxq; clear hxq
      have hx256 : x < 256 := by omega
      have hq32 := pushN_le x
      obtain ⟨q, hqq⟩ : ∃ q, pushN x = q := ⟨_, rfl⟩
      rw [hqq] at hq32
      have hpu : Hid (∀ W, Calls Tryd.prog 10 #[.int .u8 x] W fun e w' => e = .returned (.int .i64 q) ∧ W = w') := by
        intro W; rw [← hqq]; exact refPush_any x W hx256
      have HQ := Lib.hid hqq; clear hqq
      have hx1 := hown.alloc (.cells #[.int .i64 (k : Nat)] 3)
      have hx3 : ∀ u ∈ [Value.int .i64 (k : Nat)], u.oneCell' = true := by simp [Value.oneCell']
      have hx2 := cell_one_new wr (.int .i64 (k : Nat)) 3
      have b1 : pre.length + 1 ≤ maxLen := by unfold maxLen; omega
      have b2 : (pre.length + 1) * 8 ≤ 140737488355328 := by omega
      have b3 : w.heap.size ≤ (wr.alloc (.cells #[.int .i64 (k : Nat)] 3)).heap.size := by have := hbw.size; simp; omega
      have hwb := hbw.alloc hbw.size (.cells #[.int .i64 (k : Nat)] 3)
      have harm : ∀ (v' : Value) (w1 : World), (wr.alloc (.cells #[.int .i64 (k : Nat)] 3)).grownBy w1 u3.ownBlock → Below w.heap.size w w1 ∧ w1.cell? ⟨b, off + k, none⟩ = some (.int .u8 x) := by
        intro v' w1 hg
        have hb1 : Below w.heap.size w w1 := hwb.grown hg b3 (fun k e => own_base' hx1 k e)
        refine ⟨hb1, ?_⟩
        have h1 := hb1.cell (p := ⟨b, off + k, none⟩) hb
        have h2 := hbw.cell (p := ⟨b, off + k, none⟩) hb
        exact (h1.trans h2.symm).trans hcell
      have HARM := Lib.hid harm; clear harm
      go_wp2_with (first | (at_builtin; refine wpList_append_own _ rfl _ _ 23 rfl w.heap.size 3 i0 (.int .i64 0) 1 8 Tryd.underlying23 hi hz0 hz1 hz2 rfl (by decide) _ _ _ rfl hx1 ⟨wr.heap.size, 0, none⟩ 1 1 [.int .i64 (k : Nat)] rfl rfl hx2 hx3 b1 b2 b3 ?_; intro v' w1 hown' hgrow hnil; obtain ⟨hb1, hcell1⟩ := HARM.out v' w1 hgrow; clear hgrow hnil) | (go_at_call 10; refine (hpu.out _).mono ?_; rintro e w2 ⟨rfl, rfl⟩))
      refine ⟨⟨k + 1 + q, pre ++ [k], by omega, by go_num, ?_, by simpa using hown', hb1⟩, by simp [intOf]; omega⟩
      have h := HP.out
      rw [HX.out, HQ.out] at h
      exact h
    · have hpre' : pre = ords bs 0 := by rw [← hpre, ords_ge (by omega), List.append_nil]
      rw [hpre'] at hown
      clear hpre hpre' hlen
      go_wp2
      go_ret
      exact ⟨_, rfl, hown, hbw⟩
end Go.Proofs.YtkelpkpbkebphaaDoor
