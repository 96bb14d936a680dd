/- The program's walk through a code, and where may be jumped to. -/
import Derived.RangeFuncBox
import Derived.RangeFuncLeaves
import Derived.RangeFuncWrites
import Derived.RangeFuncNested
import Derived.RangeFuncCalls
import Derived.Shelf.Abstract
import Derived.WalkKit
import Derived.OwnWalkIn
import Derived.TacticsInMore
import Derived.LoopNIn
import Derived.LoopIn
import Derived.Maps.AppendAt
import Derived.Sort.QuietIn
import Derived.Test.YtkelpkpbkebphaaDoorOf3
namespace Go.Proofs.YtkelpkpbkebphaaDoor
open Go.RowKit Go.Shelf Go.Proofs

attribute [local go_sem] Oper.semAt_some

/-- A slice of bytes that is not nil: where it lies, and what it holds. -/
structure BytesAt (w : World) (b off : Nat) (bs : List Int) : Prop where
  lt : b < w.heap.size
  cell : ∀ i, i < bs.length → w.cell? ⟨b, off + i, none⟩ = some (.int .u8 (bs.getD i 0))
  rng : ∀ i, 0 ≤ bs.getD i 0 ∧ bs.getD i 0 < 256

theorem BytesAt.below {w w' : World} {b off : Nat} {bs : List Int} {B : Nat} (h : BytesAt w b off bs) (hb : Below B w w') (hB : b < B) : BytesAt w' b off bs :=
  ⟨Nat.lt_of_lt_of_le h.lt hb.size, fun i hi => (hb.cell (p := ⟨b, off + i, none⟩) hB).trans (h.cell i hi), h.rng⟩

abbrev Place (n : Nat) := { k : Nat // k < n }
def endOf (bs : List Int) (k : Nat) : Nat := min (k + 1 + pushN (bs.getD k 0)) bs.length
abbrev encO (b off : Nat) (bs : List Int) (cap : Nat) (x : Place bs.length) : Array Value :=
  #[.int .i64 (x.1 : Nat), .slice (some ⟨b, off + x.1, none⟩) (endOf bs x.1 - x.1) (cap - x.1)]

set_option maxRecDepth 100000 in
theorem pushes_in (F : Fence) (n : Nat) (h32 : F.fn 32) (hro : F.round = none) (op : Nat) (w : World) (hop : op < 256) :
    CallsIn F n Tryd.prog 32 #[.int .u8 op] w fun e w' => e = .returned (.int .i64 (pushN op)) ∧ w' = w := by
  by_cases h1 : op < 96
  · have e : pushN op = 0 := by unfold pushN; rw [if_neg (by omega)]
    rw [e]; clear e
    refine callsIn_of_wp Tryd.func32 rfl h32 ?_ hro
    simp only [Tryd.ntmps32, List.size_toArray, List.length_cons, List.length_nil, Nat.reduceAdd, Nat.reduceSub, Array.replicate_succ, Array.replicate_zero, List.push_toArray, List.append_toArray, List.nil_append, List.cons_append]
    gi_wp2
    go_ret
    exact ⟨rfl, rfl⟩
  · by_cases h2 : 127 < op
    · have e : pushN op = 0 := by unfold pushN; rw [if_neg (by omega)]
      rw [e]; clear e
      refine callsIn_of_wp Tryd.func32 rfl h32 ?_ hro
      simp only [Tryd.ntmps32, List.size_toArray, List.length_cons, List.length_nil, Nat.reduceAdd, Nat.reduceSub, Array.replicate_succ, Array.replicate_zero, List.push_toArray, List.append_toArray, List.nil_append, List.cons_append]
      gi_wp2
      go_ret
      exact ⟨rfl, rfl⟩
    · have e : pushN op = op - 95 := by unfold pushN; rw [if_pos (by omega)]; omega
      have e2 : ((op - 95 : Nat) : Int) = (op : Int) - 96 + 1 := by omega
      rw [e, e2]
      clear e e2
      refine callsIn_of_wp Tryd.func32 rfl h32 ?_ hro
      simp only [Tryd.ntmps32, List.size_toArray, List.length_cons, List.length_nil, Nat.reduceAdd, Nat.reduceSub, Array.replicate_succ, Array.replicate_zero, List.push_toArray, List.append_toArray, List.nil_append, List.cons_append]
      gi_wp2
      go_ret
      exact ⟨rfl, rfl⟩

/-- What a round that goes on keeps: all that lay below, and the box of the code. -/
structure KpO (n₀ Bs : Nat) (A B : World) : Prop where
  below : Below n₀ A B
  box : ∀ v, Boxed A Bs 22 v → Boxed B Bs 22 v
theorem KpO.refl (n₀ Bs : Nat) (A : World) : KpO n₀ Bs A A := ⟨Below.refl _ _, fun _ h => h⟩
theorem KpO.trans {n₀ Bs : Nat} {A B C : World} (h : KpO n₀ Bs A B) (k : KpO n₀ Bs B C) : KpO n₀ Bs A C := ⟨h.below.trans k.below, fun v hv => k.box v (h.box v hv)⟩

set_option maxRecDepth 100000 in
set_option maxHeartbeats 2000000 in
theorem orders1_in (F : Fence) (n : Nat) (h48 : F.fn 48) (h32 : F.fn 32) (hro : F.round = none) (hn : 2 ≤ n) (W : World) (l Bs n₀ b off cap : Nat) (bs : List Int) (hlen : bs.length ≤ 1048576) (hcap : bs.length ≤ cap) (hb : b < n₀) (J Jx : List (Place bs.length) → World → Prop) (hJ : ∀ s A B row, J s A → A.grownBy B row → (∀ r, row = some r → W.heap.size ≤ r ∧ ∃ o : Obj, A.heap[r]? = some o ∧ o.isWalk = true) → J s B)
    (hY : ∀ pre x W, J pre W → pre.length < bs.length → YieldAt F (n - 1) Tryd.prog l (encO b off bs cap x) W fun e W' =>
      (e = .returned (.bool true) ∧ J (pre ++ [x]) W' ∧ KpO n₀ Bs W W') ∨ (e = .returned (.bool false) ∧ Jx (pre ++ [x]) W'))
    (hBs : Boxed W Bs 22 (.slice (some ⟨b, off, none⟩) bs.length cap)) (hc : BytesAt W b off bs) (h0 : J [] W) :
    CallsIn F n Tryd.prog 48 #[.func (.yield l) #[] #[], .pointer (some ⟨Bs, 0, none⟩)] W fun e W' => (∃ v, e = .returned v) ∧
      ((∃ ys, ys.map Subtype.val = ords bs 0 ∧ J ys W') ∨ (∃ pre : List (Place bs.length), True ∧ Jx pre W')) := by
  refine callsIn_of_wp Tryd.func48 rfl h48 ?_ hro
  simp only [Tryd.ntmps48, List.size_toArray, List.length_cons, List.length_nil, Nat.reduceAdd, Nat.reduceSub, Array.replicate_succ, Array.replicate_zero, List.push_toArray, List.append_toArray, List.nil_append, List.cons_append]
  have hBs0 := hBs.cell
  gi_wp2
  clear hBs0
  gi_loopw [3] (fun i wr => ∃ (k : Nat) (pre : List (Place bs.length)), k ≤ bs.length ∧ i = .int .i64 k ∧ pre.map Subtype.val ++ ords bs k = ords bs 0 ∧ J pre wr ∧ KpO n₀ Bs W wr)
    (fun i _ => bs.length - (intOf i).toNat)
  case atStart => exact ⟨0, [], Nat.zero_le _, rfl, rfl, h0, KpO.refl _ _ _⟩
  case round =>
    obtain ⟨k, pre, hk, rfl, hpre, hJs, hnx⟩ := hrel
    have hbox := (hnx.box _ hBs).cell
    have hcs := hc.below hnx.below hb
    by_cases hlt : k < bs.length
    · have hcell := hcs.cell k hlt
      have hr := hc.rng k
      have hp := pushN_le (bs.getD k 0)
      have hpl : pre.length < bs.length := by
        have h1 := congrArg List.length hpre
        have h2 := ords_length bs 0
        rw [ords_lt hlt] at h1
        simp only [List.length_append, List.length_map, List.length_cons] at h1
        omega
      have HP := Lib.hid hpre; clear hpre
      obtain ⟨c, hcq⟩ : ∃ c : Nat, bs.getD k 0 = c := ⟨(bs.getD k 0).toNat, by omega⟩
      rw [hcq] at hcell hr hp
      have HC := Lib.hid hcq; clear hcq
      obtain ⟨q, hqq⟩ : ∃ q : Nat, pushN c = q := ⟨_, rfl⟩
      have hq32 : q ≤ 32 := by rw [← hqq]; exact pushN_le _
      have hcl : c < 256 := by omega
      have hpu : Hid (∀ W, CallsIn F (n - 1) Tryd.prog 32 #[.int .u8 c] W fun e w' => e = .returned (.int .i64 q) ∧ w' = W) := by
        intro W; rw [← hqq]; exact pushes_in F (n - 1) h32 hro c W (by omega)
      have HQ := Lib.hid hqq; clear hqq hp
      have hi : (k : Int) < bs.length := by omega
      gi_wp2_with fail
      refine wpIn_region_quiet_lit hro (by kernel_rfl) (by kernel_rfl) ?_
      have h1n : F.depth.isSome = true → 1 ≤ n := fun _ => by omega
      repeat (gi_big_quiet_step (exact ⟨fun _ => by omega, CallsIn.quiet_of_same (hpu.out _)⟩))
      refine wpQuietIn_nil ?_
      intro w1 hw1
      obtain ⟨nq, rfl⟩ := hw1
      have hen : endOf bs k = min (k + 1 + q) bs.length := by unfold endOf; rw [HC.out, HQ.out]
      have hmi : min ((k : Int) + 1 + q) bs.length = ((endOf bs k : Nat) : Int) := by rw [hen]; omega
      obtain ⟨fn, tmps, assign, body, hy, hR⟩ := hY pre ⟨k, hlt⟩ (wr.drewN nq) (hJ _ _ _ none hJs ⟨rfl, rfl, rfl, Nat.le_refl _, fun _ _ _ => rfl⟩ (fun r e => by cases e)) hpl
      have harg : encO b off bs cap ⟨k, hlt⟩ = #[.int .i64 (k : Nat), .slice (some ⟨b, off + k, none⟩) ((min ((k : Int) + 1 + q) bs.length).toNat - k) (cap - k)] := by
        rw [hmi]; simp
      rw [harg] at hy
      have HM := Lib.hid hmi; have HE := Lib.hid hen
      clear harg hmi hen
      gi_wp2
      refine ⟨fun _ => by omega, hR.mono ?_⟩
      rintro e W3 (⟨rfl, hJ3, hk3⟩ | ⟨rfl, hJx3⟩)
      · gi_wp2
        go_roundw
        case rel =>
          refine ⟨endOf bs k, pre ++ [⟨k, hlt⟩], Nat.min_le_right _ _, by rw [HM.out], ?_, hJ3, (hnx.trans (⟨⟨rfl, rfl, rfl, Nat.le_refl _, fun _ _ => rfl⟩, fun _ h => h⟩ : KpO n₀ Bs wr (wr.drewN nq))).trans hk3⟩
          have hE := HE.out
          rw [← HP.out, List.map_append, List.append_assoc, ords_lt hlt, HC.out, HQ.out]
          congr 1
          show k :: ords bs (endOf bs k) = _
          congr 1
          by_cases hle : k + 1 + q ≤ bs.length
          · rw [hE, Nat.min_eq_left hle]
          · rw [hE, Nat.min_eq_right (by omega), ords_ge (Nat.le_refl _), ords_ge (by omega)]
        case measure => simp [intOf]; omega
      · gi_wp2
        refine bodyPost_ret (results_none rfl _ _ _) rfl ?_
        exact ⟨⟨_, rfl⟩, .inr ⟨_, trivial, hJx3⟩⟩
    · obtain rfl : k = bs.length := by omega
      gi_wp2
      go_end0
      refine ⟨⟨_, rfl⟩, .inl ⟨pre, ?_, hJs⟩⟩
      rw [← hpre, ords_ge (Nat.le_refl _), List.append_nil]
end Go.Proofs.YtkelpkpbkebphaaDoor
