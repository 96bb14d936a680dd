/- Where may be jumped to: the program's function. -/
import Derived.Test.YtkelpkpbkebphaaDoorJumps
namespace Go.Proofs.YtkelpkpbkebphaaDoor
open Go.RowKit Go.Shelf Go.Proofs

attribute [local go_sem] Oper.semAt_some

theorem orders_in (F : Fence) (n : Nat) (h34 : F.fn 34) (hro : F.round = none) (a : Option Addr) (len cap : Nat) (w : World) :
    CallsIn F n Tryd.prog 34 #[.slice a len cap] w fun e w' => e = .returned (.func (.func 48) #[] #[.pointer (some ⟨w.heap.size, 0, none⟩)]) ∧ w' = w.alloc (.cells #[.slice a len cap] 22) := by
  refine callsIn_of_wp Tryd.func34 rfl h34 ?_ hro
  simp only [Tryd.ntmps34, List.size_toArray, List.length_cons, List.length_nil, Nat.reduceAdd, Nat.reduceSub, Array.replicate_succ, Array.replicate_zero, List.push_toArray, List.append_toArray, List.nil_append, List.cons_append]
  gi_wp2
  go_ret
  exact ⟨rfl, rfl⟩

theorem orders_stops (F : Fence) (n : Nat) (h48 : F.fn 48) (h32 : F.fn 32) (hro : F.round = none) (hn : 2 ≤ n) (Bs n₀ b off cap : Nat) (bs : List Int) (hlen : bs.length ≤ 1048576) (hcap : bs.length ≤ cap) (w : World)
    (hn₀ : n₀ ≤ w.heap.size) (hb : b < n₀) (hc : Boxed w Bs 22 (.slice (some ⟨b, off, none⟩) bs.length cap)) (hI : BytesAt w b off bs) :
    SeqStopsK F n Tryd.prog 48 #[.pointer (some ⟨Bs, 0, none⟩)] (encO b off bs cap) (KpO n₀ Bs) (fun ys => ys.map Subtype.val = ords bs 0) (fun _ => True) bs.length w := fun l J Jx W hW hJ _ hY h0 => by
  have hB := hI.below hW (Nat.lt_of_lt_of_le hb hn₀)
  have hc' : Boxed W Bs 22 (.slice (some ⟨b, off, none⟩) bs.length cap) := (hW.block Bs hc.lt).trans hc
  exact orders1_in F n h48 h32 hro hn W l Bs n₀ b off cap bs hlen hcap hb J Jx hJ hY hc' hB h0

theorem info3' : (Tryd.prog.info? 3).map (fun i => (i.zero, i.size, i.bytes)) = some (some (.int .i64 0), 1, 8) := by kernel_rfl

def destsOf (bs : List Int) (pre : List (Place bs.length)) : List Nat := (pre.map Subtype.val).filter (isDest bs)
theorem dests_hit {bs : List Int} (pre : List (Place bs.length)) (x : Place bs.length) (h : bs.getD x.1 0 = 91) : destsOf bs (pre ++ [x]) = destsOf bs pre ++ [x.1] := by
  have : isDest bs x.1 = true := by unfold isDest; rw [h]; rfl
  unfold destsOf
  rw [List.map_append, List.filter_append]; congr 1
  exact List.filter_cons_of_pos this
theorem dests_miss {bs : List Int} (pre : List (Place bs.length)) (x : Place bs.length) (h : ¬ bs.getD x.1 0 = 91) : destsOf bs (pre ++ [x]) = destsOf bs pre := by
  have : ¬ isDest bs x.1 = true := by unfold isDest; simpa using h
  unfold destsOf
  rw [List.map_append, List.filter_append, show ([x].map Subtype.val).filter (isDest bs) = [] from List.filter_cons_of_neg this, List.append_nil]
theorem dests_len {bs : List Int} (pre : List (Place bs.length)) : (destsOf bs pre).length ≤ pre.length := by
  unfold destsOf
  have := List.length_filter_le (isDest bs) (pre.map Subtype.val)
  simpa using this

abbrev i64s (l : List Nat) : List Value := l.map fun k => .int .i64 (k : Nat)

set_option maxRecDepth 100000 in
set_option maxHeartbeats 2000000 in
theorem jumps_in (F : Fence) (n : Nat) (h28 : F.fn 28) (h34 : F.fn 34) (h48 : F.fn 48) (h32 : F.fn 32) (hro : F.round = none) (hn : 4 ≤ n) (b off cap : Nat) (bs : List Int) (hlen : bs.length ≤ 1048576) (hcap : bs.length ≤ cap) (w : World) (hI : BytesAt w b off bs) :
    CallsIn F n Tryd.prog 28 #[.slice (some ⟨b, off, none⟩) bs.length cap] w fun e W' => ∃ v, e = .returned v ∧ W'.ownsRow w.heap.size 3 1 v (jmps bs 0).length (i64s (jmps bs 0)) ∧ Below w.heap.size w W' := by
  have h1 : 1 ≤ n := by omega
  obtain ⟨i0, hi, hz0, hz1, hz2⟩ := info_parts info3'
  refine callsIn_of_wp_marks Tryd.func28 rfl h28 ?_ hro
  simp only [Tryd.ntmps28, List.size_toArray, List.length_cons, List.length_nil, Nat.reduceAdd, Nat.reduceSub, Array.replicate_succ, Array.replicate_zero, List.push_toArray, List.append_toArray, List.nil_append, List.cons_append]
  gi_wp2_with (gi_at_call 34; refine (orders_in F (n - 1) h34 hro _ _ _ _).mono ?_; rintro e w' ⟨rfl, rfl⟩)
  have bO := Boxed.new w 23 (.slice none 0 0)
  have bN := Boxed.new (w.alloc (.cells #[.slice none 0 0] 23)) 22 (.slice (some ⟨b, off, none⟩) bs.length cap)
  rw [World.size_alloc] at bN
  have hB0 : Below w.heap.size w ((w.alloc (.cells #[.slice none 0 0] 23)).alloc (.cells #[.slice (some ⟨b, off, none⟩) bs.length cap] 22)) := ((Below.refl _ w).alloc (Nat.le_refl _) _).alloc (by simp) _
  have hI0 := hI.below hB0 hI.lt
  refine wpIn_rangeFunc_ownG hro h1 (gf := 48) (lb := #[.pointer (some ⟨w.heap.size + 1, 0, none⟩)]) rfl h48 (enters_of Tryd.func48 (by kernel_rfl) rfl)
    (orders_stops F (n - 1) h48 h32 hro (by omega) (w.heap.size + 1) w.heap.size b off cap bs hlen hcap _ (by simp; omega) hI.lt bN hI0) KpO.trans
    (fun W l o o' hl ho hc hw => ⟨belowK_b (by simp; omega) W l o o' hl ho hc hw, fun v hv => hv.kept (grownBy_putObj' W l o') (fun e => by cases e; exact absurd (ho.symm.trans hv) (by intro h; cases h; exact absurd hc (by simp [Obj.isCells])))⟩)
    (Below.refl _ _) (fun _ => rfl)
    (fun pre W => ((∃ v, Boxed W w.heap.size 23 v ∧ W.ownsRow w.heap.size 3 1 v (destsOf bs pre).length (i64s (destsOf bs pre)) ∧ True) ∧ Boxed W (w.heap.size + 1) 22 (.slice (some ⟨b, off, none⟩) bs.length cap)) ∧ Below w.heap.size w W)
    (fun _ _ _ => False)
    (OwnFrom.and (OwnFrom.and (Own.from (holdsRow_own w.heap.size w.heap.size 23 3 1 (fun pre => (destsOf bs pre).length) (fun pre => i64s (destsOf bs pre)) (fun pre v => True)) _) (Own.from (boxed_own (w.heap.size + 1) 22 (fun _ => .slice (some ⟨b, off, none⟩) bs.length cap)) _)) (ownFrom_below (Nat.le_refl _) (by simp; omega)))
    (fun _ _ _ _ _ hs _ _ => hs)
    ⟨⟨⟨_, bO.alloc _, World.ownsRow_nil _ _ _ _, trivial⟩, bN⟩, hB0⟩
    (fun x => { tmps := #[.slice (some ⟨b, off, none⟩) bs.length cap, undef, .slice none 0 0, .pointer (some ⟨w.heap.size, 0, none⟩), .int .i64 (x.1 : Nat), .slice (some ⟨b, off + x.1, none⟩) (endOf bs x.1 - x.1) (cap - x.1), .slice (some ⟨b, off, none⟩) bs.length cap, .func (.func 48) #[] #[.pointer (some ⟨w.heap.size + 1, 0, none⟩)], .int .i64 (x.1 : Nat), .slice (some ⟨b, off + x.1, none⟩) (endOf bs x.1 - x.1) (cap - x.1), undef, undef, undef, undef, undef, undef, undef, undef, undef], defers := [] }) ?assign ?body ?done ?stop
  case assign =>
    intro l x W K hK
    gi_wp2
    exact hK
  case body =>
    rintro l pre x W ⟨⟨⟨v, hv, hrow, _⟩, hbx⟩, hB⟩ hlt
    have hc := hv.cell
    have hf := hv.frozen
    have hpl := dests_len pre
    have hcs := (hI.below hB hI.lt).cell x.1 x.2
    have hm : 0 < endOf bs x.1 - x.1 := by have := x.2; unfold endOf; omega
    obtain ⟨c, hcq⟩ : ∃ c : Int, bs.getD x.1 0 = c := ⟨_, rfl⟩
    rw [hcq] at hcs
    have HC := Lib.hid hcq; clear hcq
    obtain ⟨m, hmq⟩ : ∃ m : Nat, endOf bs x.1 - x.1 = m := ⟨_, rfl⟩
    rw [hmq] at hm ⊢
    clear hmq
    obtain ⟨k, hk⟩ := x
    dsimp only at *
    have b1 : (destsOf bs pre).length + 1 ≤ maxLen := by unfold maxLen; omega
    have b2 : ((destsOf bs pre).length + 1) * 8 ≤ 140737488355328 := by omega
    have b3 : w.heap.size ≤ (W.alloc (.cells #[.int .i64 (k : Nat)] 3)).heap.size := by have := hB.size; simp; omega
    by_cases h91 : c = 91
    · subst h91
      have hx1 := hrow.alloc (.cells #[.int .i64 (k : Nat)] 3)
      have hx3 : ∀ u ∈ [Value.int .i64 (k : Nat)], u.oneCell' = true := by simp [Value.oneCell']
      have hx2 := cell_one_new W (.int .i64 (k : Nat)) 3
      gi_wp2_with (gi_at_builtin; refine wpListIn_append_own _ rfl _ _ 23 rfl w.heap.size 3 i0 (.int .i64 0) 1 8 Tryd.underlying23 hi hz0 hz1 hz2 rfl (by decide) _ _ _ rfl hx1 ⟨W.heap.size, 0, none⟩ 1 1 [.int .i64 (k : Nat)] rfl rfl hx2 hx3 b1 b2 b3 ?_; intro v' w1 hown' hgrow _; obtain ⟨g', cap', rfl⟩ := ownsRow_succ hown'; obtain ⟨hv1, hv2, hr2, hk2, hb2⟩ := hv.appended (by decide) hrow hB.size (Nat.le_refl _) hown' hgrow; have hbx1 := ((hbx.alloc _).kept hgrow ((hbx.alloc _).not_row (by decide) hx1)).other (show w.heap.size + 1 ≠ w.heap.size by omega) (.slice (some ⟨g', 0, none⟩) ((destsOf bs pre).length + 1) cap'); have hc1 := hv1.cell; have hf1 := hv1.frozen)
      have hd : destsOf bs (pre ++ [⟨k, hk⟩]) = destsOf bs pre ++ [k] := dests_hit pre ⟨k, hk⟩ HC.out
      refine ⟨hk2.from _, ⟨hb2, fun v' hv' => ?_⟩, ⟨⟨_, hv2, ?_, trivial⟩, hbx1⟩, hB.trans hb2⟩
      · have := hbx.symm.trans hv'
        cases this
        exact hbx1
      · rw [hd]; simpa using hr2
    · gi_wp2
      have hd : destsOf bs (pre ++ [⟨k, hk⟩]) = destsOf bs pre := dests_miss pre ⟨k, hk⟩ (by rw [HC.out]; exact h91)
      exact ⟨KeepsFrom.refl _ _, KpO.refl _ _ _, ⟨⟨v, hv, by rw [hd]; exact hrow, trivial⟩, hbx⟩, hB⟩
  case done =>
    rintro D ys W hD hys ⟨⟨⟨v, hv, hrow, _⟩, _⟩, hB⟩ hK
    have hd : destsOf bs ys = jmps bs 0 := by unfold destsOf jmps; rw [hys]
    rw [hd] at hrow
    have hc := hv.cell
    clear hd hys
    gi_wp2
    refine ⟨by simp, .inl ⟨_, _, rfl, run_takeDeferred hK, ?_⟩⟩
    exact ⟨_, results_tmp rfl _ _ _, v, rfl, ownsRow_putObj hrow _ hK rfl, hB.trans (belowK_b (w := w) (Nat.le_refl _) W D _ _ (by simp at hD; omega) hK rfl rfl)⟩
  case stop =>
    rintro D c pre W _ _ h _
    exact h.elim
theorem jumps_any (b off cap : Nat) (bs : List Int) (hlen : bs.length ≤ 1048576) (hcap : bs.length ≤ cap) (w : World) (hI : BytesAt w b off bs) :
    Calls Tryd.prog 28 #[.slice (some ⟨b, off, none⟩) bs.length cap] w fun e W' => ∃ v, e = .returned v ∧ W'.ownsRow w.heap.size 3 1 v (jmps bs 0).length (i64s (jmps bs 0)) ∧ Below w.heap.size w W' :=
  callsIn_wide.1 (jumps_in Fence.wide 4 trivial trivial trivial trivial rfl (Nat.le_refl _) b off cap bs hlen hcap w hI)

set_option maxRecDepth 100000 in
theorem Jumps_any (b off cap : Nat) (bs : List Int) (hlen : bs.length ≤ 1048576) (hcap : bs.length ≤ cap) (w : World) (hI : BytesAt w b off bs) :
    Calls Tryd.prog 14 #[.slice (some ⟨b, off, none⟩) bs.length cap] w fun e W' => ∃ v, e = .returned v ∧ W'.ownsRow w.heap.size 3 1 v (jmps bs 0).length (i64s (jmps bs 0)) ∧ Below w.heap.size w W' := by
  have K := Lib.hid (jumps_any b off cap bs hlen hcap w hI)
  clear hI
  go_enter Tryd.func14, Tryd.ntmps14
  go_wp2_with (go_at_call 28; refine K.out.mono ?_; rintro e w' ⟨v, rfl, hown, hb⟩)
  go_ret
  exact ⟨v, rfl, hown, hb⟩
end Go.Proofs.YtkelpkpbkebphaaDoor
