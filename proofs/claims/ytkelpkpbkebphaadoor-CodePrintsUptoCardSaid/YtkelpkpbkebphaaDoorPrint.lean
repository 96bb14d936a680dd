/- What a code is as a text: the program's function. -/
import Derived.RangeFuncCalls
import Derived.RegionIn
import Derived.Shelf.RegionOpen
import Derived.Test.YtkelpkpbkebphaaDoorBuild2
namespace Go.Proofs.YtkelpkpbkebphaaDoor
open Go.RowKit Go.Shelf Go.Proofs
attribute [local go_sem] Oper.semAt_some

abbrev emptyB : Obj := .cells #[.pointer none, .slice none 0 0] 49
def acts (bv bp : Value) (Bs b off cap : Nat) (m k : Nat) : Act := { tmps := #[bv, undef, .string ⟨#[]⟩, bp, .int .i64 (k : Nat), .slice (some ⟨b, off + k, none⟩) m (cap - k), undef, undef, bv, .func (.func 48) #[] #[.pointer (some ⟨Bs, 0, none⟩)], .int .i64 (k : Nat), .slice (some ⟨b, off + k, none⟩) m (cap - k), undef, undef, undef, undef, undef, undef, undef, undef, undef, undef, undef, undef, undef, undef, undef, undef, undef, undef, undef, undef, undef, undef, undef, undef, undef, undef, undef, undef, undef, undef, undef, undef], defers := [] }
theorem below_two_ways {n : Nat} {w W W' : World} (h : Below n w W) (h' : Below n w W') (hs : W.heap.size ≤ W'.heap.size) : Below n W W' :=
  ⟨h'.os.trans h.os.symm, h'.tape.trans h.tape.symm, h'.output.trans h.output.symm, hs, fun k hk => (h'.block k hk).trans (h.block k hk).symm⟩
theorem St.fin {w : World} {bv : Value} {W : World} {l : List UInt8} {W' : World} (h : St w bv W l W') (h0 : Below w.heap.size w W) (B : Nat) :
    KeepsFrom B W W' ∧ Below w.heap.size W W' :=
  ⟨⟨h.keep.size, fun k o _ hk ho => h.keep.same k o hk (by cases o <;> simp_all [Obj.isCells, spared])⟩, below_two_ways h0 h.below h.keep.size⟩
set_option maxRecDepth 100000 in
set_option maxHeartbeats 2000000 in
theorem print_in (F : Fence) (n : Nat) (hfn : ∀ f, F.fn f) (hro : F.round = none) (hCv : ∀ n f args W R, Calls Tryd.prog f args W R → CallsIn F n Tryd.prog f args W R) (hn : 8 ≤ n) (b off cap : Nat) (bs : List Int) (hlen : bs.length ≤ 1048576) (hcap : bs.length ≤ cap) (w : World) (hI : BytesAt w b off bs) (HT : Tabs w) :
    CallsIn F n Tryd.prog 23 #[.slice (some ⟨b, off, none⟩) bs.length cap] w fun e W' => e = .returned (.string ⟨(textP bs (ords bs 0)).toArray⟩) ∧ Below w.heap.size w W' := by
  have h1 : 1 ≤ n := by omega
  have h23 := hfn 23
  have h34 := hfn 34
  have h48 := hfn 48
  have h32 := hfn 32
  have h29 := hfn 29
  have h31 := hfn 31
  have h35 := hfn 35
  have h36 := hfn 36
  have h37 := hfn 37
  refine callsIn_of_wp_marks Tryd.func23 rfl h23 ?_ hro
  simp only [Tryd.ntmps23, List.size_toArray, List.length_cons, List.length_nil, Nat.reduceAdd, Nat.reduceSub, Array.replicate_succ, Array.replicate_zero, List.push_toArray, List.append_toArray, List.nil_append, List.cons_append]
  gi_wp2_with (gi_at_call 34; refine (orders_in F (n - 1) h34 hro _ _ _ _).mono ?_; rintro e w' ⟨rfl, rfl⟩)
  have bN := Boxed.new (w.alloc emptyB) 22 (.slice (some ⟨b, off, none⟩) bs.length cap)
  rw [World.size_alloc] at bN
  have hB0 : Below w.heap.size w ((w.alloc emptyB).alloc (.cells #[.slice (some ⟨b, off, none⟩) bs.length cap] 22)) := ((Below.refl _ w).alloc (Nat.le_refl _) _).alloc (by simp) _
  have hI0 := hI.below hB0 hI.lt
  refine wpIn_rangeFunc_ownG hro h1 (gf := 48) (lb := #[.pointer (some ⟨w.heap.size + 1, 0, none⟩)]) rfl h48 (enters_of Tryd.func48 (by kernel_rfl) rfl)
    (orders_stops F (n - 1) h48 h32 hro (by omega) (w.heap.size + 1) w.heap.size b off cap bs hlen hcap _ (by simp; omega) hI.lt bN hI0) KpO.trans
    (fun W l o o' hl ho hc hw => ⟨belowK_b (by simp; omega) W l o o' hl ho hc hw, fun v hv => hv.kept (grownBy_putObj' W l o') (fun e => by cases e; exact absurd (ho.symm.trans hv) (by intro h; cases h; exact absurd hc (by simp [Obj.isCells])))⟩)
    (Below.refl _ _) (fun _ => rfl)
    (fun pre W => (Lib.IsBuilder 49 5 w.heap.size w.heap.size (Lib.byteCells (textP bs (pre.map Subtype.val))) W ∧ Boxed W (w.heap.size + 1) 22 (.slice (some ⟨b, off, none⟩) bs.length cap)) ∧ Below w.heap.size w W)
    (fun _ _ _ => False)
    (OwnFrom.and (OwnFrom.and (Own.from (builder_own w.heap.size w.heap.size (fun pre => Lib.byteCells (textP bs (List.map Subtype.val pre)))) _) (Own.from (boxed_own (w.heap.size + 1) 22 (fun _ => .slice (some ⟨b, off, none⟩) bs.length cap)) _)) (ownFrom_below (Nat.le_refl _) (by simp; omega)))
    (fun _ _ _ _ _ hs _ _ => hs)
    ⟨⟨?b0, bN⟩, hB0⟩
    (fun x => acts (.slice (some ⟨b, off, none⟩) bs.length cap) (.pointer (some ⟨w.heap.size, 0, none⟩)) (w.heap.size + 1) b off cap (endOf bs x.1 - x.1) x.1) ?assign ?body ?done ?stop
  case b0 =>
    exact builder_own _ _ (fun _ : Unit => []) () (w.alloc emptyB) _ none (Lib.fresh_isBuilder 49 5 w) (World.grownBy_alloc _ _ none) (fun r e => by cases e)
  case assign =>
    intro l x W K hK
    unfold acts at hK
    gi_wp2
    exact hK
  case body =>
    rintro l pre x W ⟨⟨hbd, hbx⟩, hB⟩ hlt
    obtain ⟨k, hk⟩ := x
    dsimp only
    have hst : St w (.slice (some ⟨b, off, none⟩) bs.length cap) W (textP bs (pre.map Subtype.val)) W := ⟨hbd, hbx, hB, KeepB.refl _⟩
    clear hbd hbx hB
    have hrg := hI.rng
    have hl0 : (textP bs (pre.map Subtype.val)).length ≤ 134217728 := by
      have := textP_length bs hrg (pre.map Subtype.val) (by simp only [List.mem_map]; rintro y ⟨z, _, rfl⟩; have := z.2; omega)
      rw [List.length_map] at this
      omega
    have hh := headP_length bs hrg k (by omega)
    obtain ⟨m, hm⟩ : ∃ m, endOf bs k - k = m := ⟨_, rfl⟩
    have hm1 : 1 ≤ m := by unfold endOf at hm; omega
    have hmb : k + m ≤ bs.length := by unfold endOf at hm; omega
    have hm33 : m ≤ 33 := by have := pushN_le (bs.getD k 0); unfold endOf at hm; omega
    have hlp : Hid (lineP bs k = headP bs k ++ (if 1 < m then [32] else []) ++ hexTo bs (k + 1) (m - 1) ++ [10]) := Lib.hid (by rw [← hm]; rfl)
    rw [hm]
    clear hm
    have HLP := Lib.hid hlp.out; clear hlp
    have HT1 := Lib.hid (fun l' W' (h : St w (.slice (some ⟨b, off, none⟩) bs.length cap) W l' W') => HT.below h.below)
    have hcl : Hid (∀ l' W' (j : Nat), St w (.slice (some ⟨b, off, none⟩) bs.length cap) W l' W' → k + j < bs.length → W'.cell? ⟨b, off + (k + j), none⟩ = some (.int .u8 (bs.getD (k + j) 0))) := fun l' W' j h hj => (hI.below h.below hI.lt).cell (k + j) hj
    obtain ⟨c, hc⟩ : ∃ c : Nat, bs.getD k 0 = c := ⟨(bs.getD k 0).toNat, by have := hrg k; omega⟩
    have hcb := Lib.hid hc
    have hc256 : c < 256 := by have := hrg k; omega
    have KI : Hid (∀ l' W', St w (.slice (some ⟨b, off, none⟩) bs.length cap) W l' W' → Calls Tryd.prog 29 #[.int .i64 (k : Nat)] W' fun e w' => e = .returned (.string ⟨(Lib.itoa (k : Nat)).toArray⟩) ∧ St w (.slice (some ⟨b, off, none⟩) bs.length cap) W l' w') := fun l' W' h => (itoa_any k (by omega) (by omega) W' (HT1.out _ _ h)).mono (fun e w' q => ⟨q.1, h.quiet q.2⟩)
    have KO : Hid (∀ l' W', St w (.slice (some ⟨b, off, none⟩) bs.length cap) W l' W' → Calls Tryd.prog 31 #[.int .u8 (c : Nat)] W' fun e w' => e = .returned (ofV (ofL c)) ∧ St w (.slice (some ⟨b, off, none⟩) bs.length cap) W l' w') := fun l' W' h => (of_any c W' hc256 (HT1.out _ _ h)).mono (fun e w' q => ⟨q.1, h.quiet q.2⟩)
    have hcell := hcl.out _ _ 0 hst (by omega)
    have hhd : headP bs k = Lib.itoa (k : Nat) ++ [32] ++ (ofL c).1 := by unfold headP; rw [hc]; rfl
    rw [show k + 0 = k by rfl, hc] at hcell
    have HEnd : Hid (∀ W', St w (.slice (some ⟨b, off, none⟩) bs.length cap) W (textP bs (pre.map Subtype.val) ++ lineP bs k) W' → ownPostG ((w.alloc emptyB).alloc (.cells #[.slice (some ⟨b, off, none⟩) bs.length cap] 22)).heap.size (KpO w.heap.size (w.heap.size + 1)) (fun pre W => (Lib.IsBuilder 49 5 w.heap.size w.heap.size (Lib.byteCells (textP bs (pre.map Subtype.val))) W ∧ Boxed W (w.heap.size + 1) 22 (.slice (some ⟨b, off, none⟩) bs.length cap)) ∧ Below w.heap.size w W) (fun _ _ _ => False) (pre ++ [⟨k, hk⟩]) W Exit.normal { tmps := #[], defers := [] } W') := fun W' h => by
      have hf := h.fin hst.below ((w.alloc emptyB).alloc (.cells #[.slice (some ⟨b, off, none⟩) bs.length cap] 22)).heap.size
      refine ⟨hf.1, ⟨hf.2, fun v hv => ?_⟩, ⟨?_, h.box⟩, h.below⟩
      · have := hst.box.symm.trans hv
        cases this
        exact h.box
      · have e : textP bs (List.map Subtype.val (pre ++ [⟨k, hk⟩])) = textP bs (pre.map Subtype.val) ++ lineP bs k := by rw [List.map_append]; exact textP_snoc ..
        rw [e]
        exact h.bld
    have hSd : Hid (∀ l' W', St w (.slice (some ⟨b, off, none⟩) bs.length cap) W l' W' → St w (.slice (some ⟨b, off, none⟩) bs.length cap) W l' W'.drew) := fun l' W' h => h.quiet (Below.drew (Below.refl _ _))
    have KB : Hid (∀ l' W' (d : UInt8), St w (.slice (some ⟨b, off, none⟩) bs.length cap) W l' W' → l'.length + 1 ≤ 140737488355328 → Calls Tryd.prog 36 #[.pointer (some ⟨w.heap.size, 0, none⟩), .int .u8 (d.toNat : Nat)] W' fun e w' => e = .returned .nilIface ∧ St w (.slice (some ⟨b, off, none⟩) bs.length cap) W (l' ++ [d]) w') := fun l' W' d h hl => h.byte d hl
    have KS : Hid (∀ l' W', St w (.slice (some ⟨b, off, none⟩) bs.length cap) W l' W' → l'.length + (headP bs k).length ≤ 140737488355328 → Calls Tryd.prog 35 #[.pointer (some ⟨w.heap.size, 0, none⟩), .string (⟨(Lib.itoa (k : Nat)).toArray⟩ ++ ⟨#[32]⟩ ++ ⟨(ofL c).1.toArray⟩)] W' fun e w' => e = .returned (.tuple #[.int .i64 ((headP bs k).length : Nat), .nilIface]) ∧ St w (.slice (some ⟨b, off, none⟩) bs.length cap) W (l' ++ headP bs k) w') := fun l' W' h hl => by
      have := h.str (headP bs k) hl
      rw [show (⟨(Lib.itoa (k : Nat)).toArray⟩ : ByteArray) ++ ⟨#[32]⟩ ++ ⟨(ofL c).1.toArray⟩ = ⟨(headP bs k).toArray⟩ by rw [hhd, ← bytes_add, ← bytes_add]]
      exact this
    clear hI HT hc hB0 hI0 bN hhd HT1
    have hq := Lib.itoa_length_le (k : Nat) (by omega) (by omega)
    have hnm := name_short c hc256
    generalize hS : St w (.slice (some ⟨b, off, none⟩) bs.length cap) W = S at *
    generalize textP bs (pre.map Subtype.val) = l0 at *
    generalize headP bs k = H at *
    generalize Lib.itoa (k : Nat) = q at *
    generalize hof : ofL c = r at *
    obtain ⟨nm, tk, gv, is⟩ := r
    dsimp only [ofV] at KO KS hnm
    have hd : 1 ≤ n - 1 - 1 := by omega
    have hmx : Tryd.prog.follows .mixedOrders = true := by kernel_rfl
    have hmc : m ≤ cap - k := by omega
    clear hof hS
    unfold acts
    gi_wp2
    have hfd : ∀ (a b c d : Value) (w : World), (Instr.field 43 (.agg #[a, b, c, d]) 0).run Tryd.prog w = .ok a w := fun _ _ _ _ _ => by kernel_rfl
    have hst0 := hSd.out _ _ hst
    refine wpIn_mono (Q := fun e a' w3 => e = .normal ∧ (∃ v12 v13 v14 v15 v16 v17 v18 v19 v20 v21, a' = { tmps := #[.slice (some ⟨b, off, none⟩) bs.length cap, undef, .string ⟨#[]⟩, .pointer (some ⟨w.heap.size, 0, none⟩), .int .i64 (k : Nat), .slice (some ⟨b, off + k, none⟩) m (cap - k), undef, undef, .slice (some ⟨b, off, none⟩) bs.length cap, .func (.func 48) #[] #[.pointer (some ⟨w.heap.size + 1, 0, none⟩)], .int .i64 (k : Nat), .slice (some ⟨b, off + k, none⟩) m (cap - k), v12, v13, v14, v15, v16, v17, v18, v19, v20, v21, undef, undef, undef, undef, undef, undef, undef, undef, undef, undef, undef, undef, undef, undef, undef, undef, undef, undef, undef, undef, undef, undef], defers := [] }) ∧ S (l0 ++ H) w3) ?_ ?_
    · gi_region_with_o (first
        | (gi_at_call 29; refine (CallsIn.inRound l (hCv _ _ _ _ _ (KI.out l0 _ hst0))).mono ?_; rintro e w1 ⟨rfl, hst1⟩; have hcell1 := hcl.out _ _ 0 hst1 (by omega); rw [show k + 0 = k by rfl, hcb.out] at hcell1)
        | (gi_at_call 31; refine (CallsIn.inRound l (hCv _ _ _ _ _ (KO.out l0 _ hst1))).mono ?_; rintro e w2 ⟨rfl, hst2⟩)
        | (gi_at_call 35; refine (CallsIn.inRound l (hCv _ _ _ _ _ (KS.out l0 _ hst2 (by omega)))).mono ?_; rintro e w3 ⟨rfl, hst3⟩))
      all_goals exact ⟨rfl, ⟨_, _, _, _, _, _, _, _, _, _, rfl⟩, hst3⟩
    rintro e a' w3 ⟨rfl, ⟨v12, v13, v14, v15, v16, v17, v18, v19, v20, v21, rfl⟩, hst3⟩
    clear hst hst0 hcell KI KO KS hfd hq hnm hSd
    by_cases hm2 : 1 < m
    · have hdd : decide (1 < m) = true := by simpa using hm2
      have hl1 : (l0 ++ H).length + 1 ≤ 140737488355328 := by rw [List.length_append]; omega
      gi_wp2_with (gi_at_call 36; refine (CallsIn.inRound l (hCv _ _ _ _ _ (KB.out _ _ 32 hst3 hl1))).mono ?_; rintro e w4 ⟨rfl, hst4⟩)
      obtain ⟨m', rfl⟩ : ∃ m', m = m' + 1 := ⟨m - 1, by omega⟩
      gi_loopw [29] (fun i wr => ∃ j : Nat, j ≤ m' ∧ i = .int .i64 j ∧ S (l0 ++ H ++ [32] ++ hexTo bs (k + 1) j) wr) (fun i _ => m' - (intOf i).toNat)
      case atStart => exact ⟨0, by omega, rfl, by simpa [hexTo] using hst4⟩
      case round =>
        obtain ⟨j, hj, rfl, hst5⟩ := hrel
        by_cases hlt : j < m'
        · have hcell := hcl.out _ _ (1 + j) hst5 (by omega)
          have hr := hrg (k + (1 + j))
          rw [show off + (k + (1 + j)) = off + k + 1 + j by omega] at hcell
          obtain ⟨x, hx⟩ : ∃ x : Nat, bs.getD (k + (1 + j)) 0 = x := ⟨(bs.getD (k + (1 + j)) 0).toNat, by omega⟩
          rw [hx] at hcell hr
          have HX := Lib.hid hx; clear hx
          have hl5 : (l0 ++ H ++ [32] ++ hexTo bs (k + 1) j).length + 2 ≤ 140737488355328 := by
            simp only [List.length_append, hexTo_length, List.length_singleton]; omega
          gi_wp2
          refine (CallsIn.inRound l (hCv _ _ _ _ _ (KB.out _ _ _ hst5 (by omega)))).mono ?_
          rintro e w6 ⟨rfl, hst6⟩
          gi_wp2
          refine (CallsIn.inRound l (hCv _ _ _ _ _ (KB.out _ _ _ hst6 (by simp only [List.length_append, List.length_singleton] at hl5 ⊢; omega)))).mono ?_
          rintro e w7 ⟨rfl, hst7⟩
          rw [dig_at, dig_at] at hst7
          gi_wp2
          refine ⟨⟨_, _, _, _, _, _, _, _, _, _, _, _, _, _, ⟨j + 1, by omega, by go_num, ?_⟩, rfl⟩, by simp [intOf]; omega⟩
          rw [show hexTo bs (k + 1) (j + 1) = hexTo bs (k + 1) j ++ hexI x by rw [hexTo, show k + 1 + j = k + (1 + j) by omega, HX.out]; rfl]
          simpa [hexI] using hst7
        · have hjm : j = m' := by omega
          subst hjm
          have hl5 : (l0 ++ H ++ [32] ++ hexTo bs (k + 1) j).length + 2 ≤ 140737488355328 := by
            simp only [List.length_append, hexTo_length, List.length_singleton]; omega
          gi_wp2
          refine (CallsIn.inRound l (hCv _ _ _ _ _ (KB.out _ _ 10 hst5 (by omega)))).mono ?_
          rintro e w6 ⟨rfl, hst6⟩
          gi_wp2
          refine HEnd.out _ ?_
          rw [HLP.out, if_pos hm2]
          simpa using hst6
    · have hm1' : m = 1 := by omega
      subst hm1'
      gi_wp2
      all_goals (
        gi_loopw [29] (fun i wr => i = .int .i64 0 ∧ wr = w3) (fun _ _ => 0)
        case atStart => exact ⟨rfl, rfl⟩
        case round =>
          obtain ⟨rfl, rfl⟩ := hrel
          have hl5 : (l0 ++ H).length + 1 ≤ 140737488355328 := by rw [List.length_append]; omega
          gi_wp2
          refine (CallsIn.inRound l (hCv _ _ _ _ _ (KB.out _ _ 10 hst3 hl5))).mono ?_
          rintro e w6 ⟨rfl, hst6⟩
          gi_wp2
          refine HEnd.out _ ?_
          rw [HLP.out, if_neg hm2]
          simpa [hexTo] using hst6)
  case done =>
    rintro D ys W hD hys ⟨⟨hbd, _⟩, hB⟩ hK
    rw [hys] at hbd
    gi_wp2_with (gi_at_call 37; refine (hCv _ _ _ _ _ (string_any w.heap.size w.heap.size (textP bs (ords bs 0)) W hbd hB.size)).mono ?_; rintro e w' ⟨rfl, hb', hk'⟩)
    have hK' := hk'.same _ _ hK rfl
    refine ⟨by simp, .inl ⟨_, _, rfl, run_takeDeferred hK', ?_⟩⟩
    exact ⟨_, results_tmp rfl _ _ _, rfl, (hB.trans hb').trans (belowK_b (w := w) (Nat.le_refl _) w' D _ _ (by simp at hD; omega) hK' rfl rfl)⟩
  case stop =>
    rintro D c pre W _ _ h _
    exact h.elim
theorem print_any (b off cap : Nat) (bs : List Int) (hlen : bs.length ≤ 1048576) (hcap : bs.length ≤ cap) (w : World) (hI : BytesAt w b off bs) (HT : Tabs w) :
    Calls Tryd.prog 23 #[.slice (some ⟨b, off, none⟩) bs.length cap] w fun e W' => e = .returned (.string ⟨(textP bs (ords bs 0)).toArray⟩) ∧ Below w.heap.size w W' :=
  callsIn_wide.1 (print_in Fence.wide 8 (fun _ => trivial) rfl (fun _ _ _ _ _ h => callsIn_wide.2 h) (Nat.le_refl _) b off cap bs hlen hcap w hI HT)
end Go.Proofs.YtkelpkpbkebphaaDoor
