/- What the program tells of an order, whichever it is. -/
import Derived.Test.YtkelpkpbkebphaaDoorOf2
namespace Go.Proofs.YtkelpkpbkebphaaDoor
open Go.RowKit Go.Proofs

theorem pushes_any (op : Nat) (w : World) (hop : op < 256) :
    Calls Tryd.prog 32 #[.int .u8 op] w fun e w' => e = .returned (.int .i64 (pushN op)) ∧ w = w' := by
  by_cases h1 : op < 96
  · have e : pushN op = 0 := by unfold pushN; rw [if_neg (by omega)]
    rw [e]
    go_enter Tryd.func32, Tryd.ntmps32
    go_wp2
    go_ret
    exact ⟨rfl, rfl⟩
  · by_cases h2 : 127 < op
    · have e : pushN op = 0 := by unfold pushN; rw [if_neg (by omega)]
      rw [e]
      go_enter Tryd.func32, Tryd.ntmps32
      go_wp2
      go_ret
      exact ⟨rfl, rfl⟩
    · have e : pushN op = op - 95 := by unfold pushN; rw [if_pos (by omega)]; omega
      have e2 : ((op - 95 : Nat) : Int) = (op : Int) - 96 + 1 := by omega
      rw [e, e2]
      clear e e2
      go_enter Tryd.func32, Tryd.ntmps32
      go_wp2
      go_ret
      exact ⟨rfl, rfl⟩

set_option maxRecDepth 100000 in
set_option maxHeartbeats 400000 in
theorem of_push (op : Nat) (w : World) (h1 : 96 ≤ op) (h2 : op ≤ 127) (HT : Tabs w) :
    Calls Tryd.prog 31 #[.int .u8 op] w fun e w' => e = .returned (ofV (ofL op)) ∧ Below w.heap.size w w' := by
  have HT1 := Lib.hid HT; clear HT
  have e : ofL op = ([80, 85, 83, 72] ++ Lib.itoa ((op - 95 : Nat) : Int), 0, 1, true) := by unfold ofL; rw [if_pos (by omega)]
  have E : ofV (ofL op) = .agg #[.string (⟨#[80, 85, 83, 72]⟩ ++ ⟨(Lib.itoa ((op : Int) - 95)).toArray⟩), .int .i64 (0), .int .i64 (1), .bool true] := by
    rw [e]; unfold ofV; dsimp only
    try rw [show (((op - 95 : Nat) : Int) : Int) = (op : Int) - 95 by omega]
    try rw [show (((0) : Nat) : Int) = 0 by omega]
    try rw [show (((1) : Nat) : Int) = 1 by omega]
    try rw [show (⟨#[80, 85, 83, 72]⟩ : ByteArray) ++ ⟨(Lib.itoa ((op : Int) - 95)).toArray⟩ = ⟨([80, 85, 83, 72] ++ Lib.itoa ((op : Int) - 95)).toArray⟩ from ByteArray.ext (by simp)]
  rw [E]
  clear e E
  have hop : op < 256 := by omega
  have HP : Hid ((pushN op : Int) = (op : Int) - 95) := by
    show (pushN op : Int) = (op : Int) - 95
    unfold pushN; rw [if_pos (by omega)]; omega
  go_enter Tryd.func31, Tryd.ntmps31
  go_wp2_with (go_at_call 32; refine (pushes_any op _ hop).mono ?_; rintro e w' ⟨rfl, rfl⟩; rw [HP.out])
  refine (counted_any _ _ _ _ _ (by omega) (by omega) (by decide) (HT1.out.below ((Below.refl _ _).alloc (Nat.le_refl _) _))).mono ?_
  rintro e w1 ⟨rfl, hb⟩
  have hc : w1.heap[w.heap.size]? = some (.cells zero43 43) := (hb.block _ (by simp)).trans (heap_alloc_new _ _)
  have hbw : Below w.heap.size w w1 := ((Below.refl _ w).alloc (Nat.le_refl _) _).trans (hb.mono (by simp))
  clear hb
  obtain ⟨q, hq⟩ : ∃ q, Lib.itoa ((op : Int) - 95) = q := ⟨_, rfl⟩
  rw [hq]
  have HQ := Lib.hid hq; clear hq
  go_wp2_with (refine wpList_store_row rfl 43 _ _ rfl w.heap.size #[.string (⟨#[80, 85, 83, 72]⟩ ++ ⟨q.toArray⟩), .int .i64 (0), .int .i64 (1), .bool true] rfl rfl 43 zero43 hc (by kernel_rfl) (by kernel_rfl) (by kernel_rfl) ?_)
  exact bodyPost_ret (v := .agg #[.string (⟨#[80, 85, 83, 72]⟩ ++ ⟨q.toArray⟩), .int .i64 (0), .int .i64 (1), .bool true]) (results_cell_row rfl _ _ w.heap.size 43 _ (0, 0) _ rfl (setRow_heap _ _ _ _ _ _ hc) Tryd.underlying43 (by kernel_rfl) (by kernel_rfl)) rfl ⟨by rw [HQ.out], below_setRow hbw (Nat.le_refl _) _⟩

set_option maxRecDepth 100000 in
set_option maxHeartbeats 400000 in
theorem of_dup (op : Nat) (w : World) (h1 : 128 ≤ op) (h2 : op ≤ 143) (HT : Tabs w) :
    Calls Tryd.prog 31 #[.int .u8 op] w fun e w' => e = .returned (ofV (ofL op)) ∧ Below w.heap.size w w' := by
  have HT1 := Lib.hid HT; clear HT
  have e : ofL op = ([68, 85, 80] ++ Lib.itoa ((op - 127 : Nat) : Int), op - 127, op - 126, true) := by unfold ofL; rw [if_neg (by omega), if_pos (by omega)]
  have E : ofV (ofL op) = .agg #[.string (⟨#[68, 85, 80]⟩ ++ ⟨(Lib.itoa ((op : Int) - 128 + 1)).toArray⟩), .int .i64 ((op : Int) - 128 + 1), .int .i64 ((op : Int) - 128 + 1 + 1), .bool true] := by
    rw [e]; unfold ofV; dsimp only
    try rw [show (((op - 127 : Nat) : Int) : Int) = (op : Int) - 128 + 1 by omega]
    try rw [show (((op - 127) : Nat) : Int) = (op : Int) - 128 + 1 by omega]
    try rw [show (((op - 126) : Nat) : Int) = (op : Int) - 128 + 1 + 1 by omega]
    try rw [show (⟨#[68, 85, 80]⟩ : ByteArray) ++ ⟨(Lib.itoa ((op : Int) - 128 + 1)).toArray⟩ = ⟨([68, 85, 80] ++ Lib.itoa ((op : Int) - 128 + 1)).toArray⟩ from ByteArray.ext (by simp)]
  rw [E]
  clear e E
  go_enter Tryd.func31, Tryd.ntmps31
  go_wp2_with fail
  refine (counted_any _ _ _ _ _ (by omega) (by omega) (by decide) (HT1.out.below ((Below.refl _ _).alloc (Nat.le_refl _) _))).mono ?_
  rintro e w1 ⟨rfl, hb⟩
  have hc : w1.heap[w.heap.size]? = some (.cells zero43 43) := (hb.block _ (by simp)).trans (heap_alloc_new _ _)
  have hbw : Below w.heap.size w w1 := ((Below.refl _ w).alloc (Nat.le_refl _) _).trans (hb.mono (by simp))
  clear hb
  obtain ⟨q, hq⟩ : ∃ q, Lib.itoa ((op : Int) - 128 + 1) = q := ⟨_, rfl⟩
  rw [hq]
  have HQ := Lib.hid hq; clear hq
  go_wp2_with (refine wpList_store_row rfl 43 _ _ rfl w.heap.size #[.string (⟨#[68, 85, 80]⟩ ++ ⟨q.toArray⟩), .int .i64 ((op : Int) - 128 + 1), .int .i64 ((op : Int) - 128 + 1 + 1), .bool true] rfl rfl 43 zero43 hc (by kernel_rfl) (by kernel_rfl) (by kernel_rfl) ?_)
  exact bodyPost_ret (v := .agg #[.string (⟨#[68, 85, 80]⟩ ++ ⟨q.toArray⟩), .int .i64 ((op : Int) - 128 + 1), .int .i64 ((op : Int) - 128 + 1 + 1), .bool true]) (results_cell_row rfl _ _ w.heap.size 43 _ (0, 0) _ rfl (setRow_heap _ _ _ _ _ _ hc) Tryd.underlying43 (by kernel_rfl) (by kernel_rfl)) rfl ⟨by rw [HQ.out], below_setRow hbw (Nat.le_refl _) _⟩

set_option maxRecDepth 100000 in
set_option maxHeartbeats 400000 in
theorem of_swap (op : Nat) (w : World) (h1 : 144 ≤ op) (h2 : op ≤ 159) (HT : Tabs w) :
    Calls Tryd.prog 31 #[.int .u8 op] w fun e w' => e = .returned (ofV (ofL op)) ∧ Below w.heap.size w w' := by
  have HT1 := Lib.hid HT; clear HT
  have e : ofL op = ([83, 87, 65, 80] ++ Lib.itoa ((op - 143 : Nat) : Int), op - 142, op - 142, true) := by unfold ofL; rw [if_neg (by omega), if_neg (by omega), if_pos (by omega)]
  have E : ofV (ofL op) = .agg #[.string (⟨#[83, 87, 65, 80]⟩ ++ ⟨(Lib.itoa ((op : Int) - 144 + 1)).toArray⟩), .int .i64 ((op : Int) - 144 + 1 + 1), .int .i64 ((op : Int) - 144 + 1 + 1), .bool true] := by
    rw [e]; unfold ofV; dsimp only
    try rw [show (((op - 143 : Nat) : Int) : Int) = (op : Int) - 144 + 1 by omega]
    try rw [show (((op - 142) : Nat) : Int) = (op : Int) - 144 + 1 + 1 by omega]
    try rw [show (((op - 142) : Nat) : Int) = (op : Int) - 144 + 1 + 1 by omega]
    try rw [show (⟨#[83, 87, 65, 80]⟩ : ByteArray) ++ ⟨(Lib.itoa ((op : Int) - 144 + 1)).toArray⟩ = ⟨([83, 87, 65, 80] ++ Lib.itoa ((op : Int) - 144 + 1)).toArray⟩ from ByteArray.ext (by simp)]
  rw [E]
  clear e E
  go_enter Tryd.func31, Tryd.ntmps31
  go_wp2_with fail
  refine (counted_any _ _ _ _ _ (by omega) (by omega) (by decide) (HT1.out.below ((Below.refl _ _).alloc (Nat.le_refl _) _))).mono ?_
  rintro e w1 ⟨rfl, hb⟩
  have hc : w1.heap[w.heap.size]? = some (.cells zero43 43) := (hb.block _ (by simp)).trans (heap_alloc_new _ _)
  have hbw : Below w.heap.size w w1 := ((Below.refl _ w).alloc (Nat.le_refl _) _).trans (hb.mono (by simp))
  clear hb
  obtain ⟨q, hq⟩ : ∃ q, Lib.itoa ((op : Int) - 144 + 1) = q := ⟨_, rfl⟩
  rw [hq]
  have HQ := Lib.hid hq; clear hq
  go_wp2_with (refine wpList_store_row rfl 43 _ _ rfl w.heap.size #[.string (⟨#[83, 87, 65, 80]⟩ ++ ⟨q.toArray⟩), .int .i64 ((op : Int) - 144 + 1 + 1), .int .i64 ((op : Int) - 144 + 1 + 1), .bool true] rfl rfl 43 zero43 hc (by kernel_rfl) (by kernel_rfl) (by kernel_rfl) ?_)
  exact bodyPost_ret (v := .agg #[.string (⟨#[83, 87, 65, 80]⟩ ++ ⟨q.toArray⟩), .int .i64 ((op : Int) - 144 + 1 + 1), .int .i64 ((op : Int) - 144 + 1 + 1), .bool true]) (results_cell_row rfl _ _ w.heap.size 43 _ (0, 0) _ rfl (setRow_heap _ _ _ _ _ _ hc) Tryd.underlying43 (by kernel_rfl) (by kernel_rfl)) rfl ⟨by rw [HQ.out], below_setRow hbw (Nat.le_refl _) _⟩

set_option maxRecDepth 100000 in
set_option maxHeartbeats 400000 in
theorem of_log (op : Nat) (w : World) (h1 : 160 ≤ op) (h2 : op ≤ 164) (HT : Tabs w) :
    Calls Tryd.prog 31 #[.int .u8 op] w fun e w' => e = .returned (ofV (ofL op)) ∧ Below w.heap.size w w' := by
  have HT1 := Lib.hid HT; clear HT
  have e : ofL op = ([76, 79, 71] ++ Lib.itoa ((op - 160 : Nat) : Int), op - 158, 0, true) := by unfold ofL; rw [if_neg (by omega), if_neg (by omega), if_neg (by omega), if_pos (by omega)]
  have E : ofV (ofL op) = .agg #[.string (⟨#[76, 79, 71]⟩ ++ ⟨(Lib.itoa ((op : Int) - 160)).toArray⟩), .int .i64 ((op : Int) - 160 + 2), .int .i64 (0), .bool true] := by
    rw [e]; unfold ofV; dsimp only
    try rw [show (((op - 160 : Nat) : Int) : Int) = (op : Int) - 160 by omega]
    try rw [show (((op - 158) : Nat) : Int) = (op : Int) - 160 + 2 by omega]
    try rw [show (((0) : Nat) : Int) = 0 by omega]
    try rw [show (⟨#[76, 79, 71]⟩ : ByteArray) ++ ⟨(Lib.itoa ((op : Int) - 160)).toArray⟩ = ⟨([76, 79, 71] ++ Lib.itoa ((op : Int) - 160)).toArray⟩ from ByteArray.ext (by simp)]
  rw [E]
  clear e E
  go_enter Tryd.func31, Tryd.ntmps31
  go_wp2_with fail
  refine (counted_any _ _ _ _ _ (by omega) (by omega) (by decide) (HT1.out.below ((Below.refl _ _).alloc (Nat.le_refl _) _))).mono ?_
  rintro e w1 ⟨rfl, hb⟩
  have hc : w1.heap[w.heap.size]? = some (.cells zero43 43) := (hb.block _ (by simp)).trans (heap_alloc_new _ _)
  have hbw : Below w.heap.size w w1 := ((Below.refl _ w).alloc (Nat.le_refl _) _).trans (hb.mono (by simp))
  clear hb
  obtain ⟨q, hq⟩ : ∃ q, Lib.itoa ((op : Int) - 160) = q := ⟨_, rfl⟩
  rw [hq]
  have HQ := Lib.hid hq; clear hq
  go_wp2_with (refine wpList_store_row rfl 43 _ _ rfl w.heap.size #[.string (⟨#[76, 79, 71]⟩ ++ ⟨q.toArray⟩), .int .i64 ((op : Int) - 160 + 2), .int .i64 (0), .bool true] rfl rfl 43 zero43 hc (by kernel_rfl) (by kernel_rfl) (by kernel_rfl) ?_)
  exact bodyPost_ret (v := .agg #[.string (⟨#[76, 79, 71]⟩ ++ ⟨q.toArray⟩), .int .i64 ((op : Int) - 160 + 2), .int .i64 (0), .bool true]) (results_cell_row rfl _ _ w.heap.size 43 _ (0, 0) _ rfl (setRow_heap _ _ _ _ _ _ hc) Tryd.underlying43 (by kernel_rfl) (by kernel_rfl)) rfl ⟨by rw [HQ.out], below_setRow hbw (Nat.le_refl _) _⟩

theorem of_any (op : Nat) (w : World) (hop : op < 256) (HT : Tabs w) :
    Calls Tryd.prog 31 #[.int .u8 op] w fun e w' => e = .returned (ofV (ofL op)) ∧ Below w.heap.size w w' := by
  by_cases h1 : op < 96
  · have e : ofL op = findRow op 42 0 := by unfold ofL; rw [if_neg (by omega), if_neg (by omega), if_neg (by omega), if_neg (by omega)]
    rw [e]; exact of_rows op w hop (.inl h1) HT
  · by_cases h2 : op ≤ 127
    · exact of_push op w (by omega) h2 HT
    · by_cases h3 : op ≤ 143
      · exact of_dup op w (by omega) h3 HT
      · by_cases h4 : op ≤ 159
        · exact of_swap op w (by omega) h4 HT
        · by_cases h5 : op ≤ 164
          · exact of_log op w (by omega) h5 HT
          · have e : ofL op = findRow op 42 0 := by unfold ofL; rw [if_neg (by omega), if_neg (by omega), if_neg (by omega), if_neg (by omega)]
            rw [e]; exact of_rows op w hop (.inr (by omega)) HT

set_option maxRecDepth 100000 in
theorem is_any (op : Nat) (w : World) (hop : op < 256) (HT : Tabs w) :
    Calls Tryd.prog 16 #[.int .u8 op] w fun e w' => e = .returned (.bool (ofL op).2.2.2) ∧ Below w.heap.size w w' := by
  have H := of_any op w hop HT
  clear HT
  unfold ofV at H
  generalize ofL op = r at *
  have K := Lib.hid H; clear H
  have hfd : ∀ (a b c d : Value) (w : World), (Instr.field 43 (.agg #[a, b, c, d]) 3).run Tryd.prog w = .ok d w := fun _ _ _ _ _ => by kernel_rfl
  go_enter Tryd.func16, Tryd.ntmps16
  go_wp2_with (go_at_call 31; refine K.out.mono ?_; rintro e w' ⟨rfl, hb⟩)
  go_ret
  exact ⟨rfl, hb⟩
set_option maxRecDepth 100000 in
theorem name_any (op : Nat) (w : World) (hop : op < 256) (HT : Tabs w) :
    Calls Tryd.prog 17 #[.int .u8 op] w fun e w' => e = .returned (.string ⟨(ofL op).1.toArray⟩) ∧ Below w.heap.size w w' := by
  have H := of_any op w hop HT
  clear HT
  unfold ofV at H
  generalize ofL op = r at *
  have K := Lib.hid H; clear H
  have hfd : ∀ (a b c d : Value) (w : World), (Instr.field 43 (.agg #[a, b, c, d]) 0).run Tryd.prog w = .ok a w := fun _ _ _ _ _ => by kernel_rfl
  go_enter Tryd.func17, Tryd.ntmps17
  go_wp2_with (go_at_call 31; refine K.out.mono ?_; rintro e w' ⟨rfl, hb⟩)
  go_ret
  exact ⟨rfl, hb⟩
set_option maxRecDepth 100000 in
theorem takes_any (op : Nat) (w : World) (hop : op < 256) (HT : Tabs w) :
    Calls Tryd.prog 18 #[.int .u8 op] w fun e w' => e = .returned (.int .i64 (ofL op).2.1) ∧ Below w.heap.size w w' := by
  have H := of_any op w hop HT
  clear HT
  unfold ofV at H
  generalize ofL op = r at *
  have K := Lib.hid H; clear H
  have hfd : ∀ (a b c d : Value) (w : World), (Instr.field 43 (.agg #[a, b, c, d]) 1).run Tryd.prog w = .ok b w := fun _ _ _ _ _ => by kernel_rfl
  go_enter Tryd.func18, Tryd.ntmps18
  go_wp2_with (go_at_call 31; refine K.out.mono ?_; rintro e w' ⟨rfl, hb⟩)
  go_ret
  exact ⟨rfl, hb⟩
set_option maxRecDepth 100000 in
theorem gives_any (op : Nat) (w : World) (hop : op < 256) (HT : Tabs w) :
    Calls Tryd.prog 19 #[.int .u8 op] w fun e w' => e = .returned (.int .i64 (ofL op).2.2.1) ∧ Below w.heap.size w w' := by
  have H := of_any op w hop HT
  clear HT
  unfold ofV at H
  generalize ofL op = r at *
  have K := Lib.hid H; clear H
  have hfd : ∀ (a b c d : Value) (w : World), (Instr.field 43 (.agg #[a, b, c, d]) 2).run Tryd.prog w = .ok c w := fun _ _ _ _ _ => by kernel_rfl
  go_enter Tryd.func19, Tryd.ntmps19
  go_wp2_with (go_at_call 31; refine K.out.mono ?_; rintro e w' ⟨rfl, hb⟩)
  go_ret
  exact ⟨rfl, hb⟩
theorem push_any (op : Nat) (w : World) (hop : op < 256) :
    Calls Tryd.prog 20 #[.int .u8 op] w fun e w' => e = .returned (.int .i64 (pushN op)) ∧ w = w' := by
  have H := pushes_any op w hop
  generalize pushN op = r at *
  have K := Lib.hid H; clear H
  go_enter Tryd.func20, Tryd.ntmps20
  go_wp2_with (go_at_call 32; refine K.out.mono ?_; rintro e w' ⟨rfl, rfl⟩)
  go_ret
  exact ⟨rfl, rfl⟩
set_option maxRecDepth 100000 in
/-- The document's answer: how many bytes an order has. -/
theorem refPush_any (op : Nat) (w : World) (hop : op < 256) :
    Calls Tryd.prog 10 #[.int .u8 op] w fun e w' => e = .returned (.int .i64 (pushN op)) ∧ w = w' := by
  by_cases h1 : op < 96
  · have e : pushN op = 0 := by unfold pushN; rw [if_neg (by omega)]
    rw [e]; clear e
    go_enter Tryd.func10, Tryd.ntmps10
    go_wp2
    go_ret
    exact ⟨rfl, rfl⟩
  · by_cases h2 : 127 < op
    · have e : pushN op = 0 := by unfold pushN; rw [if_neg (by omega)]
      rw [e]; clear e
      go_enter Tryd.func10, Tryd.ntmps10
      go_wp2
      go_ret
      exact ⟨rfl, rfl⟩
    · have e : pushN op = op - 95 := by unfold pushN; rw [if_pos (by omega)]; omega
      have e2 : ((op - 95 : Nat) : Int) = (op : Int) - 95 := by omega
      rw [e, e2]
      clear e e2
      go_enter Tryd.func10, Tryd.ntmps10
      go_wp2
      go_ret
      exact ⟨rfl, rfl⟩
end Go.Proofs.YtkelpkpbkebphaaDoor
